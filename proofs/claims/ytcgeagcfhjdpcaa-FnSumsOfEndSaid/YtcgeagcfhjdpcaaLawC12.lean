/- The law FnSumsOfEnd: for every input the law returns true, and nothing that was there has turned. -/
import Derived.Test.YtcgeagcfhjdpcaaFrame2
import Derived.Test.YtcgeagcfhjdpcaaColl
import Derived.Test.YtcgeagcfhjdpcaaEq
import Derived.Test.YtcgeagcfhjdpcaaDrawN
import Derived.Test.YtcgeagcfhjdpcaaPlainC2
import Derived.Test.YtcgeagcfhjdpcaaLive
import Derived.Test.YtcgeagcfhjdpcaaQuiet
namespace Go.Proofs.Ytcgeagcfhjdpcaa
set_option linter.unusedVariables false
open Go.ChangeShapes Go.WideShapes Go.ChangeAt Go.RowKit

attribute [local irreducible] wpQuiet
set_option maxRecDepth 100000 in
set_option maxHeartbeats 1600000 in
theorem walkFnSumsOfEnd (A : Option Addr) (n c : Nat) (l : List Int) (W : World) (h : Rd W 1 A n c (bc l)) (hb : By l) : Calls Try.prog 8 #[.slice A n c] W fun e w' => e = .returned (.bool true) ∧ Below W.heap.size W w' := by
  by_cases hbig : (1048576 : Int) < (n : Int)
  · clear h hb
    go_enter Try.func8, Try.ntmps8
    go_wp2
    go_ret
    exact ⟨rfl, Below.refl _ _⟩
  go_enter Try.func8, Try.ntmps8
  go_wp2_with fail
  refine (drawSum_any A n c l _ h hb (by omega)).mono ?_
  rintro e w1 ⟨A1, c1, L, rfl, h1, hm, g1⟩
  have RA := Lib.hid h1
  have L1 := (Live.zero W).step g1
  have hL17 := hm.1
  obtain ⟨M, hv⟩ : ∃ M, sumX L = M := ⟨_, rfl⟩
  have HV := Lib.hid hv
  clear hv h hb h1 hm g1
  go_wp2_with fail
  refine (sumsI_at _ _ _ L M _ RA.out HV.out).mono ?_
  rintro e w2 ⟨A2, c2, rfl, o1, g1⟩
  have L2 := L1.new o1 g1
  have q2 := g1
  clear L1 o1 g1
  go_wp2_with fail
  refine (sumsS_at _ _ _ L M _ (RA.out.keptN q2) HV.out).mono ?_
  rintro e w3 ⟨A3, c3, rfl, o1, g1⟩
  have L3 := L2.new o1 g1
  have q3 := g_trans q2 g1
  clear L2 o1 g1 q2
  go_wp2_with fail
  refine (equalInts_same _ _ _ _ _ _ M _ (L3.rd 1 rfl) (L3.rd 0 rfl)).mono ?_
  rintro e w4 ⟨rfl, g1⟩
  have L4 := (L3.step g1).drop
  have q4 := g_trans q3 g1
  clear L3 g1 q3
  by_cases hz : M.length = 0
  · have hz' : ((M.length : Int) == 0) = true := by rw [hz]; rfl
    have H0 := Lib.hid hz
    clear hz
    go_wp2_with fail
    refine (sumsS_at _ _ _ L M _ (RA.out.keptN q4) HV.out).mono ?_
    rintro e w5 ⟨A5, c5, rfl, o1, g1⟩
    have L5 := L4.new o1 g1
    clear L4 o1 g1
    go_wp2_with fail
    refine (equalInts_same _ _ _ _ _ _ M _ (L5.rd 1 rfl) (L5.rd 0 rfl)).mono ?_
    rintro e w6 ⟨rfl, g1⟩
    have L6 := L5.step g1
    clear L5 g1
    go_wp2
    go_ret
    exact ⟨ret_b (by simp), L6.bel⟩
  have hz' : ((M.length : Int) == 0) = false := by rw [beq_eq_false_iff_ne]; omega
  have hok : okN L = true := by
    cases hk : okN L with
    | true => rfl
    | false =>
      exfalso
      have := HV.out
      rw [sumX_no hk] at this
      subst this
      simp at hz
  have hM := HV.out
  rw [sumX_yes hok] at hM
  have hml : M.length = L.length := by rw [← hM, sum_len]
  have h16 : L.length ≤ 16 := (okN_iff.1 hok).1
  have HB : Hid (∀ x ∈ L, -100000 ≤ x ∧ x ≤ 100000) := (okN_iff.1 hok).2
  obtain ⟨k, hk⟩ : ∃ k, k = L.length / 2 := ⟨_, rfl⟩
  obtain ⟨N, hN⟩ : ∃ N, M.take k = N := ⟨_, rfl⟩
  have HP := Lib.hid (show sumX (L.take k) = N by rw [← hN, ← hM]; exact sum_pre hok k)
  obtain ⟨g, hg0⟩ : ∃ g, M.length = g + 1 := ⟨M.length - 1, by omega⟩
  have hL0 : 0 < L.length := by omega
  have hlast : M[g]? = some (totN L) := by
    rw [← hM]
    have := sum_last (l := L) (fun e => by rw [e] at hL0; simp at hL0)
    rw [← hml, hg0, Nat.add_sub_cancel] at this
    exact this
  have RM := Lib.hid (show Rd w4 1 A2 M.length c2 (ic M) from L4.rd 0 rfl)
  have RL := Lib.hid (RA.out.keptN q4)
  have G4 := Lib.hid L4.grown
  have HX := Lib.hid (And.intro hlast (And.intro hg0 (And.intro hk hml)))
  have hL0 : 0 < L.length := by omega
  have HN := Lib.hid hN
  clear hM hok hz hml hlast hg0 hk L4 q4 RA hN
  go_wp2
  go_loopw [5, 6] (fun a i wr => ∃ j : Nat, j ≤ L.length ∧ i = .int .i64 j ∧ a = .int .i64 (totN (L.take j)) ∧ wr = w4) (fun _ i _ => L.length - (Go.RowKit.intOf i).toNat)
  case atStart => exact ⟨0, Nat.zero_le _, rfl, by simp [totN], rfl⟩
  case round =>
    obtain ⟨j, hj, rfl, rfl, hwj⟩ := hrel
    subst hwj
    by_cases hlt : j < L.length
    · obtain ⟨x, hx, -⟩ := get_ex (l := L) (i := j) hlt
      have bx := HB.out x (List.mem_of_getElem? hx)
      have bt := tot_bd (B := 100000) (l := L.take j) (fun y hy => HB.out y (List.mem_of_mem_take hy))
      have hll : (L.take j).length ≤ 16 := by rw [List.length_take]; omega
      have e := tot_snoc (L.take j) x
      rw [← take_get hx] at e
      obtain ⟨b, o, rfl, hc⟩ := RL.out.cells hlt
      have cx := hc _ _ (ic_at hx)
      have hlt' : (j : Int) < (L.length : Int) := by omega
      have hw : IntKind.i64.wrap (totN (L.take j) + x) = totN (L.take j) + x := IntWalk.i64_in _ (by omega)
      have E := Lib.hid e
      clear hx bx bt hll e hc
      go_wp2
      go_roundw
      case rel => exact ⟨j + 1, by omega, by go_num, by rw [E.out], by trivial⟩
      case measure => simp [Go.RowKit.intOf]; omega
    · have hge : ¬ (j : Int) < (L.length : Int) := by omega
      have e1 : totN (L.take j) = totN L := by rw [List.take_of_length_le (by omega)]
      rw [e1]
      obtain ⟨hlast, hg0, hk, hml⟩ := HX.out
      obtain ⟨b, o, rfl, hc⟩ := RM.out.cells (i := g) (by omega)
      have cx := hc _ _ (ic_at hlast)
      have hT := RL.out.to_ (k := k) (by omega)
      have hTM := RM.out.to_ (k := k) (by omega)
      rw [ic_take] at hT hTM
      rw [HN.out] at hTM
      have HT := Lib.hid (hT.keptN (g_drew wr none))
      have HTM := Lib.hid (hTM.keptN (g_drew wr none))
      have hc1 := RL.out.cap
      have hc2 := RM.out.cap
      have hk2 : (L.length : Int) / 2 = (k : Int) := by omega
      have hk3 : Int.tdiv (L.length : Int) 2 = (k : Int) := by rw [Int.tdiv_eq_ediv_of_nonneg (by omega)]; exact hk2
      have k0 : (0 : Int) ≤ (k : Int) := by omega
      have k1 : (k : Int) ≤ (L.length : Int) := by omega
      have k2 : (k : Int) ≤ (c1 : Int) := by omega
      have k3 : (k : Int) ≤ (M.length : Int) := by omega
      have k4 : (k : Int) ≤ (c2 : Int) := by omega
      have hw : IntKind.i64.wrap ((M.length : Int) - 1) = (g : Int) := by rw [show ((M.length : Int) - 1) = (g : Int) by omega]; exact IntWalk.i64_in _ (by omega)
      have hgm : (g : Int) < (M.length : Int) := by omega
      have hgm2 : g < M.length := by omega
      have e2 : (totN L == totN L) = true := by simp
      clear hlast hg0 hk hml hc hT hTM hc1 hc2 e1 HX
      go_wp2_with fail
      go_region_held3 (fun w' => w'.cell? ⟨b, o + g, none⟩ = some (.int .i64 (totN L)))
        (first | go_keep | exact g6.cell (by simp; exact cx) (by simp) | exact (g_trans g6 g7).cell (by simp; exact cx) (by simp))
        (first
          | (go_at_call 32; refine (sumsI_at _ _ _ (L.take k) N _ HT.out HP.out).mono ?_; rintro e w6 ⟨A6, c6, rfl, o6, g6⟩; have R6 := Rd.own o6)
          | (go_at_call 29; refine (equalInts_same _ _ _ _ _ _ N _ R6 (HTM.out.keptN g6)).mono ?_; rintro e w7 ⟨rfl, g7⟩))
      have hbel := g_below (g_trans G4.out (g_trans (g_drew wr none) (g_trans g6 g7))) (Nat.le_refl _) (by simp)
      clear g6 g7 o6 R6
      go_wp2
      go_ret
      exact ⟨ret_b (by simp), hbel⟩
set_option maxRecDepth 100000 in
set_option linter.unusedVariables false in
theorem liftedFnSumsOfEnd (os : Os) (started : os.Started) (H : Type) (enc : TypeId × Value → H) :
    ReturnsInHanded {} Try.checked os 8 .any (Rows.fnSumsOfEndSpec.pre6 enc Try.prog Try.f8 Rows.fnSumsOfEndRow.domain false) (Rows.fnSumsOfEndSpec.post enc Try.prog Try.f8 false true false false) := by
  refine returnsInHanded_of_change (C := Try.checked) own started (by kernel_rfl) Try.func8
    (ChangeSpec.witness6 (enc := enc) (C := Try.checked) false ⟨#[], #[.slice none 0 0], []⟩ 8 (by kernel_rfl) (by kernel_rfl) (by kernel_rfl) (by kernel_rfl)) ?_
  intro W base args ds gs before hval0 hW hcnd _
  have hval : ∀ (j : Nat) t v, Try.f8.params[j]? = some t → args[j]? = some v → Value.okWide Try.prog W .any base t v := hval0
  have hW' := hW
  obtain ⟨p, q, hA0, hV, rfl, hfz, hnd⟩ := hW
  have hA : DataW.TrodAll enc Try.prog W 0 (fun _ => true) true Try.f8.params.toList args.toList ds p := hA0
  rw [Try.params8] at hA hval
  obtain ⟨v0, vs0, d0, ds0, p0, q0, hargs, rfl, rfl, h0, r0⟩ := trodAll_cons hA
  obtain ⟨rfl, rfl, rfl⟩ := trodAll_nil r0
  obtain rfl : args = #[v0] := by cases args; simp_all
  obtain ⟨rfl, rfl⟩ := trodVars_none hV
  obtain ⟨a0, len0, cap0, rfl⟩ := okWide_slice Try.underlying22 (hval 0 22 v0 rfl rfl)
  have k0 := h0
  have lt0 : ∀ x ∈ p0, x.block < W.heap.size := by obtain ⟨m, hm⟩ := k0; exact DataW.trod_lt m _ _ _ hm
  obtain ⟨z0, w0, b0⟩ : ∃ zs : List Int, Rd W 1 a0 len0 cap0 (zs.map (Value.int .u8)) ∧ By zs := by
    obtain ⟨fuel, hf⟩ := h0
    rcases open_ints Try.underlying22 Try.underlying5 (by kernel_rfl) hf with ⟨hcs, _⟩ | ⟨x, l, c, zs, hcs, _, hl, hm, hz, _, hcell, hwz⟩
    · simp [Value.cells] at hcs
      obtain ⟨rfl, rfl, rfl⟩ := hcs
      exact ⟨[], Rd.nil_ _ _, by intro x hx; cases hx⟩
    · simp [Value.cells] at hcs
      obtain ⟨rfl, rfl, rfl⟩ := hcs
      exact ⟨_, rd_of_ints hl hm (by simpa using hz) hcell, by_of_wf hwz⟩
  clear hA0 hval0
  refine (walkFnSumsOfEnd a0 len0 cap0 z0 W w0 b0).mono fun e W' ⟨he, bel⟩ => ?_
  subst he
  exact ⟨_, rfl, _, _, _, [], _, [], hW', trodAll_mk1 (shut_bool Try.underlying4 _), (trodAll_cons_mk (Below.trod laidOut (by kernel_rfl) (of_decide_eq_true (by kernel_rfl)) k0 bel lt0) trodAll_mk0), rfl, bel.frame _, fun h => by cases h⟩

theorem closedFnSumsOfEnd : joinedFacts Try.prog 8 Try.f8 Rows.fnSumsOfEndSpec Rows.fnSumsOfEndRow = true := by
  unfold joinedFacts
  refine and_yes (and_yes (and_yes (and_yes (and_yes (and_yes (and_yes ?_ mayIn) ?_) ?_) ?_) ?_) ?_) ?_
  rotate_left
  · rw [liftsIn]; kernel_rfl
  · rw [makeIn]; kernel_rfl
  · kernel_rfl
  · kernel_rfl
  · kernel_rfl
  · kernel_rfl
  · kernel_rfl

theorem overFnSumsOfEnd : Rows.fnSumsOfEndRow.holds Try.pinned (OpenSpec.ofChange Rows.fnSumsOfEndSpec) :=
  OpenClaim.holds_of_wide 8 Try.f8 rfl rfl rfl rfl rfl rfl rfl ⟨rfl, rfl, rfl, rfl, rfl⟩ rfl rfl rfl rfl rfl (by kernel_rfl) Try.func8 closedFnSumsOfEnd
    (of_decide_eq_true (by kernel_rfl)) (by unfold Func.isWrapper; first | (rw [if_pos (by decide +kernel)]; kernel_rfl) | (rw [if_neg (by decide +kernel)]; exact ⟨rfl, rfl⟩))
    (fun os started H enc _ => liftedFnSumsOfEnd os started H enc)

/-- the statement -/
theorem provedFnSumsOfEnd : Rows.FnSumsOfEndSaid := overFnSumsOfEnd
#print axioms provedFnSumsOfEnd
end Go.Proofs.Ytcgeagcfhjdpcaa
