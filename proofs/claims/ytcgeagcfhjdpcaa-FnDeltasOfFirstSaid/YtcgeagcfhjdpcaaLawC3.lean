/- The law FnDeltasOfFirst: for every input the law returns true, and nothing that was there has turned. -/
import Derived.Test.YtcgeagcfhjdpcaaFrame2
import Derived.Test.YtcgeagcfhjdpcaaColl
import Derived.Test.YtcgeagcfhjdpcaaEq
import Derived.Test.YtcgeagcfhjdpcaaDrawN
import Derived.Test.YtcgeagcfhjdpcaaPlainC2
import Derived.Test.YtcgeagcfhjdpcaaLive
import Derived.Test.YtcgeagcfhjdpcaaQuiet
namespace Go.Proofs.Ytcgeagcfhjdpcaa
set_option linter.unusedVariables false
open Go.ChangeShapes Go.WideShapes Go.ChangeAt Go.RowKit

attribute [local irreducible] wpQuiet
set_option maxHeartbeats 1600000 in
theorem walkFnDeltasOfFirst (A : Option Addr) (n c : Nat) (l : List Int) (W : World) (h : Rd W 1 A n c (bc l)) (hb : By l) : Calls Try.prog 6 #[.slice A n c] W fun e w' => e = .returned (.bool true) ∧ Below W.heap.size W w' := by
  by_cases hbig : (1048576 : Int) < (n : Int)
  · clear h hb
    go_enter Try.func6, Try.ntmps6
    go_wp2
    go_ret
    exact ⟨rfl, Below.refl _ _⟩
  go_enter Try.func6, Try.ntmps6
  go_wp2_with fail
  refine (drawDel_any A n c l _ h hb (by omega)).mono ?_
  rintro e w1 ⟨A1, c1, L, rfl, h1, hm, g1⟩
  have RA := Lib.hid h1
  have L1 := (Live.zero W).step g1
  have hL18 := hm.1
  obtain ⟨M, hv⟩ : ∃ M, delV L = M := ⟨_, rfl⟩
  have HV := Lib.hid hv
  clear hv h hb h1 hm g1
  go_wp2_with fail
  refine (deltasI_at _ _ _ L M _ RA.out HV.out).mono ?_
  rintro e w2 ⟨A2, c2, rfl, o1, g1⟩
  have L2 := L1.new o1 g1
  have q2 := g1
  clear L1 o1 g1
  go_wp2_with fail
  refine (deltasS_at _ _ _ L M _ (RA.out.keptN q2) HV.out).mono ?_
  rintro e w3 ⟨A3, c3, rfl, o1, g1⟩
  have L3 := L2.new o1 g1
  have q3 := g_trans q2 g1
  clear L2 o1 g1 q2
  go_wp2_with fail
  refine (equalInts_same _ _ _ _ _ _ M _ (L3.rd 1 rfl) (L3.rd 0 rfl)).mono ?_
  rintro e w4 ⟨rfl, g1⟩
  have L4 := (L3.step g1).drop
  have q4 := g_trans q3 g1
  clear L3 g1 q3
  by_cases hz : M.length = 0
  · have hz' : ((M.length : Int) == 0) = true := by rw [hz]; rfl
    have H0 := Lib.hid hz
    clear hz
    go_wp2_with fail
    refine (deltasS_at _ _ _ L M _ (RA.out.keptN q4) HV.out).mono ?_
    rintro e w5 ⟨A5, c5, rfl, o1, g1⟩
    have L5 := L4.new o1 g1
    clear L4 o1 g1
    go_wp2_with fail
    refine (equalInts_same _ _ _ _ _ _ M _ (L5.rd 1 rfl) (L5.rd 0 rfl)).mono ?_
    rintro e w6 ⟨rfl, g1⟩
    have L6 := L5.step g1
    clear L5 g1
    go_wp2
    go_ret
    exact ⟨ret_b (by simp), L6.bel⟩
  have hz' : ((M.length : Int) == 0) = false := by rw [beq_eq_false_iff_ne]; omega
  have hok : okN L = true := by
    cases hk : okN L with
    | true => rfl
    | false =>
      exfalso
      have := HV.out
      rw [delV_no hk] at this
      subst this
      simp at hz
  have hM := HV.out
  rw [delV_yes hok] at hM
  have h16 : M.length ≤ 16 := by rw [← hM, del_len]; exact (okN_iff.1 hok).1
  have HM := Lib.hid hM
  have HK := Lib.hid hok
  have RM := Lib.hid (show Rd w4 1 A2 M.length c2 (ic M) from L4.rd 0 rfl)
  have hml : M.length = L.length := by rw [← hM, del_len]
  obtain ⟨z, hz0, -⟩ := get_ex (l := L) (i := 0) (by omega)
  have hz1 : M[0]? = some z := by rw [← hM, del_first]; exact hz0
  have HZ := Lib.hid (And.intro hz0 hz1)
  have HML := Lib.hid hml
  have hM0 : 0 < M.length := by omega
  have hL0 : 0 < L.length := by omega
  clear hM hok hz hml hz0 hz1
  go_wp2
  go_loopw [5] (fun i wr => ∃ k : Nat, k + 1 ≤ M.length ∧ i = .int .i64 ((k : Int) + 1) ∧ w4.grownBy wr none) (fun i _ => M.length + 1 - (Go.RowKit.intOf i).toNat)
  case atStart => exact ⟨0, by omega, rfl, g_refl _ _⟩
  case round =>
    obtain ⟨k, hk, rfl, hg⟩ := hrel
    by_cases hlt : k + 1 < M.length
    · obtain ⟨x, hx, -⟩ := get_ex (l := L) (i := k) (by have := HML.out; omega)
      obtain ⟨y, hy, -⟩ := get_ex (l := L) (i := k + 1) (by have := HML.out; omega)
      have hd : M[k + 1]? = some (y - x) := by rw [← HM.out]; exact del_get hx hy
      obtain ⟨b, o, rfl, hc⟩ := ((RA.out.keptN q4).keptN hg).cells (i := k) (by have := HML.out; omega)
      obtain ⟨b2, o2, rfl, hc2⟩ := (RM.out.keptN hg).cells (i := k) (by omega)
      obtain ⟨m, hm⟩ : ∃ m, m = k + 1 := ⟨_, rfl⟩
      have c0 := hc _ _ (ic_at hx)
      have c1' := hc _ _ (ic_at hy)
      have c2' := hc2 _ _ (ic_at hd)
      rw [← hm] at c1' c2'
      have d0 := gw_cellW c0
      have d1 := gw_cellW c1'
      have d2 := gw_cellW c2'
      have hm1 : ((k : Int) + 1) = (m : Int) := by omega
      have hj1 : IntKind.i64.wrap ((m : Int) - 1) = (k : Int) := by rw [show ((m : Int) - 1) = (k : Int) by omega]; exact IntWalk.i64_in _ (by omega)
      have hm2 : (m : Int) < (M.length : Int) := by omega
      have hm3 : (m : Int) < (L.length : Int) := by have := HML.out; omega
      have hk2 : (k : Int) < (L.length : Int) := by omega
      have hge : decide ((L.length : Int) ≤ (m : Int)) = false := by simp; omega
      have hn1 : m < L.length := by omega
      have hn2 : m < M.length := by omega
      have hn3 : k < L.length := by omega
      have HK2 := Lib.hid hm
      clear hc hc2 hx hy hd c0 c1' c2'
      rw [hm1]
      clear hm hm1 hlt hk
      go_wp2_with fail
      refine wp_region_gw (W := wr) (by kernel_rfl) (by kernel_rfl) (g_refl _ _) ?_
      by_cases hxy : y = x
      · have e1 : (y - x == 0) = true := by simp; omega
        have e2 : (y == x) = true := by simpa using hxy
        have hw : IntKind.i64.wrap (y - x) = y - x := by rw [hxy, Int.sub_self]; rfl
        clear hxy
        repeat (quiet_step (fail))
        refine wpQuiet_nil ?_
        rintro _ ⟨⟨w5, hg5⟩, rfl⟩
        go_wp2
        go_roundw
        case rel => exact ⟨k + 1, by have := HK2.out; omega, by have := HK2.out; subst this; go_num, g_trans hg hg5⟩
        case measure => have := HK2.out; simp [Go.RowKit.intOf]; omega
      · have e1 : (y - x == 0) = false := by simp; omega
        have e2 : (y == x) = false := by simpa using hxy
        clear hxy
        repeat (quiet_step (fail))
        refine wpQuiet_nil ?_
        rintro _ ⟨⟨w5, hg5⟩, rfl⟩
        go_wp2
        go_roundw
        case rel => exact ⟨k + 1, by have := HK2.out; omega, by have := HK2.out; subst this; go_num, g_trans hg hg5⟩
        case measure => have := HK2.out; simp [Go.RowKit.intOf]; omega
    · have hge : ¬ (k : Int) + 1 < (M.length : Int) := by omega
      obtain ⟨b, o, rfl, hc⟩ := ((RA.out.keptN q4).keptN hg).cells (i := 0) hL0
      obtain ⟨b2, o2, rfl, hc2⟩ := (RM.out.keptN hg).cells (i := 0) hM0
      have c0 := hc _ _ (ic_at HZ.out.1)
      have c2' := hc2 _ _ (ic_at HZ.out.2)
      simp only [Nat.add_zero] at c0 c2'
      have d0 := gw_cellW c0
      have d2 := gw_cellW c2'
      have e1 : (z == z) = true := by simp
      have e2 : ((M.length : Int) == (L.length : Int)) = true := by rw [HML.out]; simp
      have GB := Lib.hid (g_trans L4.grown hg)
      have hm2 : (0 : Int) < (M.length : Int) := by omega
      have hm3 : (0 : Int) < (L.length : Int) := by omega
      clear hc hc2 c0 c2' hlt hk
      go_wp2_with fail
      refine wp_region_gw (W := wr) (by kernel_rfl) (by kernel_rfl) (g_refl _ _) ?_
      repeat (quiet_step (fail))
      refine wpQuiet_nil ?_
      rintro _ ⟨⟨w5, hg5⟩, rfl⟩
      have hbel := g_below (g_trans GB.out hg5) (Nat.le_refl _) (by simp)
      clear hg5 hg
      go_wp2
      go_ret
      exact ⟨ret_b (by simp), hbel⟩
set_option maxRecDepth 100000 in
set_option linter.unusedVariables false in
theorem liftedFnDeltasOfFirst (os : Os) (started : os.Started) (H : Type) (enc : TypeId × Value → H) :
    ReturnsInHanded {} Try.checked os 6 .any (Rows.fnDeltasOfFirstSpec.pre6 enc Try.prog Try.f6 Rows.fnDeltasOfFirstRow.domain false) (Rows.fnDeltasOfFirstSpec.post enc Try.prog Try.f6 false true false false) := by
  refine returnsInHanded_of_change (C := Try.checked) own started (by kernel_rfl) Try.func6
    (ChangeSpec.witness6 (enc := enc) (C := Try.checked) false ⟨#[], #[.slice none 0 0], []⟩ 8 (by kernel_rfl) (by kernel_rfl) (by kernel_rfl) (by kernel_rfl)) ?_
  intro W base args ds gs before hval0 hW hcnd _
  have hval : ∀ (j : Nat) t v, Try.f6.params[j]? = some t → args[j]? = some v → Value.okWide Try.prog W .any base t v := hval0
  have hW' := hW
  obtain ⟨p, q, hA0, hV, rfl, hfz, hnd⟩ := hW
  have hA : DataW.TrodAll enc Try.prog W 0 (fun _ => true) true Try.f6.params.toList args.toList ds p := hA0
  rw [Try.params6] at hA hval
  obtain ⟨v0, vs0, d0, ds0, p0, q0, hargs, rfl, rfl, h0, r0⟩ := trodAll_cons hA
  obtain ⟨rfl, rfl, rfl⟩ := trodAll_nil r0
  obtain rfl : args = #[v0] := by cases args; simp_all
  obtain ⟨rfl, rfl⟩ := trodVars_none hV
  obtain ⟨a0, len0, cap0, rfl⟩ := okWide_slice Try.underlying22 (hval 0 22 v0 rfl rfl)
  have k0 := h0
  have lt0 : ∀ x ∈ p0, x.block < W.heap.size := by obtain ⟨m, hm⟩ := k0; exact DataW.trod_lt m _ _ _ hm
  obtain ⟨z0, w0, b0⟩ : ∃ zs : List Int, Rd W 1 a0 len0 cap0 (zs.map (Value.int .u8)) ∧ By zs := by
    obtain ⟨fuel, hf⟩ := h0
    rcases open_ints Try.underlying22 Try.underlying5 (by kernel_rfl) hf with ⟨hcs, _⟩ | ⟨x, l, c, zs, hcs, _, hl, hm, hz, _, hcell, hwz⟩
    · simp [Value.cells] at hcs
      obtain ⟨rfl, rfl, rfl⟩ := hcs
      exact ⟨[], Rd.nil_ _ _, by intro x hx; cases hx⟩
    · simp [Value.cells] at hcs
      obtain ⟨rfl, rfl, rfl⟩ := hcs
      exact ⟨_, rd_of_ints hl hm (by simpa using hz) hcell, by_of_wf hwz⟩
  clear hA0 hval0
  refine (walkFnDeltasOfFirst a0 len0 cap0 z0 W w0 b0).mono fun e W' ⟨he, bel⟩ => ?_
  subst he
  exact ⟨_, rfl, _, _, _, [], _, [], hW', trodAll_mk1 (shut_bool Try.underlying4 _), (trodAll_cons_mk (Below.trod laidOut (by kernel_rfl) (of_decide_eq_true (by kernel_rfl)) k0 bel lt0) trodAll_mk0), rfl, bel.frame _, fun h => by cases h⟩

theorem closedFnDeltasOfFirst : joinedFacts Try.prog 6 Try.f6 Rows.fnDeltasOfFirstSpec Rows.fnDeltasOfFirstRow = true := by
  unfold joinedFacts
  refine and_yes (and_yes (and_yes (and_yes (and_yes (and_yes (and_yes ?_ mayIn) ?_) ?_) ?_) ?_) ?_) ?_
  rotate_left
  · rw [liftsIn]; kernel_rfl
  · rw [makeIn]; kernel_rfl
  · kernel_rfl
  · kernel_rfl
  · kernel_rfl
  · kernel_rfl
  · kernel_rfl

theorem overFnDeltasOfFirst : Rows.fnDeltasOfFirstRow.holds Try.pinned (OpenSpec.ofChange Rows.fnDeltasOfFirstSpec) :=
  OpenClaim.holds_of_wide 6 Try.f6 rfl rfl rfl rfl rfl rfl rfl ⟨rfl, rfl, rfl, rfl, rfl⟩ rfl rfl rfl rfl rfl (by kernel_rfl) Try.func6 closedFnDeltasOfFirst
    (of_decide_eq_true (by kernel_rfl)) (by unfold Func.isWrapper; first | (rw [if_pos (by decide +kernel)]; kernel_rfl) | (rw [if_neg (by decide +kernel)]; exact ⟨rfl, rfl⟩))
    (fun os started H enc _ => liftedFnDeltasOfFirst os started H enc)

/-- the statement -/
theorem provedFnDeltasOfFirst : Rows.FnDeltasOfFirstSaid := overFnDeltasOfFirst
#print axioms provedFnDeltasOfFirst
end Go.Proofs.Ytcgeagcfhjdpcaa
