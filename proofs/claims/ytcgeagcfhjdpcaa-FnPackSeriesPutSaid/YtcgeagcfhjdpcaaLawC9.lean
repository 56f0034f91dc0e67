/- The law FnPackSeriesPut: for every input the law returns true, and nothing that was there has turned. -/
import Derived.Test.YtcgeagcfhjdpcaaFrame2
import Derived.Test.YtcgeagcfhjdpcaaPackV
import Derived.Test.YtcgeagcfhjdpcaaEq
import Derived.Test.YtcgeagcfhjdpcaaDrawS
import Derived.Test.YtcgeagcfhjdpcaaPlainC2
import Derived.Test.YtcgeagcfhjdpcaaLive
import Derived.Test.YtcgeagcfhjdpcaaQuiet
namespace Go.Proofs.Ytcgeagcfhjdpcaa
set_option linter.unusedVariables false
open Go.ChangeShapes Go.WideShapes Go.ChangeAt Go.RowKit

theorem gw_keptP {W : World} {x : GW W} {size n c : Nat} {A : Option Addr} {xs : List Value} (h : Rd W size A n c xs) : Rd x.1 size A n c xs := h.keptN x.2
theorem validL_take {l : List Pt} (h : validL l = true) (k : Nat) : validL (l.take k) = true := valid_sub h (List.take_sublist k l)
attribute [local irreducible] wpQuiet
set_option maxRecDepth 100000 in
set_option maxHeartbeats 3200000 in
theorem walkFnPackSeriesPut (A : Option Addr) (n c : Nat) (l : List Int) (W : World) (h : Rd W 1 A n c (bc l)) (hb : By l) : Calls Try.prog 16 #[.slice A n c] W fun e w' => e = .returned (.bool true) ∧ Below W.heap.size W w' := by
  by_cases hbig : (1048576 : Int) < (n : Int)
  · clear h hb
    go_enter Try.func16, Try.ntmps16
    go_wp2
    go_ret
    exact ⟨rfl, Below.refl _ _⟩
  go_enter Try.func16, Try.ntmps16
  go_wp2_with fail
  refine (drawPS_any A n c l _ h hb (by omega)).mono ?_
  rintro e w1 ⟨A1, c1, L, rfl, h1, hm, g1⟩
  have RA := Lib.hid (Rd.own h1)
  have L1 := (Live.zero W).step g1
  have hL17 := hm.1
  obtain ⟨M, hv⟩ : ∃ M, packV L = M := ⟨_, rfl⟩
  have HV := Lib.hid hv
  clear hv h hb h1 hm g1
  go_wp2_with fail
  refine (packI_at _ _ _ L M _ RA.out HV.out).mono ?_
  rintro e w2 ⟨A2, c2, rfl, o1, g1⟩
  have L2 := L1.new o1 g1
  have q2 := g1
  clear L1 o1 g1
  go_wp2_with fail
  refine (packS_at _ _ _ L M _ (RA.out.keptN q2) HV.out).mono ?_
  rintro e w3 ⟨A3, c3, rfl, o1, g1⟩
  have L3 := L2.new o1 g1
  have q3 := g_trans q2 g1
  clear L2 o1 g1 q2
  go_wp2_with fail
  refine (equalBytes_same _ _ _ _ _ _ M _ (L3.rd 1 rfl) (L3.rd 0 rfl)).mono ?_
  rintro e w4 ⟨rfl, g1⟩
  have L4 := (L3.step g1).drop
  have q4 := g_trans q3 g1
  clear L3 g1 q3
  by_cases hz : M.length = 0
  · have hz' : ((M.length : Int) == 0) = true := by rw [hz]; rfl
    have H0 := Lib.hid hz
    clear hz
    go_wp2_with fail
    refine (packS_at _ _ _ L M _ (RA.out.keptN q4) HV.out).mono ?_
    rintro e w5 ⟨A5, c5, rfl, o1, g1⟩
    have L5 := L4.new o1 g1
    clear L4 o1 g1
    go_wp2_with fail
    refine (equalBytes_same _ _ _ _ _ _ M _ (L5.rd 1 rfl) (L5.rd 0 rfl)).mono ?_
    rintro e w6 ⟨rfl, g1⟩
    have L6 := L5.step g1
    clear L5 g1
    go_wp2
    go_ret
    exact ⟨ret_b (by simp), L6.bel⟩
  by_cases hz2 : L.length = 0
  · have hz' : ((M.length : Int) == 0) = false := by rw [beq_eq_false_iff_ne]; omega
    have hz3 : ((L.length : Int) == 0) = true := by rw [hz2]; rfl
    have H0 := Lib.hid (And.intro hz hz2)
    clear hz hz2
    go_wp2_with fail
    refine (packS_at _ _ _ L M _ (RA.out.keptN q4) HV.out).mono ?_
    rintro e w5 ⟨A5, c5, rfl, o1, g1⟩
    have L5 := L4.new o1 g1
    clear L4 o1 g1
    go_wp2_with fail
    refine (equalBytes_same _ _ _ _ _ _ M _ (L5.rd 1 rfl) (L5.rd 0 rfl)).mono ?_
    rintro e w6 ⟨rfl, g1⟩
    have L6 := L5.step g1
    clear L5 g1
    go_wp2
    go_ret
    exact ⟨ret_b (by simp), L6.bel⟩
  have hz' : ((M.length : Int) == 0) = false := by rw [beq_eq_false_iff_ne]; omega
  have hok : validL L = true := by
    cases hk : validL L with
    | true => rfl
    | false =>
      exfalso
      have := HV.out
      rw [packV_no hk] at this
      subst this
      simp at hz
  have hM := HV.out
  rw [packV_yes hok] at hM
  have hL16 : L.length ≤ 16 := ((validL_iff L).1 hok).1
  have hML : 1 + 2 * L.length ≤ M.length ∧ M.length ≤ 1 + 6 * L.length := by rw [← hM]; exact packL_len L
  obtain ⟨hML1, hML2⟩ := hML
  have HBM : Hid (By M) := by show By M; rw [← hM]; exact packL_by (valid_small hok) hL16
  have hzL : ((L.length : Int) == 0) = false := by rw [beq_eq_false_iff_ne]; omega
  obtain ⟨k, hk⟩ : ∃ k, L.length = k + 1 := ⟨L.length - 1, by omega⟩
  obtain ⟨m, hm1, hm2, hm3⟩ := pack_put hk
  rw [hM] at hm1
  obtain ⟨P, hP⟩ : ∃ P, packR (pairsL (L.take k)) = P := ⟨_, rfl⟩
  rw [hP] at hm1 hm3
  obtain ⟨N, hN⟩ : ∃ N, (k : Int) :: P = N := ⟨_, rfl⟩
  rw [hN] at hm3
  have HN := Lib.hid (show packV (L.take k) = N by rw [packV_yes (validL_take hok k)]; exact hm3)
  have hNl : N.length = P.length + 1 := by rw [← hN]; rfl
  have hMl : M.length = P.length + m.length + 1 := by rw [hm1]; simp
  have HX := Lib.hid (show N.drop 1 = P ∧ (M.drop 1).take (N.length - 1) = P by
    refine ⟨by rw [← hN]; rfl, ?_⟩
    rw [hm1, hNl]
    simp)
  have HY := Lib.hid (show N[0]? = some (k : Int) ∧ M[0]? = some ((k : Int) + 1) by
    refine ⟨by rw [← hN]; rfl, by rw [hm1]; rfl⟩)
  have RM := Lib.hid (show Rd w4 1 A2 M.length c2 (bc M) from L4.rd 0 rfl)
  have hT := (RA.out.keptN q4).to_ (k := k) (by omega)
  rw [pc_take] at hT
  have HT := Lib.hid hT
  have hcap := RA.out.cap
  have hw : IntKind.i64.wrap ((L.length : Int) - 1) = (k : Int) := by rw [show ((L.length : Int) - 1) = (k : Int) by omega]; exact IntWalk.i64_in _ (by omega)
  have k0 : (0 : Int) ≤ (k : Int) := by omega
  have k1 : (k : Int) ≤ (c1 : Int) := by omega
  have hk16 : k ≤ 16 := by omega
  have hNM : N.length + 2 ≤ M.length := by omega
  have hN1 : 1 ≤ N.length := by omega
  clear hM hok hz hz2 hm1 hm3 hP hN hNl hMl hT hcap q4 RA hk hm2 hML1
  go_wp2_with fail
  refine (packI_at _ _ _ (L.take k) N _ HT.out HN.out).mono ?_
  rintro e w5 ⟨A5, c5, rfl, o1, g1⟩
  have RN := Lib.hid (Rd.own o1)
  have RM5 := Lib.hid (RM.out.keptN g1)
  have G5 := Lib.hid (L4.step g1).grown
  clear L4 o1 g1
  obtain ⟨bn, on, e1, hcn⟩ := RN.out.cells (i := 0) (by omega)
  obtain ⟨bm, om, e2, hcm⟩ := RM5.out.cells (i := 0) (by omega)
  subst e1 e2
  have d0 := gw_cellW (hcn _ _ (bc_at HY.out.1))
  have d1 := gw_cellW (hcm _ _ (bc_at HY.out.2))
  simp only [Nat.add_zero] at d0 d1
  have hcN := RN.out.cap
  have hcM := RM5.out.cap
  have hTN := RN.out.from_ (k := 1) (by omega)
  have hTM := (RM5.out.from_ (k := 1) (by omega)).to_ (k := N.length - 1) (by omega)
  rw [if_neg (by omega), show Option.map (fun x : Addr => x.add (1 * 1)) (some ⟨bm, om, none⟩) = some ⟨bm, om + 1, none⟩ by simp [add_lit']] at hTM
  rw [show ((bc M).drop (1 * 1)).take ((N.length - 1) * 1) = bc ((M.drop 1).take (N.length - 1)) by simp [bc, List.map_drop, List.map_take], HX.out.2] at hTM
  rw [show (bc N).drop (1 * 1) = bc (N.drop 1) by simp [bc, List.map_drop], HX.out.1] at hTN
  have HTM := Lib.hid hTM
  have hc2n : ¬ c2 = 1 := by omega
  have f1 : decide ((0 : Int) < (N.length : Int)) = true := by simp; omega
  have f2 : decide ((N.length : Int) < (M.length : Int)) = true := by simp; omega
  have f2n : decide (N.length < M.length) = true := by simp; omega
  have f3 : (1 : Int) ≤ (N.length : Int) := by omega
  have f4 : (N.length : Int) ≤ (c2 : Int) := by omega
  have f5 : (1 : Int) ≤ (c2 : Int) := by omega
  have f6 : (0 : Int) < (N.length : Int) := by omega
  have f7 : (0 : Int) < (M.length : Int) := by omega
  have f8 : 0 < N.length := by omega
  have f9 : 0 < M.length := by omega
  have hw1 : IntKind.i64.wrap ((k : Int) + 1) = (k : Int) + 1 := IntWalk.i64_in _ (by omega)
  have hw2 : IntKind.i64.wrap (k : Int) = (k : Int) := IntWalk.i64_in _ (by omega)
  have e3 : ((k : Int) + 1 == (k : Int) + 1) = true := by simp
  clear hTM hcn hcm hcN hcM
  by_cases hc5 : c5 = 1
  · subst hc5
    rw [if_pos rfl] at hTN
    have HTN := Lib.hid hTN
    clear hTN
    go_wp2_with fail
    refine wp_region_gw (W := w5) (by kernel_rfl) (by kernel_rfl) (g_refl _ _) ?_
    repeat (quiet_step ((go_at_call 20; exact gw_call (equalBytes_same _ _ _ _ _ _ P _ (gw_keptP HTN.out) (gw_keptP HTM.out)))))
    refine wpQuiet_nil ?_
    rintro _ ⟨⟨w7, hg7⟩, rfl⟩
    have hbel := g_below (g_trans G5.out hg7) (Nat.le_refl _) (by simp)
    clear hg7
    go_wp2
    go_ret
    exact ⟨ret_b (by simp), hbel⟩
  · skip
    rw [if_neg hc5, show Option.map (fun x : Addr => x.add (1 * 1)) (some ⟨bn, on, none⟩) = some ⟨bn, on + 1, none⟩ by simp [add_lit']] at hTN
    have HTN := Lib.hid hTN
    clear hTN
    go_wp2_with fail
    refine wp_region_gw (W := w5) (by kernel_rfl) (by kernel_rfl) (g_refl _ _) ?_
    repeat (quiet_step ((go_at_call 20; exact gw_call (equalBytes_same _ _ _ _ _ _ P _ (gw_keptP HTN.out) (gw_keptP HTM.out)))))
    refine wpQuiet_nil ?_
    rintro _ ⟨⟨w7, hg7⟩, rfl⟩
    have hbel := g_below (g_trans G5.out hg7) (Nat.le_refl _) (by simp)
    clear hg7
    go_wp2
    go_ret
    exact ⟨ret_b (by simp), hbel⟩
set_option maxRecDepth 100000 in
set_option linter.unusedVariables false in
theorem liftedFnPackSeriesPut (os : Os) (started : os.Started) (H : Type) (enc : TypeId × Value → H) :
    ReturnsInHanded {} Try.checked os 16 .any (Rows.fnPackSeriesPutSpec.pre6 enc Try.prog Try.f16 Rows.fnPackSeriesPutRow.domain false) (Rows.fnPackSeriesPutSpec.post enc Try.prog Try.f16 false true false false) := by
  refine returnsInHanded_of_change (C := Try.checked) own started (by kernel_rfl) Try.func16
    (ChangeSpec.witness6 (enc := enc) (C := Try.checked) false ⟨#[], #[.slice none 0 0], []⟩ 8 (by kernel_rfl) (by kernel_rfl) (by kernel_rfl) (by kernel_rfl)) ?_
  intro W base args ds gs before hval0 hW hcnd _
  have hval : ∀ (j : Nat) t v, Try.f16.params[j]? = some t → args[j]? = some v → Value.okWide Try.prog W .any base t v := hval0
  have hW' := hW
  obtain ⟨p, q, hA0, hV, rfl, hfz, hnd⟩ := hW
  have hA : DataW.TrodAll enc Try.prog W 0 (fun _ => true) true Try.f16.params.toList args.toList ds p := hA0
  rw [Try.params16] at hA hval
  obtain ⟨v0, vs0, d0, ds0, p0, q0, hargs, rfl, rfl, h0, r0⟩ := trodAll_cons hA
  obtain ⟨rfl, rfl, rfl⟩ := trodAll_nil r0
  obtain rfl : args = #[v0] := by cases args; simp_all
  obtain ⟨rfl, rfl⟩ := trodVars_none hV
  obtain ⟨a0, len0, cap0, rfl⟩ := okWide_slice Try.underlying22 (hval 0 22 v0 rfl rfl)
  have k0 := h0
  have lt0 : ∀ x ∈ p0, x.block < W.heap.size := by obtain ⟨m, hm⟩ := k0; exact DataW.trod_lt m _ _ _ hm
  obtain ⟨z0, w0, b0⟩ : ∃ zs : List Int, Rd W 1 a0 len0 cap0 (zs.map (Value.int .u8)) ∧ By zs := by
    obtain ⟨fuel, hf⟩ := h0
    rcases open_ints Try.underlying22 Try.underlying5 (by kernel_rfl) hf with ⟨hcs, _⟩ | ⟨x, l, c, zs, hcs, _, hl, hm, hz, _, hcell, hwz⟩
    · simp [Value.cells] at hcs
      obtain ⟨rfl, rfl, rfl⟩ := hcs
      exact ⟨[], Rd.nil_ _ _, by intro x hx; cases hx⟩
    · simp [Value.cells] at hcs
      obtain ⟨rfl, rfl, rfl⟩ := hcs
      exact ⟨_, rd_of_ints hl hm (by simpa using hz) hcell, by_of_wf hwz⟩
  clear hA0 hval0
  refine (walkFnPackSeriesPut a0 len0 cap0 z0 W w0 b0).mono fun e W' ⟨he, bel⟩ => ?_
  subst he
  exact ⟨_, rfl, _, _, _, [], _, [], hW', trodAll_mk1 (shut_bool Try.underlying4 _), (trodAll_cons_mk (Below.trod laidOut (by kernel_rfl) (of_decide_eq_true (by kernel_rfl)) k0 bel lt0) trodAll_mk0), rfl, bel.frame _, fun h => by cases h⟩

theorem closedFnPackSeriesPut : joinedFacts Try.prog 16 Try.f16 Rows.fnPackSeriesPutSpec Rows.fnPackSeriesPutRow = true := by
  unfold joinedFacts
  refine and_yes (and_yes (and_yes (and_yes (and_yes (and_yes (and_yes ?_ mayIn) ?_) ?_) ?_) ?_) ?_) ?_
  rotate_left
  · rw [liftsIn]; kernel_rfl
  · rw [makeIn]; kernel_rfl
  · kernel_rfl
  · kernel_rfl
  · kernel_rfl
  · kernel_rfl
  · kernel_rfl

theorem overFnPackSeriesPut : Rows.fnPackSeriesPutRow.holds Try.pinned (OpenSpec.ofChange Rows.fnPackSeriesPutSpec) :=
  OpenClaim.holds_of_wide 16 Try.f16 rfl rfl rfl rfl rfl rfl rfl ⟨rfl, rfl, rfl, rfl, rfl⟩ rfl rfl rfl rfl rfl (by kernel_rfl) Try.func16 closedFnPackSeriesPut
    (of_decide_eq_true (by kernel_rfl)) (by unfold Func.isWrapper; first | (rw [if_pos (by decide +kernel)]; kernel_rfl) | (rw [if_neg (by decide +kernel)]; exact ⟨rfl, rfl⟩))
    (fun os started H enc _ => liftedFnPackSeriesPut os started H enc)

/-- the statement -/
theorem provedFnPackSeriesPut : Rows.FnPackSeriesPutSaid := overFnPackSeriesPut
#print axioms provedFnPackSeriesPut
end Go.Proofs.Ytcgeagcfhjdpcaa
