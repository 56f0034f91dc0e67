/- The laws FnExactTimeSteps, FnExactPackSeries and FnExactPackedSize: for every input the law returns true, and nothing that was there has turned. -/
import Derived.Test.YtcgeagcfhjdpcaaFrame2
import Derived.Test.YtcgeagcfhjdpcaaPackV
import Derived.Test.YtcgeagcfhjdpcaaPMark
import Derived.Test.YtcgeagcfhjdpcaaEq
import Derived.Test.YtcgeagcfhjdpcaaMark
import Derived.Test.YtcgeagcfhjdpcaaLive
namespace Go.Proofs.Ytcgeagcfhjdpcaa
set_option linter.unusedVariables false
open Go.ChangeShapes Go.WideShapes Go.ChangeAt Go.RowKit

set_option maxHeartbeats 3200000 in
theorem walkFnExactTimeSteps (A : Option Addr) (n c : Nat) (l : List Pt)  (W : World) (h : Rd W 2 A n c (pc l)) (hb : ∀ x ∈ l, inP x)  : Calls Try.prog 10 #[.slice A n c] W fun e w' => e = .returned (.bool true) ∧ Below W.heap.size W w' := by
  have nb : n ≤ 9223372036854775807 := Nat.le_trans h.cap h.lim
  have hln : l.length = n := by have := h.len; first | rw [pc_len] at this; omega | rw [bkc_len] at this; omega
  have H := Lib.hid h
  clear h hb
  have hL := stepsV_len l
  obtain ⟨L, hv⟩ : ∃ L, stepsV l = L := ⟨_, rfl⟩
  rw [hv] at hL
  have HV := Lib.hid hv
  clear hv hln
  go_enter Try.func10, Try.ntmps10
  go_wp2_with fail
  refine (szPointS_any A n c _ _ nb (by omega) (by omega)).mono ?_
  rintro e w0 ⟨rfl, rfl⟩
  by_cases hbig : (1048576 : Int) < (n : Int)
  · rw [if_pos hbig]
    go_wp2
    go_ret
    exact ⟨rfl, Below.refl _ _⟩
  rw [if_neg hbig]
  have hn : n ≤ 1048576 := by omega
  go_wp2_with fail
  refine (toPointS_any A n c l _ H.out (by omega)).mono ?_
  rintro e w1 ⟨A1, c1, rfl, o1, g1⟩
  have L1 := (Live.zero _).new o1 g1
  clear o1 g1
  go_wp2_with fail
  refine (stepsS_at _ _ _ l L _ (L1.rd 0 rfl) HV.out).mono ?_
  rintro e w2 ⟨Aw, cw, rfl, o1, g1⟩
  have L2 := L1.new o1 g1
  clear o1 g1 L1
  go_wp2_with fail
  refine (toPointS_any A n c l _ (H.out.keptN L2.grown) (by omega)).mono ?_
  rintro e w3 ⟨Ax, cx, rfl, o1, g1⟩
  have L3 := L2.new o1 g1
  clear o1 g1 L2
  go_wp2_with fail
  refine (stepsI_at _ _ _ l L _ (L3.rd 0 rfl) HV.out).mono ?_
  rintro e w4 ⟨Ag, cg, rfl, o1, g1⟩
  have L4 := L3.new o1 g1
  clear o1 g1 L3
  go_wp2_with fail
  refine (eqIntS_same _ _ _ _ _ _ L _ (L4.rd 0 rfl) (L4.rd 2 rfl)).mono ?_
  rintro e w5 ⟨rfl, g1⟩
  have L5 := L4.step g1
  clear g1 L4
  go_wp2_with fail
  refine (toPointS_any A n c l _ (H.out.keptN L5.grown) (by omega)).mono ?_
  rintro e w6 ⟨Ay, cy, rfl, o1, g1⟩
  have L6 := L5.new o1 g1
  clear o1 g1 L5
  go_wp2_with fail
  refine (eqPointS_same _ _ _ _ _ _ l _ (L6.rd 2 rfl) (L6.rd 0 rfl)).mono ?_
  rintro e w7 ⟨rfl, g1⟩
  have L7 := (L6.step g1).drop
  clear g1 L6
  go_wp2_with fail
  refine (markPointS_any _ _ _ l _ _ _ (L7.own 1 rfl) (by omega) (by omega) (by omega)).mono ?_
  rintro e w8 ⟨rfl, o1, g1⟩
  have L8 := L7.put 1 rfl o1 g1
  clear o1 g1 L7
  go_wp2_with fail
  refine (eqIntS_same _ _ _ _ _ _ L _ (L8.rd 0 rfl) (L8.rd 2 rfl)).mono ?_
  rintro e w9 ⟨rfl, g1⟩
  have L9 := L8.step g1
  clear g1 L8
  go_wp2_with fail
  refine (markIntS_any _ _ _ L _ _ _ (L9.own 0 rfl) (by omega) (by omega) (by omega)).mono ?_
  rintro e w10 ⟨rfl, o1, g1⟩
  have L10 := L9.put 0 rfl o1 g1
  clear o1 g1 L9
  go_wp2_with fail
  refine (heldIntS_any _ _ _ _ _ (L10.rd 0 rfl) (by omega) (by omega) (by omega)).mono ?_
  rintro e w11 ⟨rfl, g1⟩
  have L11 := L10.step g1
  clear g1 L10
  go_wp2_with fail
  refine (toPointS_any A n c l _ (H.out.keptN L11.grown) (by omega)).mono ?_
  rintro e w12 ⟨Az, cz, rfl, o1, g1⟩
  have L12 := L11.new o1 g1
  clear o1 g1 L11
  go_wp2_with fail
  refine (stepsI_at _ _ _ l L _ (L12.rd 0 rfl) HV.out).mono ?_
  rintro e w13 ⟨Ah, ch, rfl, o1, g1⟩
  have L13 := L12.new o1 g1
  clear o1 g1 L12
  go_wp2_with fail
  refine (eqIntS_same _ _ _ _ _ _ L _ (L13.rd 0 rfl) (L13.rd 4 rfl)).mono ?_
  rintro e w14 ⟨rfl, g1⟩
  have L14 := L13.step g1
  clear g1 L13
  go_wp2_with fail
  refine (heldIntS_any _ _ _ _ _ (L14.rd 2 rfl) (by omega) (by omega) (by omega)).mono ?_
  rintro e w15 ⟨rfl, g1⟩
  have hbel := (L14.step g1).bel
  clear g1 L14
  go_wp2
  go_ret
  exact ⟨rfl, hbel⟩
set_option maxHeartbeats 3200000 in
theorem walkFnExactPackSeries (A : Option Addr) (n c : Nat) (l : List Pt)  (W : World) (h : Rd W 2 A n c (pc l)) (hb : ∀ x ∈ l, inP x)  : Calls Try.prog 17 #[.slice A n c] W fun e w' => e = .returned (.bool true) ∧ Below W.heap.size W w' := by
  have nb : n ≤ 9223372036854775807 := Nat.le_trans h.cap h.lim
  have hln : l.length = n := by have := h.len; first | rw [pc_len] at this; omega | rw [bkc_len] at this; omega
  have H := Lib.hid h
  clear h hb
  have hL := packV_len l
  obtain ⟨L, hv⟩ : ∃ L, packV l = L := ⟨_, rfl⟩
  rw [hv] at hL
  have HV := Lib.hid hv
  clear hv hln
  go_enter Try.func17, Try.ntmps17
  go_wp2_with fail
  refine (szPointS_any A n c _ _ nb (by omega) (by omega)).mono ?_
  rintro e w0 ⟨rfl, rfl⟩
  by_cases hbig : (1048576 : Int) < (n : Int)
  · rw [if_pos hbig]
    go_wp2
    go_ret
    exact ⟨rfl, Below.refl _ _⟩
  rw [if_neg hbig]
  have hn : n ≤ 1048576 := by omega
  go_wp2_with fail
  refine (toPointS_any A n c l _ H.out (by omega)).mono ?_
  rintro e w1 ⟨A1, c1, rfl, o1, g1⟩
  have L1 := (Live.zero _).new o1 g1
  clear o1 g1
  go_wp2_with fail
  refine (packS_at _ _ _ l L _ (L1.rd 0 rfl) HV.out).mono ?_
  rintro e w2 ⟨Aw, cw, rfl, o1, g1⟩
  have L2 := L1.new o1 g1
  clear o1 g1 L1
  go_wp2_with fail
  refine (toPointS_any A n c l _ (H.out.keptN L2.grown) (by omega)).mono ?_
  rintro e w3 ⟨Ax, cx, rfl, o1, g1⟩
  have L3 := L2.new o1 g1
  clear o1 g1 L2
  go_wp2_with fail
  refine (packI_at _ _ _ l L _ (L3.rd 0 rfl) HV.out).mono ?_
  rintro e w4 ⟨Ag, cg, rfl, o1, g1⟩
  have L4 := L3.new o1 g1
  clear o1 g1 L3
  go_wp2_with fail
  refine (eqByteS_same _ _ _ _ _ _ L _ (L4.rd 0 rfl) (L4.rd 2 rfl)).mono ?_
  rintro e w5 ⟨rfl, g1⟩
  have L5 := L4.step g1
  clear g1 L4
  go_wp2_with fail
  refine (toPointS_any A n c l _ (H.out.keptN L5.grown) (by omega)).mono ?_
  rintro e w6 ⟨Ay, cy, rfl, o1, g1⟩
  have L6 := L5.new o1 g1
  clear o1 g1 L5
  go_wp2_with fail
  refine (eqPointS_same _ _ _ _ _ _ l _ (L6.rd 2 rfl) (L6.rd 0 rfl)).mono ?_
  rintro e w7 ⟨rfl, g1⟩
  have L7 := (L6.step g1).drop
  clear g1 L6
  go_wp2_with fail
  refine (markPointS_any _ _ _ l _ _ _ (L7.own 1 rfl) (by omega) (by omega) (by omega)).mono ?_
  rintro e w8 ⟨rfl, o1, g1⟩
  have L8 := L7.put 1 rfl o1 g1
  clear o1 g1 L7
  go_wp2_with fail
  refine (eqByteS_same _ _ _ _ _ _ L _ (L8.rd 0 rfl) (L8.rd 2 rfl)).mono ?_
  rintro e w9 ⟨rfl, g1⟩
  have L9 := L8.step g1
  clear g1 L8
  go_wp2_with fail
  refine (markByteS_any _ _ _ L _ _ _ (L9.own 0 rfl) (by omega) (by omega) (by omega)).mono ?_
  rintro e w10 ⟨rfl, o1, g1⟩
  have L10 := L9.put 0 rfl o1 g1
  clear o1 g1 L9
  go_wp2_with fail
  refine (heldByteS_any _ _ _ _ _ (L10.rd 0 rfl) (by omega) (by omega) (by omega)).mono ?_
  rintro e w11 ⟨rfl, g1⟩
  have L11 := L10.step g1
  clear g1 L10
  go_wp2_with fail
  refine (toPointS_any A n c l _ (H.out.keptN L11.grown) (by omega)).mono ?_
  rintro e w12 ⟨Az, cz, rfl, o1, g1⟩
  have L12 := L11.new o1 g1
  clear o1 g1 L11
  go_wp2_with fail
  refine (packI_at _ _ _ l L _ (L12.rd 0 rfl) HV.out).mono ?_
  rintro e w13 ⟨Ah, ch, rfl, o1, g1⟩
  have L13 := L12.new o1 g1
  clear o1 g1 L12
  go_wp2_with fail
  refine (eqByteS_same _ _ _ _ _ _ L _ (L13.rd 0 rfl) (L13.rd 4 rfl)).mono ?_
  rintro e w14 ⟨rfl, g1⟩
  have L14 := L13.step g1
  clear g1 L13
  go_wp2_with fail
  refine (heldByteS_any _ _ _ _ _ (L14.rd 2 rfl) (by omega) (by omega) (by omega)).mono ?_
  rintro e w15 ⟨rfl, g1⟩
  have hbel := (L14.step g1).bel
  clear g1 L14
  go_wp2
  go_ret
  exact ⟨rfl, hbel⟩
set_option maxHeartbeats 1600000 in
theorem walkFnExactPackedSize (A : Option Addr) (n c : Nat) (l : List Pt) (W : World) (h : Rd W 2 A n c (pc l)) (hb : ∀ x ∈ l, inP x) : Calls Try.prog 12 #[.slice A n c] W fun e w' => e = .returned (.bool true) ∧ Below W.heap.size W w' := by
  have nb : n ≤ 9223372036854775807 := Nat.le_trans h.cap h.lim
  have H := Lib.hid h
  clear h hb
  obtain ⟨v, hv⟩ : ∃ v, sizeV l = v := ⟨_, rfl⟩
  have HV := Lib.hid hv
  clear hv
  go_enter Try.func12, Try.ntmps12
  go_wp2_with fail
  refine (szPointS_any A n c _ _ nb (by omega) (by omega)).mono ?_
  rintro e w0 ⟨rfl, rfl⟩
  by_cases hbig : (1048576 : Int) < (n : Int)
  · rw [if_pos hbig]
    go_wp2
    go_ret
    exact ⟨rfl, Below.refl _ _⟩
  rw [if_neg hbig]
  have hn : n ≤ 1048576 := by omega
  go_wp2_with fail
  refine (toPointS_any A n c l _ H.out (by omega)).mono ?_
  rintro e w1 ⟨A1, c1, rfl, o1, g1⟩
  have L1 := (Live.zero _).new o1 g1
  clear o1 g1
  go_wp2_with fail
  refine (sizeS_at _ _ _ l v _ (L1.rd 0 rfl) HV.out).mono ?_
  rintro e w2 ⟨rfl, g1⟩
  have L2 := L1.step g1
  clear g1 L1
  go_wp2_with fail
  refine (toPointS_any A n c l _ (H.out.keptN L2.grown) (by omega)).mono ?_
  rintro e w3 ⟨Ax, cx, rfl, o1, g1⟩
  have L3 := L2.new o1 g1
  clear o1 g1 L2
  go_wp2_with fail
  refine (sizeI_at _ _ _ l v _ (L3.rd 0 rfl) HV.out).mono ?_
  rintro e w4 ⟨rfl, g1⟩
  have L4 := L3.step g1
  clear g1 L3
  go_wp2_with fail
  refine (toPointS_any A n c l _ (H.out.keptN L4.grown) (by omega)).mono ?_
  rintro e w6 ⟨Ay, cy, rfl, o1, g1⟩
  have L6 := L4.new o1 g1
  clear o1 g1 L4
  go_wp2_with fail
  refine (eqPointS_same _ _ _ _ _ _ l _ (L6.rd 1 rfl) (L6.rd 0 rfl)).mono ?_
  rintro e w7 ⟨rfl, g1⟩
  have hbel := (L6.step g1).bel
  clear g1 L6
  go_wp2
  go_ret
  exact ⟨rfl, hbel⟩
set_option maxRecDepth 100000 in
set_option linter.unusedVariables false in
theorem liftedFnExactTimeSteps (os : Os) (started : os.Started) (H : Type) (enc : TypeId × Value → H) :
    ReturnsInHanded {} Try.checked os 10 .any (Rows.fnExactTimeStepsSpec.pre6 enc Try.prog Try.f10 Rows.fnExactTimeStepsRow.domain false) (Rows.fnExactTimeStepsSpec.post enc Try.prog Try.f10 false true false false) := by
  refine returnsInHanded_of_change (C := Try.checked) own started (by kernel_rfl) Try.func10
    (ChangeSpec.witness6 (enc := enc) (C := Try.checked) false ⟨#[], #[.slice none 0 0], []⟩ 8 (by kernel_rfl) (by kernel_rfl) (by kernel_rfl) (by kernel_rfl)) ?_
  intro W base args ds gs before hval0 hW hcnd _
  have hval : ∀ (j : Nat) t v, Try.f10.params[j]? = some t → args[j]? = some v → Value.okWide Try.prog W .any base t v := hval0
  have hW' := hW
  obtain ⟨p, q, hA0, hV, rfl, hfz, hnd⟩ := hW
  have hA : DataW.TrodAll enc Try.prog W 0 (fun _ => true) true Try.f10.params.toList args.toList ds p := hA0
  rw [Try.params10] at hA hval
  obtain ⟨v0, vs0, d0, ds0, p0, q0, hargs, rfl, rfl, h0, r0⟩ := trodAll_cons hA
  obtain ⟨rfl, rfl, rfl⟩ := trodAll_nil r0
  obtain rfl : args = #[v0] := by cases args; simp_all
  obtain ⟨rfl, rfl⟩ := trodVars_none hV
  obtain ⟨a0, len0, cap0, rfl⟩ := okWide_slice Try.underlying40 (hval 0 40 v0 rfl rfl)
  have k0 := h0
  have lt0 : ∀ x ∈ p0, x.block < W.heap.size := by obtain ⟨m, hm⟩ := k0; exact DataW.trod_lt m _ _ _ hm
  obtain ⟨z0, w0, b0⟩ : ∃ l : List Pt, Rd W 2 a0 len0 cap0 (l.flatMap pf) ∧ ∀ x ∈ l, inP x := by
    obtain ⟨fuel, hf⟩ := h0
    exact rd_structs pf mkP inP (fun _ => rfl) rfl mkP_ok (by omega) Try.underlying40 Try.underlying65 (by kernel_rfl) (by kernel_rfl) (all_int (by kernel_rfl)) (by simpa [Value.cells] using hf)
  clear hA0 hval0
  refine (walkFnExactTimeSteps a0 len0 cap0 z0 W w0 b0).mono fun e W' ⟨he, bel⟩ => ?_
  subst he
  exact ⟨_, rfl, _, _, _, [], _, [], hW', trodAll_mk1 (shut_bool Try.underlying4 _), (trodAll_cons_mk (Below.trod laidOut (by kernel_rfl) (of_decide_eq_true (by kernel_rfl)) k0 bel lt0) trodAll_mk0), rfl, bel.frame _, fun h => by cases h⟩

theorem closedFnExactTimeSteps : joinedFacts Try.prog 10 Try.f10 Rows.fnExactTimeStepsSpec Rows.fnExactTimeStepsRow = true := by
  unfold joinedFacts
  refine and_yes (and_yes (and_yes (and_yes (and_yes (and_yes (and_yes ?_ mayIn) ?_) ?_) ?_) ?_) ?_) ?_
  rotate_left
  · rw [liftsIn]; kernel_rfl
  · rw [makeIn]; kernel_rfl
  · kernel_rfl
  · kernel_rfl
  · kernel_rfl
  · kernel_rfl
  · kernel_rfl

theorem overFnExactTimeSteps : Rows.fnExactTimeStepsRow.holds Try.pinned (OpenSpec.ofChange Rows.fnExactTimeStepsSpec) :=
  OpenClaim.holds_of_wide 10 Try.f10 rfl rfl rfl rfl rfl rfl rfl ⟨rfl, rfl, rfl, rfl, rfl⟩ rfl rfl rfl rfl rfl (by kernel_rfl) Try.func10 closedFnExactTimeSteps
    (of_decide_eq_true (by kernel_rfl)) (by unfold Func.isWrapper; first | (rw [if_pos (by decide +kernel)]; kernel_rfl) | (rw [if_neg (by decide +kernel)]; exact ⟨rfl, rfl⟩))
    (fun os started H enc _ => liftedFnExactTimeSteps os started H enc)

/-- the statement -/
theorem provedFnExactTimeSteps : Rows.FnExactTimeStepsSaid := overFnExactTimeSteps
#print axioms provedFnExactTimeSteps
set_option maxRecDepth 100000 in
set_option linter.unusedVariables false in
theorem liftedFnExactPackSeries (os : Os) (started : os.Started) (H : Type) (enc : TypeId × Value → H) :
    ReturnsInHanded {} Try.checked os 17 .any (Rows.fnExactPackSeriesSpec.pre6 enc Try.prog Try.f17 Rows.fnExactPackSeriesRow.domain false) (Rows.fnExactPackSeriesSpec.post enc Try.prog Try.f17 false true false false) := by
  refine returnsInHanded_of_change (C := Try.checked) own started (by kernel_rfl) Try.func17
    (ChangeSpec.witness6 (enc := enc) (C := Try.checked) false ⟨#[], #[.slice none 0 0], []⟩ 8 (by kernel_rfl) (by kernel_rfl) (by kernel_rfl) (by kernel_rfl)) ?_
  intro W base args ds gs before hval0 hW hcnd _
  have hval : ∀ (j : Nat) t v, Try.f17.params[j]? = some t → args[j]? = some v → Value.okWide Try.prog W .any base t v := hval0
  have hW' := hW
  obtain ⟨p, q, hA0, hV, rfl, hfz, hnd⟩ := hW
  have hA : DataW.TrodAll enc Try.prog W 0 (fun _ => true) true Try.f17.params.toList args.toList ds p := hA0
  rw [Try.params17] at hA hval
  obtain ⟨v0, vs0, d0, ds0, p0, q0, hargs, rfl, rfl, h0, r0⟩ := trodAll_cons hA
  obtain ⟨rfl, rfl, rfl⟩ := trodAll_nil r0
  obtain rfl : args = #[v0] := by cases args; simp_all
  obtain ⟨rfl, rfl⟩ := trodVars_none hV
  obtain ⟨a0, len0, cap0, rfl⟩ := okWide_slice Try.underlying40 (hval 0 40 v0 rfl rfl)
  have k0 := h0
  have lt0 : ∀ x ∈ p0, x.block < W.heap.size := by obtain ⟨m, hm⟩ := k0; exact DataW.trod_lt m _ _ _ hm
  obtain ⟨z0, w0, b0⟩ : ∃ l : List Pt, Rd W 2 a0 len0 cap0 (l.flatMap pf) ∧ ∀ x ∈ l, inP x := by
    obtain ⟨fuel, hf⟩ := h0
    exact rd_structs pf mkP inP (fun _ => rfl) rfl mkP_ok (by omega) Try.underlying40 Try.underlying65 (by kernel_rfl) (by kernel_rfl) (all_int (by kernel_rfl)) (by simpa [Value.cells] using hf)
  clear hA0 hval0
  refine (walkFnExactPackSeries a0 len0 cap0 z0 W w0 b0).mono fun e W' ⟨he, bel⟩ => ?_
  subst he
  exact ⟨_, rfl, _, _, _, [], _, [], hW', trodAll_mk1 (shut_bool Try.underlying4 _), (trodAll_cons_mk (Below.trod laidOut (by kernel_rfl) (of_decide_eq_true (by kernel_rfl)) k0 bel lt0) trodAll_mk0), rfl, bel.frame _, fun h => by cases h⟩

theorem closedFnExactPackSeries : joinedFacts Try.prog 17 Try.f17 Rows.fnExactPackSeriesSpec Rows.fnExactPackSeriesRow = true := by
  unfold joinedFacts
  refine and_yes (and_yes (and_yes (and_yes (and_yes (and_yes (and_yes ?_ mayIn) ?_) ?_) ?_) ?_) ?_) ?_
  rotate_left
  · rw [liftsIn]; kernel_rfl
  · rw [makeIn]; kernel_rfl
  · kernel_rfl
  · kernel_rfl
  · kernel_rfl
  · kernel_rfl
  · kernel_rfl

theorem overFnExactPackSeries : Rows.fnExactPackSeriesRow.holds Try.pinned (OpenSpec.ofChange Rows.fnExactPackSeriesSpec) :=
  OpenClaim.holds_of_wide 17 Try.f17 rfl rfl rfl rfl rfl rfl rfl ⟨rfl, rfl, rfl, rfl, rfl⟩ rfl rfl rfl rfl rfl (by kernel_rfl) Try.func17 closedFnExactPackSeries
    (of_decide_eq_true (by kernel_rfl)) (by unfold Func.isWrapper; first | (rw [if_pos (by decide +kernel)]; kernel_rfl) | (rw [if_neg (by decide +kernel)]; exact ⟨rfl, rfl⟩))
    (fun os started H enc _ => liftedFnExactPackSeries os started H enc)

/-- the statement -/
theorem provedFnExactPackSeries : Rows.FnExactPackSeriesSaid := overFnExactPackSeries
#print axioms provedFnExactPackSeries
set_option maxRecDepth 100000 in
set_option linter.unusedVariables false in
theorem liftedFnExactPackedSize (os : Os) (started : os.Started) (H : Type) (enc : TypeId × Value → H) :
    ReturnsInHanded {} Try.checked os 12 .any (Rows.fnExactPackedSizeSpec.pre6 enc Try.prog Try.f12 Rows.fnExactPackedSizeRow.domain false) (Rows.fnExactPackedSizeSpec.post enc Try.prog Try.f12 false true false false) := by
  refine returnsInHanded_of_change (C := Try.checked) own started (by kernel_rfl) Try.func12
    (ChangeSpec.witness6 (enc := enc) (C := Try.checked) false ⟨#[], #[.slice none 0 0], []⟩ 8 (by kernel_rfl) (by kernel_rfl) (by kernel_rfl) (by kernel_rfl)) ?_
  intro W base args ds gs before hval0 hW hcnd _
  have hval : ∀ (j : Nat) t v, Try.f12.params[j]? = some t → args[j]? = some v → Value.okWide Try.prog W .any base t v := hval0
  have hW' := hW
  obtain ⟨p, q, hA0, hV, rfl, hfz, hnd⟩ := hW
  have hA : DataW.TrodAll enc Try.prog W 0 (fun _ => true) true Try.f12.params.toList args.toList ds p := hA0
  rw [Try.params12] at hA hval
  obtain ⟨v0, vs0, d0, ds0, p0, q0, hargs, rfl, rfl, h0, r0⟩ := trodAll_cons hA
  obtain ⟨rfl, rfl, rfl⟩ := trodAll_nil r0
  obtain rfl : args = #[v0] := by cases args; simp_all
  obtain ⟨rfl, rfl⟩ := trodVars_none hV
  obtain ⟨a0, len0, cap0, rfl⟩ := okWide_slice Try.underlying40 (hval 0 40 v0 rfl rfl)
  have k0 := h0
  have lt0 : ∀ x ∈ p0, x.block < W.heap.size := by obtain ⟨m, hm⟩ := k0; exact DataW.trod_lt m _ _ _ hm
  obtain ⟨z0, w0, b0⟩ : ∃ l : List Pt, Rd W 2 a0 len0 cap0 (l.flatMap pf) ∧ ∀ x ∈ l, inP x := by
    obtain ⟨fuel, hf⟩ := h0
    exact rd_structs pf mkP inP (fun _ => rfl) rfl mkP_ok (by omega) Try.underlying40 Try.underlying65 (by kernel_rfl) (by kernel_rfl) (all_int (by kernel_rfl)) (by simpa [Value.cells] using hf)
  clear hA0 hval0
  refine (walkFnExactPackedSize a0 len0 cap0 z0 W w0 b0).mono fun e W' ⟨he, bel⟩ => ?_
  subst he
  exact ⟨_, rfl, _, _, _, [], _, [], hW', trodAll_mk1 (shut_bool Try.underlying4 _), (trodAll_cons_mk (Below.trod laidOut (by kernel_rfl) (of_decide_eq_true (by kernel_rfl)) k0 bel lt0) trodAll_mk0), rfl, bel.frame _, fun h => by cases h⟩

theorem closedFnExactPackedSize : joinedFacts Try.prog 12 Try.f12 Rows.fnExactPackedSizeSpec Rows.fnExactPackedSizeRow = true := by
  unfold joinedFacts
  refine and_yes (and_yes (and_yes (and_yes (and_yes (and_yes (and_yes ?_ mayIn) ?_) ?_) ?_) ?_) ?_) ?_
  rotate_left
  · rw [liftsIn]; kernel_rfl
  · rw [makeIn]; kernel_rfl
  · kernel_rfl
  · kernel_rfl
  · kernel_rfl
  · kernel_rfl
  · kernel_rfl

theorem overFnExactPackedSize : Rows.fnExactPackedSizeRow.holds Try.pinned (OpenSpec.ofChange Rows.fnExactPackedSizeSpec) :=
  OpenClaim.holds_of_wide 12 Try.f12 rfl rfl rfl rfl rfl rfl rfl ⟨rfl, rfl, rfl, rfl, rfl⟩ rfl rfl rfl rfl rfl (by kernel_rfl) Try.func12 closedFnExactPackedSize
    (of_decide_eq_true (by kernel_rfl)) (by unfold Func.isWrapper; first | (rw [if_pos (by decide +kernel)]; kernel_rfl) | (rw [if_neg (by decide +kernel)]; exact ⟨rfl, rfl⟩))
    (fun os started H enc _ => liftedFnExactPackedSize os started H enc)

/-- the statement -/
theorem provedFnExactPackedSize : Rows.FnExactPackedSizeSaid := overFnExactPackedSize
#print axioms provedFnExactPackedSize
end Go.Proofs.Ytcgeagcfhjdpcaa
