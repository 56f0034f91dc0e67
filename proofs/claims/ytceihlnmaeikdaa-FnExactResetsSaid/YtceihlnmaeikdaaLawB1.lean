/- The laws FnExactValidSeries, FnExactValueAt, FnExactSumOver and FnExactResets: for every input the law returns true, and nothing that was there has turned. -/
import Derived.Test.YtceihlnmaeikdaaFrame2
import Derived.Test.YtceihlnmaeikdaaQst
import Derived.Test.YtceihlnmaeikdaaPMark
namespace Go.Proofs.Ytceihlnmaeikdaa
set_option linter.unusedVariables false
open Go.ChangeShapes Go.WideShapes Go.ChangeAt Go.RowKit

set_option maxHeartbeats 800000 in
theorem walkFnExactValidSeries (A : Option Addr) (n c : Nat) (l : List Pt)  (W : World) (h : Rd W 2 A n c (pc l)) (hb : ∀ x ∈ l, inP x)  : Calls Try.prog 3 #[.slice A n c] W fun e w' => e = .returned (.bool true) ∧ Below W.heap.size W w' := by
  have nb : n ≤ 9223372036854775807 := Nat.le_trans h.cap h.lim
  have H := Lib.hid h
  clear h hb
  obtain ⟨v, b, hv⟩ : ∃ v b, validL l = v := ⟨_, true, rfl⟩
  have HV := Lib.hid hv
  clear hv
  go_enter Try.func3, Try.ntmps3
  go_wp2_with fail
  refine (szPointS_any A n c _ _ nb (by omega) (by omega)).mono ?_
  rintro e w1 ⟨rfl, rfl⟩
  by_cases hbig : (1048576 : Int) < (n : Int)
  · rw [if_pos hbig]
    go_wp2
    go_ret
    exact ⟨rfl, Below.refl _ _⟩
  rw [if_neg hbig]
  have hn : n ≤ 1048576 := by omega
  go_wp2_with fail
  refine (toPointS_any A n c l _ H.out (by omega)).mono ?_
  rintro e w1 ⟨A1, c1, rfl, o1, g1⟩
  go_wp2_with fail
  refine (validS_at _ _ _ l v _ (Rd.own o1) HV.out).mono ?_
  rintro e w2 ⟨rfl, g2⟩
  go_wp2_with fail
  refine (toPointS_any A n c l _ (H.out.keptN (g_trans g1 g2)) (by omega)).mono ?_
  rintro e w3 ⟨A2, c2, rfl, o2, g3⟩
  go_wp2_with fail
  refine (validI_at _ _ _ l v _ (Rd.own o2) HV.out).mono ?_
  rintro e w4 ⟨rfl, g4⟩
  go_wp2_with fail
  refine (toPointS_any A n c l _ (H.out.keptN (g_trans g1 (g_trans g2 (g_trans g3 g4)))) (by omega)).mono ?_
  rintro e w5 ⟨A3, c3, rfl, o3, g5⟩
  go_wp2_with fail
  refine (eqPointS_same _ _ _ _ _ _ l _ ((Rd.own o2).keptN (g_trans g4 g5)) (Rd.own o3)).mono ?_
  rintro e w6 ⟨rfl, g6⟩
  have hbel := g_below (g_trans g1 (g_trans g2 (g_trans g3 (g_trans g4 (g_trans g5 g6))))) (Nat.le_refl _) (by simp)
  clear o1 o2 o3 g1 g2 g3 g4 g5 g6
  go_wp2
  go_ret
  exact ⟨rfl, hbel⟩
set_option maxHeartbeats 800000 in
theorem walkFnExactValueAt (A : Option Addr) (n c : Nat) (l : List Pt) (x : Int) (W : World) (h : Rd W 2 A n c (pc l)) (hb : ∀ x ∈ l, inP x) (hx : (Lit.int .i64 x).wf = true) : Calls Try.prog 6 #[.slice A n c, .int .i64 x] W fun e w' => e = .returned (.bool true) ∧ Below W.heap.size W w' := by
  have nb : n ≤ 9223372036854775807 := Nat.le_trans h.cap h.lim
  have H := Lib.hid h
  clear h hb
  obtain ⟨v, b, hv⟩ : ∃ v b, valueL l x = (v, b) := ⟨_, _, rfl⟩
  have HV := Lib.hid hv
  clear hv
  go_enter Try.func6, Try.ntmps6
  go_wp2_with fail
  refine (szPointS_any A n c _ _ nb (by omega) (by omega)).mono ?_
  rintro e w1 ⟨rfl, rfl⟩
  by_cases hbig : (1048576 : Int) < (n : Int)
  · rw [if_pos hbig]
    go_wp2
    go_ret
    exact ⟨rfl, Below.refl _ _⟩
  rw [if_neg hbig]
  have hn : n ≤ 1048576 := by omega
  go_wp2_with fail
  refine (toPointS_any A n c l _ H.out (by omega)).mono ?_
  rintro e w1 ⟨A1, c1, rfl, o1, g1⟩
  go_wp2_with fail
  refine (valueS_at _ _ _ l x v b _ (Rd.own o1) HV.out).mono ?_
  rintro e w2 ⟨rfl, g2⟩
  go_wp2_with fail
  refine (toPointS_any A n c l _ (H.out.keptN (g_trans g1 g2)) (by omega)).mono ?_
  rintro e w3 ⟨A2, c2, rfl, o2, g3⟩
  go_wp2_with fail
  refine (valueI_at _ _ _ l x v b _ (Rd.own o2) HV.out).mono ?_
  rintro e w4 ⟨rfl, g4⟩
  go_wp2_with fail
  refine (toPointS_any A n c l _ (H.out.keptN (g_trans g1 (g_trans g2 (g_trans g3 g4)))) (by omega)).mono ?_
  rintro e w5 ⟨A3, c3, rfl, o3, g5⟩
  go_wp2_with fail
  refine (eqPointS_same _ _ _ _ _ _ l _ ((Rd.own o2).keptN (g_trans g4 g5)) (Rd.own o3)).mono ?_
  rintro e w6 ⟨rfl, g6⟩
  have hbel := g_below (g_trans g1 (g_trans g2 (g_trans g3 (g_trans g4 (g_trans g5 g6))))) (Nat.le_refl _) (by simp)
  clear o1 o2 o3 g1 g2 g3 g4 g5 g6
  go_wp2
  go_ret
  exact ⟨rfl, hbel⟩
set_option maxHeartbeats 800000 in
theorem walkFnExactSumOver (A : Option Addr) (n c : Nat) (l : List Pt) (f t : Int) (W : World) (h : Rd W 2 A n c (pc l)) (hb : ∀ x ∈ l, inP x) (hf : (Lit.int .i64 f).wf = true) (ht : (Lit.int .i64 t).wf = true) : Calls Try.prog 9 #[.slice A n c, .int .i64 f, .int .i64 t] W fun e w' => e = .returned (.bool true) ∧ Below W.heap.size W w' := by
  have nb : n ≤ 9223372036854775807 := Nat.le_trans h.cap h.lim
  have H := Lib.hid h
  clear h hb
  obtain ⟨v, b, hv⟩ : ∃ v b, sumV (rangeL l f t) = v := ⟨_, true, rfl⟩
  have HV := Lib.hid hv
  clear hv
  go_enter Try.func9, Try.ntmps9
  go_wp2_with fail
  refine (szPointS_any A n c _ _ nb (by omega) (by omega)).mono ?_
  rintro e w1 ⟨rfl, rfl⟩
  by_cases hbig : (1048576 : Int) < (n : Int)
  · rw [if_pos hbig]
    go_wp2
    go_ret
    exact ⟨rfl, Below.refl _ _⟩
  rw [if_neg hbig]
  have hn : n ≤ 1048576 := by omega
  go_wp2_with fail
  refine (toPointS_any A n c l _ H.out (by omega)).mono ?_
  rintro e w1 ⟨A1, c1, rfl, o1, g1⟩
  go_wp2_with fail
  refine (sumS_at _ _ _ l f t v _ (Rd.own o1) HV.out).mono ?_
  rintro e w2 ⟨rfl, g2⟩
  go_wp2_with fail
  refine (toPointS_any A n c l _ (H.out.keptN (g_trans g1 g2)) (by omega)).mono ?_
  rintro e w3 ⟨A2, c2, rfl, o2, g3⟩
  go_wp2_with fail
  refine (sumI_at _ _ _ l f t v _ (Rd.own o2) HV.out).mono ?_
  rintro e w4 ⟨rfl, g4⟩
  go_wp2_with fail
  refine (toPointS_any A n c l _ (H.out.keptN (g_trans g1 (g_trans g2 (g_trans g3 g4)))) (by omega)).mono ?_
  rintro e w5 ⟨A3, c3, rfl, o3, g5⟩
  go_wp2_with fail
  refine (eqPointS_same _ _ _ _ _ _ l _ ((Rd.own o2).keptN (g_trans g4 g5)) (Rd.own o3)).mono ?_
  rintro e w6 ⟨rfl, g6⟩
  have hbel := g_below (g_trans g1 (g_trans g2 (g_trans g3 (g_trans g4 (g_trans g5 g6))))) (Nat.le_refl _) (by simp)
  clear o1 o2 o3 g1 g2 g3 g4 g5 g6
  go_wp2
  go_ret
  exact ⟨rfl, hbel⟩
set_option maxHeartbeats 800000 in
theorem walkFnExactResets (A : Option Addr) (n c : Nat) (l : List Pt) (f t : Int) (W : World) (h : Rd W 2 A n c (pc l)) (hb : ∀ x ∈ l, inP x) (hf : (Lit.int .i64 f).wf = true) (ht : (Lit.int .i64 t).wf = true) : Calls Try.prog 11 #[.slice A n c, .int .i64 f, .int .i64 t] W fun e w' => e = .returned (.bool true) ∧ Below W.heap.size W w' := by
  have nb : n ≤ 9223372036854775807 := Nat.le_trans h.cap h.lim
  have H := Lib.hid h
  clear h hb
  obtain ⟨v, b, hv⟩ : ∃ v b, fallsL l f t = v := ⟨_, true, rfl⟩
  have HV := Lib.hid hv
  clear hv
  go_enter Try.func11, Try.ntmps11
  go_wp2_with fail
  refine (szPointS_any A n c _ _ nb (by omega) (by omega)).mono ?_
  rintro e w1 ⟨rfl, rfl⟩
  by_cases hbig : (1048576 : Int) < (n : Int)
  · rw [if_pos hbig]
    go_wp2
    go_ret
    exact ⟨rfl, Below.refl _ _⟩
  rw [if_neg hbig]
  have hn : n ≤ 1048576 := by omega
  go_wp2_with fail
  refine (toPointS_any A n c l _ H.out (by omega)).mono ?_
  rintro e w1 ⟨A1, c1, rfl, o1, g1⟩
  go_wp2_with fail
  refine (fallS_at _ _ _ l f t v _ (Rd.own o1) HV.out).mono ?_
  rintro e w2 ⟨rfl, g2⟩
  go_wp2_with fail
  refine (toPointS_any A n c l _ (H.out.keptN (g_trans g1 g2)) (by omega)).mono ?_
  rintro e w3 ⟨A2, c2, rfl, o2, g3⟩
  go_wp2_with fail
  refine (fallI_at _ _ _ l f t v _ (Rd.own o2) HV.out).mono ?_
  rintro e w4 ⟨rfl, g4⟩
  go_wp2_with fail
  refine (toPointS_any A n c l _ (H.out.keptN (g_trans g1 (g_trans g2 (g_trans g3 g4)))) (by omega)).mono ?_
  rintro e w5 ⟨A3, c3, rfl, o3, g5⟩
  go_wp2_with fail
  refine (eqPointS_same _ _ _ _ _ _ l _ ((Rd.own o2).keptN (g_trans g4 g5)) (Rd.own o3)).mono ?_
  rintro e w6 ⟨rfl, g6⟩
  have hbel := g_below (g_trans g1 (g_trans g2 (g_trans g3 (g_trans g4 (g_trans g5 g6))))) (Nat.le_refl _) (by simp)
  clear o1 o2 o3 g1 g2 g3 g4 g5 g6
  go_wp2
  go_ret
  exact ⟨rfl, hbel⟩
set_option maxRecDepth 100000 in
set_option linter.unusedVariables false in
theorem liftedFnExactValidSeries (os : Os) (started : os.Started) (H : Type) (enc : TypeId × Value → H) :
    ReturnsInHanded {} Try.checked os 3 .any (Rows.fnExactValidSeriesSpec.pre6 enc Try.prog Try.f3 Rows.fnExactValidSeriesRow.domain false) (Rows.fnExactValidSeriesSpec.post enc Try.prog Try.f3 false true false false) := by
  refine returnsInHanded_of_change (C := Try.checked) own started (by kernel_rfl) Try.func3
    (ChangeSpec.witness6 (enc := enc) (C := Try.checked) false ⟨#[], #[.slice none 0 0], []⟩ 8 (by kernel_rfl) (by kernel_rfl) (by kernel_rfl) (by kernel_rfl)) ?_
  intro W base args ds gs before hval0 hW hcnd _
  have hval : ∀ (j : Nat) t v, Try.f3.params[j]? = some t → args[j]? = some v → Value.okWide Try.prog W .any base t v := hval0
  have hW' := hW
  obtain ⟨p, q, hA0, hV, rfl, hfz, hnd⟩ := hW
  have hA : DataW.TrodAll enc Try.prog W 0 (fun _ => true) true Try.f3.params.toList args.toList ds p := hA0
  rw [Try.params3] at hA hval
  obtain ⟨v0, vs0, d0, ds0, p0, q0, hargs, rfl, rfl, h0, r0⟩ := trodAll_cons hA
  obtain ⟨rfl, rfl, rfl⟩ := trodAll_nil r0
  obtain rfl : args = #[v0] := by cases args; simp_all
  obtain ⟨rfl, rfl⟩ := trodVars_none hV
  obtain ⟨a0, len0, cap0, rfl⟩ := okWide_slice Try.underlying22 (hval 0 22 v0 rfl rfl)
  have k0 := h0
  have lt0 : ∀ x ∈ p0, x.block < W.heap.size := by obtain ⟨m, hm⟩ := k0; exact DataW.trod_lt m _ _ _ hm
  obtain ⟨z0, w0, b0⟩ : ∃ l : List Pt, Rd W 2 a0 len0 cap0 (l.flatMap pf) ∧ ∀ x ∈ l, inP x := by
    obtain ⟨fuel, hf⟩ := h0
    exact rd_structs pf mkP inP (fun _ => rfl) rfl mkP_ok (by omega) Try.underlying22 Try.underlying46 (by kernel_rfl) (by kernel_rfl) (all_int (by kernel_rfl)) (by simpa [Value.cells] using hf)
  clear hA0 hval0
  refine (walkFnExactValidSeries a0 len0 cap0 z0 W w0 b0).mono fun e W' ⟨he, bel⟩ => ?_
  subst he
  exact ⟨_, rfl, _, _, _, [], _, [], hW', trodAll_mk1 (shut_bool Try.underlying4 _), (trodAll_cons_mk (Below.trod laidOut (by kernel_rfl) (of_decide_eq_true (by kernel_rfl)) k0 bel lt0) trodAll_mk0), rfl, bel.frame _, fun h => by cases h⟩

theorem closedFnExactValidSeries : joinedFacts Try.prog 3 Try.f3 Rows.fnExactValidSeriesSpec Rows.fnExactValidSeriesRow = true := by
  unfold joinedFacts
  refine and_yes (and_yes (and_yes (and_yes (and_yes (and_yes (and_yes ?_ mayIn) ?_) ?_) ?_) ?_) ?_) ?_
  rotate_left
  · rw [liftsIn]; kernel_rfl
  · rw [makeIn]; kernel_rfl
  · kernel_rfl
  · kernel_rfl
  · kernel_rfl
  · kernel_rfl
  · kernel_rfl

theorem overFnExactValidSeries : Rows.fnExactValidSeriesRow.holds Try.pinned (OpenSpec.ofChange Rows.fnExactValidSeriesSpec) :=
  OpenClaim.holds_of_wide 3 Try.f3 rfl rfl rfl rfl rfl rfl rfl ⟨rfl, rfl, rfl, rfl, rfl⟩ rfl rfl rfl rfl rfl (by kernel_rfl) Try.func3 closedFnExactValidSeries
    (of_decide_eq_true (by kernel_rfl)) (by unfold Func.isWrapper; first | (rw [if_pos (by decide +kernel)]; kernel_rfl) | (rw [if_neg (by decide +kernel)]; exact ⟨rfl, rfl⟩))
    (fun os started H enc _ => liftedFnExactValidSeries os started H enc)

/-- the statement -/
theorem provedFnExactValidSeries : Rows.FnExactValidSeriesSaid := overFnExactValidSeries
#print axioms provedFnExactValidSeries
set_option maxRecDepth 100000 in
set_option linter.unusedVariables false in
theorem liftedFnExactValueAt (os : Os) (started : os.Started) (H : Type) (enc : TypeId × Value → H) :
    ReturnsInHanded {} Try.checked os 6 .any (Rows.fnExactValueAtSpec.pre6 enc Try.prog Try.f6 Rows.fnExactValueAtRow.domain false) (Rows.fnExactValueAtSpec.post enc Try.prog Try.f6 false true false false) := by
  refine returnsInHanded_of_change (C := Try.checked) own started (by kernel_rfl) Try.func6
    (ChangeSpec.witness6 (enc := enc) (C := Try.checked) false ⟨#[], #[.slice none 0 0, .int .i64 0], []⟩ 8 (by kernel_rfl) (by kernel_rfl) (by kernel_rfl) (by kernel_rfl)) ?_
  intro W base args ds gs before hval0 hW hcnd _
  have hval : ∀ (j : Nat) t v, Try.f6.params[j]? = some t → args[j]? = some v → Value.okWide Try.prog W .any base t v := hval0
  have hW' := hW
  obtain ⟨p, q, hA0, hV, rfl, hfz, hnd⟩ := hW
  have hA : DataW.TrodAll enc Try.prog W 0 (fun _ => true) true Try.f6.params.toList args.toList ds p := hA0
  rw [Try.params6] at hA hval
  obtain ⟨v0, vs0, d0, ds0, p0, q0, hargs, rfl, rfl, h0, r0⟩ := trodAll_cons hA
  obtain ⟨v1, vs1, d1, ds1, p1, q1, rfl, rfl, rfl, h1, r1⟩ := trodAll_cons r0
  obtain ⟨rfl, rfl, rfl⟩ := trodAll_nil r1
  obtain rfl : args = #[v0, v1] := by cases args; simp_all
  obtain ⟨rfl, rfl⟩ := trodVars_none hV
  obtain ⟨a0, len0, cap0, rfl⟩ := okWide_slice Try.underlying22 (hval 0 22 v0 rfl rfl)
  have k0 := h0
  have lt0 : ∀ x ∈ p0, x.block < W.heap.size := by obtain ⟨m, hm⟩ := k0; exact DataW.trod_lt m _ _ _ hm
  obtain ⟨z0, w0, b0⟩ : ∃ l : List Pt, Rd W 2 a0 len0 cap0 (l.flatMap pf) ∧ ∀ x ∈ l, inP x := by
    obtain ⟨fuel, hf⟩ := h0
    exact rd_structs pf mkP inP (fun _ => rfl) rfl mkP_ok (by omega) Try.underlying22 Try.underlying46 (by kernel_rfl) (by kernel_rfl) (all_int (by kernel_rfl)) (by simpa [Value.cells] using hf)
  obtain ⟨a1, rfl, rfl, rfl, w1⟩ := open_int Try.underlying3 (hval 1 3 v1 rfl rfl) h1
  clear hA0 hval0
  refine (walkFnExactValueAt a0 len0 cap0 z0 a1 W w0 b0 w1).mono fun e W' ⟨he, bel⟩ => ?_
  subst he
  exact ⟨_, rfl, _, _, _, [], _, [], hW', trodAll_mk1 (shut_bool Try.underlying4 _), (trodAll_cons_mk (Below.trod laidOut (by kernel_rfl) (of_decide_eq_true (by kernel_rfl)) k0 bel lt0) (trodAll_cons_mk (shut_int Try.underlying3 w1) trodAll_mk0)), rfl, bel.frame _, fun h => by cases h⟩

theorem closedFnExactValueAt : joinedFacts Try.prog 6 Try.f6 Rows.fnExactValueAtSpec Rows.fnExactValueAtRow = true := by
  unfold joinedFacts
  refine and_yes (and_yes (and_yes (and_yes (and_yes (and_yes (and_yes ?_ mayIn) ?_) ?_) ?_) ?_) ?_) ?_
  rotate_left
  · rw [liftsIn]; kernel_rfl
  · rw [makeIn]; kernel_rfl
  · kernel_rfl
  · kernel_rfl
  · kernel_rfl
  · kernel_rfl
  · kernel_rfl

theorem overFnExactValueAt : Rows.fnExactValueAtRow.holds Try.pinned (OpenSpec.ofChange Rows.fnExactValueAtSpec) :=
  OpenClaim.holds_of_wide 6 Try.f6 rfl rfl rfl rfl rfl rfl rfl ⟨rfl, rfl, rfl, rfl, rfl⟩ rfl rfl rfl rfl rfl (by kernel_rfl) Try.func6 closedFnExactValueAt
    (of_decide_eq_true (by kernel_rfl)) (by unfold Func.isWrapper; first | (rw [if_pos (by decide +kernel)]; kernel_rfl) | (rw [if_neg (by decide +kernel)]; exact ⟨rfl, rfl⟩))
    (fun os started H enc _ => liftedFnExactValueAt os started H enc)

/-- the statement -/
theorem provedFnExactValueAt : Rows.FnExactValueAtSaid := overFnExactValueAt
#print axioms provedFnExactValueAt
set_option maxRecDepth 100000 in
set_option linter.unusedVariables false in
theorem liftedFnExactSumOver (os : Os) (started : os.Started) (H : Type) (enc : TypeId × Value → H) :
    ReturnsInHanded {} Try.checked os 9 .any (Rows.fnExactSumOverSpec.pre6 enc Try.prog Try.f9 Rows.fnExactSumOverRow.domain false) (Rows.fnExactSumOverSpec.post enc Try.prog Try.f9 false true false false) := by
  refine returnsInHanded_of_change (C := Try.checked) own started (by kernel_rfl) Try.func9
    (ChangeSpec.witness6 (enc := enc) (C := Try.checked) false ⟨#[], #[.slice none 0 0, .int .i64 0, .int .i64 0], []⟩ 8 (by kernel_rfl) (by kernel_rfl) (by kernel_rfl) (by kernel_rfl)) ?_
  intro W base args ds gs before hval0 hW hcnd _
  have hval : ∀ (j : Nat) t v, Try.f9.params[j]? = some t → args[j]? = some v → Value.okWide Try.prog W .any base t v := hval0
  have hW' := hW
  obtain ⟨p, q, hA0, hV, rfl, hfz, hnd⟩ := hW
  have hA : DataW.TrodAll enc Try.prog W 0 (fun _ => true) true Try.f9.params.toList args.toList ds p := hA0
  rw [Try.params9] at hA hval
  obtain ⟨v0, vs0, d0, ds0, p0, q0, hargs, rfl, rfl, h0, r0⟩ := trodAll_cons hA
  obtain ⟨v1, vs1, d1, ds1, p1, q1, rfl, rfl, rfl, h1, r1⟩ := trodAll_cons r0
  obtain ⟨v2, vs2, d2, ds2, p2, q2, rfl, rfl, rfl, h2, r2⟩ := trodAll_cons r1
  obtain ⟨rfl, rfl, rfl⟩ := trodAll_nil r2
  obtain rfl : args = #[v0, v1, v2] := by cases args; simp_all
  obtain ⟨rfl, rfl⟩ := trodVars_none hV
  obtain ⟨a0, len0, cap0, rfl⟩ := okWide_slice Try.underlying22 (hval 0 22 v0 rfl rfl)
  have k0 := h0
  have lt0 : ∀ x ∈ p0, x.block < W.heap.size := by obtain ⟨m, hm⟩ := k0; exact DataW.trod_lt m _ _ _ hm
  obtain ⟨z0, w0, b0⟩ : ∃ l : List Pt, Rd W 2 a0 len0 cap0 (l.flatMap pf) ∧ ∀ x ∈ l, inP x := by
    obtain ⟨fuel, hf⟩ := h0
    exact rd_structs pf mkP inP (fun _ => rfl) rfl mkP_ok (by omega) Try.underlying22 Try.underlying46 (by kernel_rfl) (by kernel_rfl) (all_int (by kernel_rfl)) (by simpa [Value.cells] using hf)
  obtain ⟨a1, rfl, rfl, rfl, w1⟩ := open_int Try.underlying3 (hval 1 3 v1 rfl rfl) h1
  obtain ⟨a2, rfl, rfl, rfl, w2⟩ := open_int Try.underlying3 (hval 2 3 v2 rfl rfl) h2
  clear hA0 hval0
  refine (walkFnExactSumOver a0 len0 cap0 z0 a1 a2 W w0 b0 w1 w2).mono fun e W' ⟨he, bel⟩ => ?_
  subst he
  exact ⟨_, rfl, _, _, _, [], _, [], hW', trodAll_mk1 (shut_bool Try.underlying4 _), (trodAll_cons_mk (Below.trod laidOut (by kernel_rfl) (of_decide_eq_true (by kernel_rfl)) k0 bel lt0) (trodAll_cons_mk (shut_int Try.underlying3 w1) (trodAll_cons_mk (shut_int Try.underlying3 w2) trodAll_mk0))), rfl, bel.frame _, fun h => by cases h⟩

theorem closedFnExactSumOver : joinedFacts Try.prog 9 Try.f9 Rows.fnExactSumOverSpec Rows.fnExactSumOverRow = true := by
  unfold joinedFacts
  refine and_yes (and_yes (and_yes (and_yes (and_yes (and_yes (and_yes ?_ mayIn) ?_) ?_) ?_) ?_) ?_) ?_
  rotate_left
  · rw [liftsIn]; kernel_rfl
  · rw [makeIn]; kernel_rfl
  · kernel_rfl
  · kernel_rfl
  · kernel_rfl
  · kernel_rfl
  · kernel_rfl

theorem overFnExactSumOver : Rows.fnExactSumOverRow.holds Try.pinned (OpenSpec.ofChange Rows.fnExactSumOverSpec) :=
  OpenClaim.holds_of_wide 9 Try.f9 rfl rfl rfl rfl rfl rfl rfl ⟨rfl, rfl, rfl, rfl, rfl⟩ rfl rfl rfl rfl rfl (by kernel_rfl) Try.func9 closedFnExactSumOver
    (of_decide_eq_true (by kernel_rfl)) (by unfold Func.isWrapper; first | (rw [if_pos (by decide +kernel)]; kernel_rfl) | (rw [if_neg (by decide +kernel)]; exact ⟨rfl, rfl⟩))
    (fun os started H enc _ => liftedFnExactSumOver os started H enc)

/-- the statement -/
theorem provedFnExactSumOver : Rows.FnExactSumOverSaid := overFnExactSumOver
#print axioms provedFnExactSumOver
set_option maxRecDepth 100000 in
set_option linter.unusedVariables false in
theorem liftedFnExactResets (os : Os) (started : os.Started) (H : Type) (enc : TypeId × Value → H) :
    ReturnsInHanded {} Try.checked os 11 .any (Rows.fnExactResetsSpec.pre6 enc Try.prog Try.f11 Rows.fnExactResetsRow.domain false) (Rows.fnExactResetsSpec.post enc Try.prog Try.f11 false true false false) := by
  refine returnsInHanded_of_change (C := Try.checked) own started (by kernel_rfl) Try.func11
    (ChangeSpec.witness6 (enc := enc) (C := Try.checked) false ⟨#[], #[.slice none 0 0, .int .i64 0, .int .i64 0], []⟩ 8 (by kernel_rfl) (by kernel_rfl) (by kernel_rfl) (by kernel_rfl)) ?_
  intro W base args ds gs before hval0 hW hcnd _
  have hval : ∀ (j : Nat) t v, Try.f11.params[j]? = some t → args[j]? = some v → Value.okWide Try.prog W .any base t v := hval0
  have hW' := hW
  obtain ⟨p, q, hA0, hV, rfl, hfz, hnd⟩ := hW
  have hA : DataW.TrodAll enc Try.prog W 0 (fun _ => true) true Try.f11.params.toList args.toList ds p := hA0
  rw [Try.params11] at hA hval
  obtain ⟨v0, vs0, d0, ds0, p0, q0, hargs, rfl, rfl, h0, r0⟩ := trodAll_cons hA
  obtain ⟨v1, vs1, d1, ds1, p1, q1, rfl, rfl, rfl, h1, r1⟩ := trodAll_cons r0
  obtain ⟨v2, vs2, d2, ds2, p2, q2, rfl, rfl, rfl, h2, r2⟩ := trodAll_cons r1
  obtain ⟨rfl, rfl, rfl⟩ := trodAll_nil r2
  obtain rfl : args = #[v0, v1, v2] := by cases args; simp_all
  obtain ⟨rfl, rfl⟩ := trodVars_none hV
  obtain ⟨a0, len0, cap0, rfl⟩ := okWide_slice Try.underlying22 (hval 0 22 v0 rfl rfl)
  have k0 := h0
  have lt0 : ∀ x ∈ p0, x.block < W.heap.size := by obtain ⟨m, hm⟩ := k0; exact DataW.trod_lt m _ _ _ hm
  obtain ⟨z0, w0, b0⟩ : ∃ l : List Pt, Rd W 2 a0 len0 cap0 (l.flatMap pf) ∧ ∀ x ∈ l, inP x := by
    obtain ⟨fuel, hf⟩ := h0
    exact rd_structs pf mkP inP (fun _ => rfl) rfl mkP_ok (by omega) Try.underlying22 Try.underlying46 (by kernel_rfl) (by kernel_rfl) (all_int (by kernel_rfl)) (by simpa [Value.cells] using hf)
  obtain ⟨a1, rfl, rfl, rfl, w1⟩ := open_int Try.underlying3 (hval 1 3 v1 rfl rfl) h1
  obtain ⟨a2, rfl, rfl, rfl, w2⟩ := open_int Try.underlying3 (hval 2 3 v2 rfl rfl) h2
  clear hA0 hval0
  refine (walkFnExactResets a0 len0 cap0 z0 a1 a2 W w0 b0 w1 w2).mono fun e W' ⟨he, bel⟩ => ?_
  subst he
  exact ⟨_, rfl, _, _, _, [], _, [], hW', trodAll_mk1 (shut_bool Try.underlying4 _), (trodAll_cons_mk (Below.trod laidOut (by kernel_rfl) (of_decide_eq_true (by kernel_rfl)) k0 bel lt0) (trodAll_cons_mk (shut_int Try.underlying3 w1) (trodAll_cons_mk (shut_int Try.underlying3 w2) trodAll_mk0))), rfl, bel.frame _, fun h => by cases h⟩

theorem closedFnExactResets : joinedFacts Try.prog 11 Try.f11 Rows.fnExactResetsSpec Rows.fnExactResetsRow = true := by
  unfold joinedFacts
  refine and_yes (and_yes (and_yes (and_yes (and_yes (and_yes (and_yes ?_ mayIn) ?_) ?_) ?_) ?_) ?_) ?_
  rotate_left
  · rw [liftsIn]; kernel_rfl
  · rw [makeIn]; kernel_rfl
  · kernel_rfl
  · kernel_rfl
  · kernel_rfl
  · kernel_rfl
  · kernel_rfl

theorem overFnExactResets : Rows.fnExactResetsRow.holds Try.pinned (OpenSpec.ofChange Rows.fnExactResetsSpec) :=
  OpenClaim.holds_of_wide 11 Try.f11 rfl rfl rfl rfl rfl rfl rfl ⟨rfl, rfl, rfl, rfl, rfl⟩ rfl rfl rfl rfl rfl (by kernel_rfl) Try.func11 closedFnExactResets
    (of_decide_eq_true (by kernel_rfl)) (by unfold Func.isWrapper; first | (rw [if_pos (by decide +kernel)]; kernel_rfl) | (rw [if_neg (by decide +kernel)]; exact ⟨rfl, rfl⟩))
    (fun os started H enc _ => liftedFnExactResets os started H enc)

/-- the statement -/
theorem provedFnExactResets : Rows.FnExactResetsSaid := overFnExactResets
#print axioms provedFnExactResets
end Go.Proofs.Ytceihlnmaeikdaa
