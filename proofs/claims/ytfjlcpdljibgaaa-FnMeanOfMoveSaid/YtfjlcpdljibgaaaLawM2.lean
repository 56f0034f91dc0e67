/- The laws FnMeanOf and FnMeanOfMove: for every input the law returns true, and nothing that was there has turned. -/
import Derived.Test.YtfjlcpdljibgaaaFrame2
import Derived.Test.YtfjlcpdljibgaaaMean
import Derived.Test.YtfjlcpdljibgaaaDrawM
namespace Go.Proofs.Ytfjlcpdljibgaaa
set_option linter.unusedVariables false
open Go.ChangeShapes Go.WideShapes Go.ChangeAt Go.RowKit

theorem meanI_at (s c u lo hi m : Int) (b : Bool) (w : World) (h : meanL s c u lo hi = m ∧ okB 1 s c u lo hi = b) :
    Calls Try.prog 34 #[.agg #[.int .i64 s, .int .i64 c, .int .i64 u, .int .i64 lo, .int .i64 hi]] w fun e w' => e = .returned (.tuple #[.int .i64 m, .bool b]) ∧ w.grownBy w' none := by
  obtain ⟨rfl, rfl⟩ := h
  exact meanI_any s c u lo hi w
theorem meanS_at (s c u lo hi m : Int) (b : Bool) (w : World) (h : meanL s c u lo hi = m ∧ okB 1 s c u lo hi = b) :
    Calls Try.prog 32 #[.agg #[.int .i64 s, .int .i64 c, .int .i64 u, .int .i64 lo, .int .i64 hi]] w fun e w' => e = .returned (.tuple #[.int .i64 m, .bool b]) ∧ w.grownBy w' none := by
  obtain ⟨rfl, rfl⟩ := h
  exact meanS_any s c u lo hi w
/-- a mean lies between the least and the greatest value, and is rounded down -/
theorem mean_between {s c u lo hi m : Int} (hb : okB 1 s c u lo hi = true) (hm : meanL s c u lo hi = m) : lo ≤ m ∧ m ≤ hi ∧ m * c ≤ u ∧ u < (m + 1) * c := by
  unfold meanL at hm
  rw [hb, if_pos rfl] at hm
  subst hm
  obtain ⟨-, -, -, c1, c2, -, -, -, l4, l5⟩ := okB_of hb
  have hc : 0 < c := by omega
  refine ⟨(Int.le_ediv_iff_mul_le hc).2 l4, ?_, Int.ediv_mul_le u (by omega), Int.lt_ediv_add_one_mul_self u hc⟩
  have := Int.ediv_mul_le u (b := c) (by omega)
  exact Int.le_of_mul_le_mul_right (Int.le_trans this l5) hc
theorem mean_move {s c u lo hi m m' : Int} {b : Bool} (hb : okB 1 s c u lo hi = true) (hm : meanL s c u lo hi = m) (hm' : meanL s c (u + c) lo (hi + 1) = m') (hb' : okB 1 s c (u + c) lo (hi + 1) = b) : b = true → m' = m + 1 := by
  rintro rfl
  unfold meanL at hm hm'
  rw [hb, if_pos rfl] at hm
  rw [hb', if_pos rfl] at hm'
  subst hm hm'
  obtain ⟨-, -, -, c1, c2, -, -, -, l4, l5⟩ := okB_of hb
  exact Int.add_ediv_of_dvd_right (Int.dvd_refl c) |>.trans (by rw [Int.ediv_self (by omega)])

set_option maxHeartbeats 1600000 in
theorem walkFnMeanOf (A : Option Addr) (n c : Nat) (l : List Int) (W : World) (h : Rd W 1 A n c (bc l)) (hb : By l) : Calls Try.prog 16 #[.slice A n c] W fun e w' => e = .returned (.bool true) ∧ Below W.heap.size W w' := by
  by_cases hbig : (1048576 : Int) < (n : Int)
  · clear h hb
    go_enter Try.func16, Try.ntmps16
    go_wp2
    go_ret
    exact ⟨rfl, Below.refl _ _⟩
  go_enter Try.func16, Try.ntmps16
  go_wp2_with fail
  refine (drawMean_any A n c l _ h hb (by omega)).mono ?_
  rintro e w1 ⟨s, ct, u, lo, hi, rfl, hmid, g1⟩
  obtain ⟨m, b, hv⟩ : ∃ m b, meanL s ct u lo hi = m ∧ okB 1 s ct u lo hi = b := ⟨_, _, rfl, rfl⟩
  have HV := Lib.hid hv
  clear hv h hb
  have r1 := Blk.new w1 39 [.int .i64 s, .int .i64 ct, .int .i64 u, .int .i64 lo, .int .i64 hi]
  have hG1 := g_trans g1 (g_alloc w1 (.cells #[.int .i64 s, .int .i64 ct, .int .i64 u, .int .i64 lo, .int .i64 hi] 39) none)
  go_wp2_with fail
  refine (meanI_at s ct u lo hi m b _ HV.out).mono ?_
  rintro e w2 ⟨rfl, g2⟩
  have r2 := r1.keptN g2
  have c0 := r2.cell 0
  have c1 := r2.cell 1
  have c2 := r2.cell 2
  have c3 := r2.cell 3
  have c4 := r2.cell 4
  simp at c0 c1 c2 c3 c4
  go_wp2_with fail
  refine (meanS_at s ct u lo hi m b _ HV.out).mono ?_
  rintro e w3 ⟨rfl, g3⟩
  have G3 := Lib.hid (g_trans hG1 (g_trans g2 g3))
  have r3 := r2.keptN g3
  have d1 := r3.cell 1
  have d2 := r3.cell 2
  have d3 := r3.cell 3
  have d4 := r3.cell 4
  simp at d1 d2 d3 d4
  clear c0 c1 c2 c3 c4 r1 r2 r3 g1 g2 g3 hG1
  cases b with
  | false =>
    go_wp2
    go_ret
    exact ⟨ret_b (by simp), g_below G3.out (Nat.le_refl _) (by simp)⟩
  | true =>
    have hm := mean_between HV.out.2 HV.out.1
    obtain ⟨b1, b2, b3, b4⟩ := hm
    have hq := okB_of HV.out.2
    obtain ⟨-, -, -, c1, c2, l1, l2, l3, l4, l5⟩ := hq
    have p1 := mul_bd (a := m) (c := ct) (by omega) (by omega) (by omega) (by omega)
    have p2 := mul_bd (a := hi) (c := ct) (by omega) (by omega) (by omega) (by omega)
    have p3 := mul_bd (a := lo) (c := ct) (by omega) (by omega) (by omega) (by omega)
    have p4 : (m + 1) * ct = m * ct + ct := by rw [Int.add_mul, Int.one_mul]
    have e1 : IntKind.i64.wrap (m * ct) = m * ct := IntWalk.i64_in _ (by omega)
    have e2 : IntKind.i64.wrap (m + 1) = m + 1 := IntWalk.i64_in _ (by omega)
    have e3 : IntKind.i64.wrap ((m + 1) * ct) = (m + 1) * ct := IntWalk.i64_in _ (by omega)
    have f1 : decide (lo ≤ m) = true := by simpa using b1
    have f2 : decide (m ≤ hi) = true := by simpa using b2
    have f3 : decide (m * ct ≤ u) = true := by simpa using b3
    have f4 : decide (u < (m + 1) * ct) = true := by simpa using b4
    clear p1 p2 p3 p4 l1 l2 l3 l4 l5 HV
    go_wp2
    go_ret
    exact ⟨ret_b (by simp), g_below G3.out (Nat.le_refl _) (by simp)⟩
set_option maxHeartbeats 1600000 in
theorem walkFnMeanOfMove (A : Option Addr) (n c : Nat) (l : List Int) (W : World) (h : Rd W 1 A n c (bc l)) (hb : By l) : Calls Try.prog 17 #[.slice A n c] W fun e w' => e = .returned (.bool true) ∧ Below W.heap.size W w' := by
  by_cases hbig : (1048576 : Int) < (n : Int)
  · clear h hb
    go_enter Try.func17, Try.ntmps17
    go_wp2
    go_ret
    exact ⟨rfl, Below.refl _ _⟩
  go_enter Try.func17, Try.ntmps17
  go_wp2_with fail
  refine (drawMean_any A n c l _ h hb (by omega)).mono ?_
  rintro e w1 ⟨s, ct, u, lo, hi, rfl, hmid, g1⟩
  obtain ⟨m, b, hv⟩ : ∃ m b, meanL s ct u lo hi = m ∧ okB 1 s ct u lo hi = b := ⟨_, _, rfl, rfl⟩
  have HV := Lib.hid hv
  clear hv h hb
  have r1 := Blk.new w1 39 [.int .i64 s, .int .i64 ct, .int .i64 u, .int .i64 lo, .int .i64 hi]
  have hG1 := g_trans g1 (g_alloc w1 (.cells #[.int .i64 s, .int .i64 ct, .int .i64 u, .int .i64 lo, .int .i64 hi] 39) none)
  go_wp2_with fail
  refine (meanI_at s ct u lo hi m b _ HV.out).mono ?_
  rintro e w2 ⟨rfl, g2⟩
  have r2 := r1.keptN g2
  have c0 := r2.cell 0
  have c1 := r2.cell 1
  have c2 := r2.cell 2
  have c3 := r2.cell 3
  have c4 := r2.cell 4
  simp at c0 c1 c2 c3 c4
  go_wp2_with fail
  refine (meanS_at s ct u lo hi m b _ HV.out).mono ?_
  rintro e w3 ⟨rfl, g3⟩
  have G3 := Lib.hid (g_trans hG1 (g_trans g2 g3))
  have r3 := r2.keptN g3
  have r4 := r3
  have d1 := r3.cell 1
  have d2 := r3.cell 2
  have d3 := r3.cell 3
  have d4 := r3.cell 4
  simp at d1 d2 d3 d4
  clear c0 c1 c2 c3 c4 r1 r2 r3 g1 g2 g3 hG1
  cases b with
  | false =>
    go_wp2
    go_ret
    exact ⟨ret_b (by simp), g_below G3.out (Nat.le_refl _) (by simp)⟩
  | true =>
    have d0 := r4.cell 0
    simp at d0
    have hm := mean_between HV.out.2 HV.out.1
    obtain ⟨b1, b2, -, -⟩ := hm
    have hq := okB_of HV.out.2
    obtain ⟨-, -, -, q1, q2, l1, l2, l3, l4, l5⟩ := hq
    have p2 := mul_bd (a := hi) (c := ct) (by omega) (by omega) (by omega) (by omega)
    have p3 := mul_bd (a := lo) (c := ct) (by omega) (by omega) (by omega) (by omega)
    have u1 : -1000000 ≤ u := by omega
    have u2 : u ≤ 1000000 := by omega
    obtain ⟨m2, b', hv2⟩ : ∃ m2 b', meanL s ct (u + ct) lo (hi + 1) = m2 ∧ okB 1 s ct (u + ct) lo (hi + 1) = b' := ⟨_, _, rfl, rfl⟩
    have HV2 := Lib.hid hv2
    have hmv := Lib.hid (mean_move HV.out.2 HV.out.1 hv2.1 hv2.2)
    have hqb : (Blk (w3.alloc (.cells #[.int .i64 s, .int .i64 ct, .int .i64 u, .int .i64 lo, .int .i64 hi] 39)) w3.heap.size 39 [.int .i64 s, .int .i64 ct, .int .i64 u, .int .i64 lo, .int .i64 hi]) := Blk.new w3 _ _
    clear hv2 p2 p3 l4 l5 r4 HV
    go_wp2_with fail
    refine (meanI_at s ct (u + ct) lo (hi + 1) m2 b' _ HV2.out).mono ?_
    rintro e w5 ⟨rfl, g5⟩
    have G5 := Lib.hid (g_trans (g_trans G3.out (g_alloc w3 (.cells #[.int .i64 s, .int .i64 ct, .int .i64 (u + ct), .int .i64 lo, .int .i64 (hi + 1)] 39) none)) g5)
    clear g5 hqb
    cases b' with
    | false =>
      go_wp2
      go_ret
      exact ⟨rfl, g_below G5.out (Nat.le_refl _) (by simp)⟩
    | true =>
      have hm2 : m2 = m + 1 := hmv.out rfl
      subst hm2
      have e2 : IntKind.i64.wrap (m + 1) = m + 1 := IntWalk.i64_in _ (by omega)
      go_wp2
      go_ret
      exact ⟨ret_b (by simp), g_below G5.out (Nat.le_refl _) (by simp)⟩
set_option maxRecDepth 100000 in
set_option linter.unusedVariables false in
theorem liftedFnMeanOf (os : Os) (started : os.Started) (H : Type) (enc : TypeId × Value → H) :
    ReturnsInHanded {} Try.checked os 16 .any (Rows.fnMeanOfSpec.pre6 enc Try.prog Try.f16 Rows.fnMeanOfRow.domain false) (Rows.fnMeanOfSpec.post enc Try.prog Try.f16 false true false false) := by
  refine returnsInHanded_of_change (C := Try.checked) own started (by kernel_rfl) Try.func16
    (ChangeSpec.witness6 (enc := enc) (C := Try.checked) false ⟨#[], #[.slice none 0 0], []⟩ 8 (by kernel_rfl) (by kernel_rfl) (by kernel_rfl) (by kernel_rfl)) ?_
  intro W base args ds gs before hval0 hW hcnd _
  have hval : ∀ (j : Nat) t v, Try.f16.params[j]? = some t → args[j]? = some v → Value.okWide Try.prog W .any base t v := hval0
  have hW' := hW
  obtain ⟨p, q, hA0, hV, rfl, hfz, hnd⟩ := hW
  have hA : DataW.TrodAll enc Try.prog W 0 (fun _ => true) true Try.f16.params.toList args.toList ds p := hA0
  rw [Try.params16] at hA hval
  obtain ⟨v0, vs0, d0, ds0, p0, q0, hargs, rfl, rfl, h0, r0⟩ := trodAll_cons hA
  obtain ⟨rfl, rfl, rfl⟩ := trodAll_nil r0
  obtain rfl : args = #[v0] := by cases args; simp_all
  obtain ⟨rfl, rfl⟩ := trodVars_none hV
  obtain ⟨a0, len0, cap0, rfl⟩ := okWide_slice Try.underlying27 (hval 0 27 v0 rfl rfl)
  have k0 := h0
  have lt0 : ∀ x ∈ p0, x.block < W.heap.size := by obtain ⟨m, hm⟩ := k0; exact DataW.trod_lt m _ _ _ hm
  obtain ⟨z0, w0, b0⟩ : ∃ zs : List Int, Rd W 1 a0 len0 cap0 (zs.map (Value.int .u8)) ∧ By zs := by
    obtain ⟨fuel, hf⟩ := h0
    rcases open_ints Try.underlying27 Try.underlying5 (by kernel_rfl) hf with ⟨hcs, _⟩ | ⟨x, l, c, zs, hcs, _, hl, hm, hz, _, hcell, hwz⟩
    · simp [Value.cells] at hcs
      obtain ⟨rfl, rfl, rfl⟩ := hcs
      exact ⟨[], Rd.nil_ _ _, by intro x hx; cases hx⟩
    · simp [Value.cells] at hcs
      obtain ⟨rfl, rfl, rfl⟩ := hcs
      exact ⟨_, rd_of_ints hl hm (by simpa using hz) hcell, by_of_wf hwz⟩
  clear hA0 hval0
  refine (walkFnMeanOf a0 len0 cap0 z0 W w0 b0).mono fun e W' ⟨he, bel⟩ => ?_
  subst he
  exact ⟨_, rfl, _, _, _, [], _, [], hW', trodAll_mk1 (shut_bool Try.underlying4 _), (trodAll_cons_mk (Below.trod laidOut (by kernel_rfl) (of_decide_eq_true (by kernel_rfl)) k0 bel lt0) trodAll_mk0), rfl, bel.frame _, fun h => by cases h⟩

theorem closedFnMeanOf : joinedFacts Try.prog 16 Try.f16 Rows.fnMeanOfSpec Rows.fnMeanOfRow = true := by
  unfold joinedFacts
  refine and_yes (and_yes (and_yes (and_yes (and_yes (and_yes (and_yes ?_ mayIn) ?_) ?_) ?_) ?_) ?_) ?_
  rotate_left
  · rw [liftsIn]; kernel_rfl
  · rw [makeIn]; kernel_rfl
  · kernel_rfl
  · kernel_rfl
  · kernel_rfl
  · kernel_rfl
  · kernel_rfl

theorem overFnMeanOf : Rows.fnMeanOfRow.holds Try.pinned (OpenSpec.ofChange Rows.fnMeanOfSpec) :=
  OpenClaim.holds_of_wide 16 Try.f16 rfl rfl rfl rfl rfl rfl rfl ⟨rfl, rfl, rfl, rfl, rfl⟩ rfl rfl rfl rfl rfl (by kernel_rfl) Try.func16 closedFnMeanOf
    (of_decide_eq_true (by kernel_rfl)) (by unfold Func.isWrapper; first | (rw [if_pos (by decide +kernel)]; kernel_rfl) | (rw [if_neg (by decide +kernel)]; exact ⟨rfl, rfl⟩))
    (fun os started H enc _ => liftedFnMeanOf os started H enc)

/-- the statement -/
theorem provedFnMeanOf : Rows.FnMeanOfSaid := overFnMeanOf
#print axioms provedFnMeanOf
set_option maxRecDepth 100000 in
set_option linter.unusedVariables false in
theorem liftedFnMeanOfMove (os : Os) (started : os.Started) (H : Type) (enc : TypeId × Value → H) :
    ReturnsInHanded {} Try.checked os 17 .any (Rows.fnMeanOfMoveSpec.pre6 enc Try.prog Try.f17 Rows.fnMeanOfMoveRow.domain false) (Rows.fnMeanOfMoveSpec.post enc Try.prog Try.f17 false true false false) := by
  refine returnsInHanded_of_change (C := Try.checked) own started (by kernel_rfl) Try.func17
    (ChangeSpec.witness6 (enc := enc) (C := Try.checked) false ⟨#[], #[.slice none 0 0], []⟩ 8 (by kernel_rfl) (by kernel_rfl) (by kernel_rfl) (by kernel_rfl)) ?_
  intro W base args ds gs before hval0 hW hcnd _
  have hval : ∀ (j : Nat) t v, Try.f17.params[j]? = some t → args[j]? = some v → Value.okWide Try.prog W .any base t v := hval0
  have hW' := hW
  obtain ⟨p, q, hA0, hV, rfl, hfz, hnd⟩ := hW
  have hA : DataW.TrodAll enc Try.prog W 0 (fun _ => true) true Try.f17.params.toList args.toList ds p := hA0
  rw [Try.params17] at hA hval
  obtain ⟨v0, vs0, d0, ds0, p0, q0, hargs, rfl, rfl, h0, r0⟩ := trodAll_cons hA
  obtain ⟨rfl, rfl, rfl⟩ := trodAll_nil r0
  obtain rfl : args = #[v0] := by cases args; simp_all
  obtain ⟨rfl, rfl⟩ := trodVars_none hV
  obtain ⟨a0, len0, cap0, rfl⟩ := okWide_slice Try.underlying27 (hval 0 27 v0 rfl rfl)
  have k0 := h0
  have lt0 : ∀ x ∈ p0, x.block < W.heap.size := by obtain ⟨m, hm⟩ := k0; exact DataW.trod_lt m _ _ _ hm
  obtain ⟨z0, w0, b0⟩ : ∃ zs : List Int, Rd W 1 a0 len0 cap0 (zs.map (Value.int .u8)) ∧ By zs := by
    obtain ⟨fuel, hf⟩ := h0
    rcases open_ints Try.underlying27 Try.underlying5 (by kernel_rfl) hf with ⟨hcs, _⟩ | ⟨x, l, c, zs, hcs, _, hl, hm, hz, _, hcell, hwz⟩
    · simp [Value.cells] at hcs
      obtain ⟨rfl, rfl, rfl⟩ := hcs
      exact ⟨[], Rd.nil_ _ _, by intro x hx; cases hx⟩
    · simp [Value.cells] at hcs
      obtain ⟨rfl, rfl, rfl⟩ := hcs
      exact ⟨_, rd_of_ints hl hm (by simpa using hz) hcell, by_of_wf hwz⟩
  clear hA0 hval0
  refine (walkFnMeanOfMove a0 len0 cap0 z0 W w0 b0).mono fun e W' ⟨he, bel⟩ => ?_
  subst he
  exact ⟨_, rfl, _, _, _, [], _, [], hW', trodAll_mk1 (shut_bool Try.underlying4 _), (trodAll_cons_mk (Below.trod laidOut (by kernel_rfl) (of_decide_eq_true (by kernel_rfl)) k0 bel lt0) trodAll_mk0), rfl, bel.frame _, fun h => by cases h⟩

theorem closedFnMeanOfMove : joinedFacts Try.prog 17 Try.f17 Rows.fnMeanOfMoveSpec Rows.fnMeanOfMoveRow = true := by
  unfold joinedFacts
  refine and_yes (and_yes (and_yes (and_yes (and_yes (and_yes (and_yes ?_ mayIn) ?_) ?_) ?_) ?_) ?_) ?_
  rotate_left
  · rw [liftsIn]; kernel_rfl
  · rw [makeIn]; kernel_rfl
  · kernel_rfl
  · kernel_rfl
  · kernel_rfl
  · kernel_rfl
  · kernel_rfl

theorem overFnMeanOfMove : Rows.fnMeanOfMoveRow.holds Try.pinned (OpenSpec.ofChange Rows.fnMeanOfMoveSpec) :=
  OpenClaim.holds_of_wide 17 Try.f17 rfl rfl rfl rfl rfl rfl rfl ⟨rfl, rfl, rfl, rfl, rfl⟩ rfl rfl rfl rfl rfl (by kernel_rfl) Try.func17 closedFnMeanOfMove
    (of_decide_eq_true (by kernel_rfl)) (by unfold Func.isWrapper; first | (rw [if_pos (by decide +kernel)]; kernel_rfl) | (rw [if_neg (by decide +kernel)]; exact ⟨rfl, rfl⟩))
    (fun os started H enc _ => liftedFnMeanOfMove os started H enc)

/-- the statement -/
theorem provedFnMeanOfMove : Rows.FnMeanOfMoveSaid := overFnMeanOfMove
#print axioms provedFnMeanOfMove
end Go.Proofs.Ytfjlcpdljibgaaa
