/- The laws FnZigzagOfOrder, FnZigzagOf and FnUnzigzagOf: for every input the law returns true, and nothing that was there has turned. -/
import Derived.Test.YtfjlcpdljibgaaaFrame
import Derived.Test.YtfjlcpdljibgaaaDrawA
namespace Go.Proofs.Ytfjlcpdljibgaaa
open Go.ChangeShapes Go.WideShapes Go.ChangeAt Go.RowKit

theorem walkFnZigzagOfOrder (A : Option Addr) (n c : Nat) (l : List Int) (W : World) (h : Rd W 1 A n c (bc l)) (hb : By l) : Calls Try.prog 6 #[.slice A n c] W fun e w' => e = .returned (.bool true) ∧ Below W.heap.size W w' := by
  by_cases hbig : 1048576 < n
  · go_enter Try.func6, Try.ntmps6
    go_wp2
    go_ret
    exact ⟨rfl, Below.refl _ _⟩
  go_enter Try.func6, Try.ntmps6
  go_wp2_with fail
  refine (drawZig_any A n c l W h hb (by omega)).mono ?_
  rintro e w1 ⟨x, rfl, x0, x1, hg⟩
  have hbel := g_below hg (Nat.le_refl _) (by simp)
  clear h hb hg
  by_cases c1 : x < -100000 ∨ 100000 < x
  · have e1 := zig_out c1
    have E := Lib.hid e1
    clear e1 c1
    go_wp2_with fail
    refine (zigI_at x (-1) _ E.out).mono ?_
    rintro e w2 ⟨rfl, rfl⟩
    go_wp2_with fail
    refine (zigS_at x (-1) _ E.out).mono ?_
    rintro e w2 ⟨rfl, rfl⟩
    go_wp2_with fail
    refine (zigS_at x (-1) _ E.out).mono ?_
    rintro e w2 ⟨rfl, rfl⟩
    go_wp2
    go_ret
    exact ⟨rfl, hbel⟩
  by_cases c2 : x = 0
  · subst c2
    go_wp2_with fail
    refine (zigI_at 0 0 _ rfl).mono ?_
    rintro e w2 ⟨rfl, rfl⟩
    go_wp2_with fail
    refine (zigS_at 0 0 _ rfl).mono ?_
    rintro e w2 ⟨rfl, rfl⟩
    go_wp2_with fail
    refine (zigS_at 0 0 _ rfl).mono ?_
    rintro e w2 ⟨rfl, rfl⟩
    go_wp2
    go_ret
    exact ⟨rfl, hbel⟩
  by_cases c3 : 0 < x
  · have b1 : decide (2 * x < 1) = false := by simp; omega
    have b2 : ((2 * (x - 1)) == (2 * x - 2)) = true := by simp; omega
    go_wp2_with fail
    refine (zigI_at x (2 * x) _ (zig_pos (by omega) (by omega))).mono ?_
    rintro e w2 ⟨rfl, rfl⟩
    go_wp2_with fail
    refine (zigS_at x (2 * x) _ (zig_pos (by omega) (by omega))).mono ?_
    rintro e w2 ⟨rfl, rfl⟩
    go_wp2_with fail
    refine (zigI_at (x - 1) (2 * x - 2) _ (by rw [zig_pos (by omega) (by omega)]; omega)).mono ?_
    rintro e w2 ⟨rfl, rfl⟩
    go_wp2
    go_ret
    exact ⟨rfl, hbel⟩
  by_cases c4 : x = -1
  · subst c4
    go_wp2_with fail
    refine (zigI_at (-1) 1 _ rfl).mono ?_
    rintro e w2 ⟨rfl, rfl⟩
    go_wp2_with fail
    refine (zigS_at (-1) 1 _ rfl).mono ?_
    rintro e w2 ⟨rfl, rfl⟩
    go_wp2_with fail
    refine (zigI_at 0 0 _ rfl).mono ?_
    rintro e w2 ⟨rfl, rfl⟩
    go_wp2_with fail
    refine (zigI_at 0 0 _ rfl).mono ?_
    rintro e w2 ⟨rfl, rfl⟩
    go_wp2
    go_ret
    exact ⟨rfl, hbel⟩
  have b1 : decide (-2 * x - 1 < 1) = false := by simp; omega
  go_wp2_with fail
  refine (zigI_at x (-2 * x - 1) _ (zig_neg (by omega) (by omega))).mono ?_
  rintro e w2 ⟨rfl, rfl⟩
  go_wp2_with fail
  refine (zigS_at x (-2 * x - 1) _ (zig_neg (by omega) (by omega))).mono ?_
  rintro e w2 ⟨rfl, rfl⟩
  go_wp2_with fail
  refine (zigI_at (x + 1) (-2 * x - 1 - 2) _ (by rw [zig_neg (by omega) (by omega)]; omega)).mono ?_
  rintro e w2 ⟨rfl, rfl⟩
  go_wp2
  go_ret
  exact ⟨rfl, hbel⟩
set_option maxRecDepth 100000 in
set_option linter.unusedVariables false in
theorem liftedFnZigzagOfOrder (os : Os) (started : os.Started) (H : Type) (enc : TypeId × Value → H) :
    ReturnsInHanded {} Try.checked os 6 .any (Rows.fnZigzagOfOrderSpec.pre6 enc Try.prog Try.f6 Rows.fnZigzagOfOrderRow.domain false) (Rows.fnZigzagOfOrderSpec.post enc Try.prog Try.f6 false true false false) := by
  refine returnsInHanded_of_change (C := Try.checked) own started (by kernel_rfl) Try.func6
    (ChangeSpec.witness6 (enc := enc) (C := Try.checked) false ⟨#[], #[.slice none 0 0], []⟩ 8 (by kernel_rfl) (by kernel_rfl) (by kernel_rfl) (by kernel_rfl)) ?_
  intro W base args ds gs before hval0 hW hcnd _
  have hval : ∀ (j : Nat) t v, Try.f6.params[j]? = some t → args[j]? = some v → Value.okWide Try.prog W .any base t v := hval0
  have hW' := hW
  obtain ⟨p, q, hA0, hV, rfl, hfz, hnd⟩ := hW
  have hA : DataW.TrodAll enc Try.prog W 0 (fun _ => true) true Try.f6.params.toList args.toList ds p := hA0
  rw [Try.params6] at hA hval
  obtain ⟨v0, vs0, d0, ds0, p0, q0, hargs, rfl, rfl, h0, r0⟩ := trodAll_cons hA
  obtain ⟨rfl, rfl, rfl⟩ := trodAll_nil r0
  obtain rfl : args = #[v0] := by cases args; simp_all
  obtain ⟨rfl, rfl⟩ := trodVars_none hV
  obtain ⟨a0, len0, cap0, rfl⟩ := okWide_slice Try.underlying27 (hval 0 27 v0 rfl rfl)
  have k0 := h0
  have lt0 : ∀ x ∈ p0, x.block < W.heap.size := by obtain ⟨m, hm⟩ := k0; exact DataW.trod_lt m _ _ _ hm
  obtain ⟨z0, w0, b0⟩ : ∃ zs : List Int, Rd W 1 a0 len0 cap0 (zs.map (Value.int .u8)) ∧ By zs := by
    obtain ⟨fuel, hf⟩ := h0
    rcases open_ints Try.underlying27 Try.underlying5 (by kernel_rfl) hf with ⟨hcs, _⟩ | ⟨x, l, c, zs, hcs, _, hl, hm, hz, _, hcell, hwz⟩
    · simp [Value.cells] at hcs
      obtain ⟨rfl, rfl, rfl⟩ := hcs
      exact ⟨[], Rd.nil_ _ _, by intro x hx; cases hx⟩
    · simp [Value.cells] at hcs
      obtain ⟨rfl, rfl, rfl⟩ := hcs
      exact ⟨_, rd_of_ints hl hm (by simpa using hz) hcell, by_of_wf hwz⟩
  clear hA0 hval0
  refine (walkFnZigzagOfOrder a0 len0 cap0 z0 W w0 b0).mono fun e W' ⟨he, bel⟩ => ?_
  subst he
  exact ⟨_, rfl, _, _, _, [], _, [], hW', trodAll_mk1 (shut_bool Try.underlying4 _), (trodAll_cons_mk (Below.trod laidOut (by kernel_rfl) (of_decide_eq_true (by kernel_rfl)) k0 bel lt0) trodAll_mk0), rfl, bel.frame _, fun h => by cases h⟩

theorem closedFnZigzagOfOrder : joinedFacts Try.prog 6 Try.f6 Rows.fnZigzagOfOrderSpec Rows.fnZigzagOfOrderRow = true := by
  unfold joinedFacts
  refine and_yes (and_yes (and_yes (and_yes (and_yes (and_yes (and_yes ?_ mayIn) ?_) ?_) ?_) ?_) ?_) ?_
  rotate_left
  · rw [liftsIn]; kernel_rfl
  · rw [makeIn]; kernel_rfl
  · kernel_rfl
  · kernel_rfl
  · kernel_rfl
  · kernel_rfl
  · kernel_rfl

theorem overFnZigzagOfOrder : Rows.fnZigzagOfOrderRow.holds Try.pinned (OpenSpec.ofChange Rows.fnZigzagOfOrderSpec) :=
  OpenClaim.holds_of_wide 6 Try.f6 rfl rfl rfl rfl rfl rfl rfl ⟨rfl, rfl, rfl, rfl, rfl⟩ rfl rfl rfl rfl rfl (by kernel_rfl) Try.func6 closedFnZigzagOfOrder
    (of_decide_eq_true (by kernel_rfl)) (by unfold Func.isWrapper; first | (rw [if_pos (by decide +kernel)]; kernel_rfl) | (rw [if_neg (by decide +kernel)]; exact ⟨rfl, rfl⟩))
    (fun os started H enc _ => liftedFnZigzagOfOrder os started H enc)

/-- the statement -/
theorem provedFnZigzagOfOrder : Rows.FnZigzagOfOrderSaid := overFnZigzagOfOrder
#print axioms provedFnZigzagOfOrder

theorem walkFnZigzagOf (A : Option Addr) (n c : Nat) (l : List Int) (W : World) (h : Rd W 1 A n c (bc l)) (hb : By l) : Calls Try.prog 8 #[.slice A n c] W fun e w' => e = .returned (.bool true) ∧ Below W.heap.size W w' := by
  by_cases hbig : 1048576 < n
  · go_enter Try.func8, Try.ntmps8
    go_wp2
    go_ret
    exact ⟨rfl, Below.refl _ _⟩
  go_enter Try.func8, Try.ntmps8
  go_wp2_with fail
  refine (drawZig_any A n c l W h hb (by omega)).mono ?_
  rintro e w1 ⟨x, rfl, x0, x1, hg⟩
  have hbel := g_below hg (Nat.le_refl _) (by simp)
  clear h hb hg
  by_cases c1 : x < -100000 ∨ 100000 < x
  · have e1 := zig_out c1
    have E := Lib.hid e1
    clear e1 c1
    go_wp2_with fail
    refine (zigI_at x (-1) _ E.out).mono ?_
    rintro e w2 ⟨rfl, rfl⟩
    go_wp2_with fail
    refine (zigS_at x (-1) _ E.out).mono ?_
    rintro e w2 ⟨rfl, rfl⟩
    go_wp2_with fail
    refine (zigS_at x (-1) _ E.out).mono ?_
    rintro e w2 ⟨rfl, rfl⟩
    go_wp2
    go_ret
    exact ⟨rfl, hbel⟩
  by_cases c2 : x = 0
  · subst c2
    go_wp2_with fail
    refine (zigI_at 0 0 _ rfl).mono ?_
    rintro e w2 ⟨rfl, rfl⟩
    go_wp2_with fail
    refine (zigS_at 0 0 _ rfl).mono ?_
    rintro e w2 ⟨rfl, rfl⟩
    go_wp2_with fail
    refine (unzI_at 0 0 true _ rfl rfl).mono ?_
    rintro e w2 ⟨rfl, rfl⟩
    go_wp2_with fail
    refine (zigI_at 0 0 _ rfl).mono ?_
    rintro e w2 ⟨rfl, rfl⟩
    go_wp2
    go_ret
    exact ⟨rfl, hbel⟩
  by_cases c3 : 0 < x
  · have b1 : decide (2 * x < 0) = false := by simp; omega
    have b2 : (x == 0) = false := by simp; omega
    have b3 : decide (0 < x) = true := by simpa using c3
    have u1 : unzigL (2 * x) = x := by rw [(unz_in (by omega) (by omega)).1]; unfold unzL; rw [if_pos (by omega)]; omega
    have u2 : unzOk (2 * x) = true := (unz_in (by omega) (by omega)).2
    have U1 := Lib.hid u1
    have U2 := Lib.hid u2
    clear u1 u2
    go_wp2_with fail
    refine (zigI_at x (2 * x) _ (zig_pos (by omega) (by omega))).mono ?_
    rintro e w2 ⟨rfl, rfl⟩
    go_wp2_with fail
    refine (zigS_at x (2 * x) _ (zig_pos (by omega) (by omega))).mono ?_
    rintro e w2 ⟨rfl, rfl⟩
    go_wp2_with fail
    refine (unzI_at (2 * x) x true _ U1.out U2.out).mono ?_
    rintro e w2 ⟨rfl, rfl⟩
    go_wp2_with fail
    refine (zigI_at (-x) (2 * x - 1) _ (by rw [zig_neg (by omega) (by omega)]; omega)).mono ?_
    rintro e w2 ⟨rfl, rfl⟩
    go_wp2
    go_ret
    exact ⟨rfl, hbel⟩
  have b1 : decide (-2 * x - 1 < 0) = false := by simp; omega
  have b2 : (x == 0) = false := by simp; omega
  have b3 : decide (0 < x) = false := by simp; omega
  have b4 : decide (x < 0) = true := by simp; omega
  have b5 : ((-2 * x - 1 - -2 * x) == -1) = true := by rw [beq_iff_eq]; omega
  have u1 : unzigL (-2 * x - 1) = x := by rw [(unz_in (by omega) (by omega)).1]; unfold unzL; rw [if_neg (by omega)]; omega
  have u2 : unzOk (-2 * x - 1) = true := (unz_in (by omega) (by omega)).2
  have U1 := Lib.hid u1
  have U2 := Lib.hid u2
  clear u1 u2
  go_wp2_with fail
  refine (zigI_at x (-2 * x - 1) _ (zig_neg (by omega) (by omega))).mono ?_
  rintro e w2 ⟨rfl, rfl⟩
  go_wp2_with fail
  refine (zigS_at x (-2 * x - 1) _ (zig_neg (by omega) (by omega))).mono ?_
  rintro e w2 ⟨rfl, rfl⟩
  go_wp2_with fail
  refine (unzI_at (-2 * x - 1) x true _ U1.out U2.out).mono ?_
  rintro e w2 ⟨rfl, rfl⟩
  go_wp2_with fail
  refine (zigI_at (-x) (-2 * x) _ (by rw [zig_pos (by omega) (by omega)]; omega)).mono ?_
  rintro e w2 ⟨rfl, rfl⟩
  go_wp2
  go_ret
  exact ⟨rfl, hbel⟩
set_option maxRecDepth 100000 in
set_option linter.unusedVariables false in
theorem liftedFnZigzagOf (os : Os) (started : os.Started) (H : Type) (enc : TypeId × Value → H) :
    ReturnsInHanded {} Try.checked os 8 .any (Rows.fnZigzagOfSpec.pre6 enc Try.prog Try.f8 Rows.fnZigzagOfRow.domain false) (Rows.fnZigzagOfSpec.post enc Try.prog Try.f8 false true false false) := by
  refine returnsInHanded_of_change (C := Try.checked) own started (by kernel_rfl) Try.func8
    (ChangeSpec.witness6 (enc := enc) (C := Try.checked) false ⟨#[], #[.slice none 0 0], []⟩ 8 (by kernel_rfl) (by kernel_rfl) (by kernel_rfl) (by kernel_rfl)) ?_
  intro W base args ds gs before hval0 hW hcnd _
  have hval : ∀ (j : Nat) t v, Try.f8.params[j]? = some t → args[j]? = some v → Value.okWide Try.prog W .any base t v := hval0
  have hW' := hW
  obtain ⟨p, q, hA0, hV, rfl, hfz, hnd⟩ := hW
  have hA : DataW.TrodAll enc Try.prog W 0 (fun _ => true) true Try.f8.params.toList args.toList ds p := hA0
  rw [Try.params8] at hA hval
  obtain ⟨v0, vs0, d0, ds0, p0, q0, hargs, rfl, rfl, h0, r0⟩ := trodAll_cons hA
  obtain ⟨rfl, rfl, rfl⟩ := trodAll_nil r0
  obtain rfl : args = #[v0] := by cases args; simp_all
  obtain ⟨rfl, rfl⟩ := trodVars_none hV
  obtain ⟨a0, len0, cap0, rfl⟩ := okWide_slice Try.underlying27 (hval 0 27 v0 rfl rfl)
  have k0 := h0
  have lt0 : ∀ x ∈ p0, x.block < W.heap.size := by obtain ⟨m, hm⟩ := k0; exact DataW.trod_lt m _ _ _ hm
  obtain ⟨z0, w0, b0⟩ : ∃ zs : List Int, Rd W 1 a0 len0 cap0 (zs.map (Value.int .u8)) ∧ By zs := by
    obtain ⟨fuel, hf⟩ := h0
    rcases open_ints Try.underlying27 Try.underlying5 (by kernel_rfl) hf with ⟨hcs, _⟩ | ⟨x, l, c, zs, hcs, _, hl, hm, hz, _, hcell, hwz⟩
    · simp [Value.cells] at hcs
      obtain ⟨rfl, rfl, rfl⟩ := hcs
      exact ⟨[], Rd.nil_ _ _, by intro x hx; cases hx⟩
    · simp [Value.cells] at hcs
      obtain ⟨rfl, rfl, rfl⟩ := hcs
      exact ⟨_, rd_of_ints hl hm (by simpa using hz) hcell, by_of_wf hwz⟩
  clear hA0 hval0
  refine (walkFnZigzagOf a0 len0 cap0 z0 W w0 b0).mono fun e W' ⟨he, bel⟩ => ?_
  subst he
  exact ⟨_, rfl, _, _, _, [], _, [], hW', trodAll_mk1 (shut_bool Try.underlying4 _), (trodAll_cons_mk (Below.trod laidOut (by kernel_rfl) (of_decide_eq_true (by kernel_rfl)) k0 bel lt0) trodAll_mk0), rfl, bel.frame _, fun h => by cases h⟩

theorem closedFnZigzagOf : joinedFacts Try.prog 8 Try.f8 Rows.fnZigzagOfSpec Rows.fnZigzagOfRow = true := by
  unfold joinedFacts
  refine and_yes (and_yes (and_yes (and_yes (and_yes (and_yes (and_yes ?_ mayIn) ?_) ?_) ?_) ?_) ?_) ?_
  rotate_left
  · rw [liftsIn]; kernel_rfl
  · rw [makeIn]; kernel_rfl
  · kernel_rfl
  · kernel_rfl
  · kernel_rfl
  · kernel_rfl
  · kernel_rfl

theorem overFnZigzagOf : Rows.fnZigzagOfRow.holds Try.pinned (OpenSpec.ofChange Rows.fnZigzagOfSpec) :=
  OpenClaim.holds_of_wide 8 Try.f8 rfl rfl rfl rfl rfl rfl rfl ⟨rfl, rfl, rfl, rfl, rfl⟩ rfl rfl rfl rfl rfl (by kernel_rfl) Try.func8 closedFnZigzagOf
    (of_decide_eq_true (by kernel_rfl)) (by unfold Func.isWrapper; first | (rw [if_pos (by decide +kernel)]; kernel_rfl) | (rw [if_neg (by decide +kernel)]; exact ⟨rfl, rfl⟩))
    (fun os started H enc _ => liftedFnZigzagOf os started H enc)

/-- the statement -/
theorem provedFnZigzagOf : Rows.FnZigzagOfSaid := overFnZigzagOf
#print axioms provedFnZigzagOf

theorem walkFnUnzigzagOf (A : Option Addr) (n c : Nat) (l : List Int) (W : World) (h : Rd W 1 A n c (bc l)) (hb : By l) : Calls Try.prog 11 #[.slice A n c] W fun e w' => e = .returned (.bool true) ∧ Below W.heap.size W w' := by
  by_cases hbig : 1048576 < n
  · go_enter Try.func11, Try.ntmps11
    go_wp2
    go_ret
    exact ⟨rfl, Below.refl _ _⟩
  go_enter Try.func11, Try.ntmps11
  go_wp2_with fail
  refine (drawUnz_any A n c l W h hb (by omega)).mono ?_
  rintro e w1 ⟨x, rfl, x0, x1, hg⟩
  have hbel := g_below hg (Nat.le_refl _) (by simp)
  clear h hb hg
  by_cases c1 : x < 0 ∨ 200000 < x
  · have U := Lib.hid (unz_out c1)
    clear c1
    go_wp2_with fail
    refine (unzI_at x 0 false _ U.out.1 U.out.2).mono ?_
    rintro e w2 ⟨rfl, rfl⟩
    go_wp2_with fail
    refine (unzS_at x 0 false _ U.out.1 U.out.2).mono ?_
    rintro e w2 ⟨rfl, rfl⟩
    go_wp2
    go_ret
    exact ⟨rfl, hbel⟩
  by_cases c2 : x % 2 = 0
  · obtain ⟨v, rfl⟩ : ∃ v, x = 2 * v := ⟨x / 2, by omega⟩
    have b1 : decide (v < 0) = false := by simp; omega
    have b2 : ((2 * v) % 2 == 1) = false := by rw [beq_eq_false_iff_ne]; omega
    have v0 : 0 ≤ v := by omega
    have v1 : v ≤ 100000 := by omega
    have u1 : unzigL (2 * v) = v := by rw [(unz_in (by omega) (by omega)).1]; unfold unzL; rw [if_pos (by omega)]; omega
    have u2 : unzOk (2 * v) = true := (unz_in (by omega) (by omega)).2
    have U1 := Lib.hid u1
    have U2 := Lib.hid u2
    clear u1 u2 c1 c2
    go_wp2_with fail
    refine (unzI_at (2 * v) v true _ U1.out U2.out).mono ?_
    rintro e w2 ⟨rfl, rfl⟩
    go_wp2_with fail
    refine (unzS_at (2 * v) v true _ U1.out U2.out).mono ?_
    rintro e w2 ⟨rfl, rfl⟩
    go_wp2_with fail
    refine (zigI_at v (2 * v) _ (zig_pos (by omega) (by omega))).mono ?_
    rintro e w2 ⟨rfl, rfl⟩
    go_wp2
    go_ret
    exact ⟨rfl, hbel⟩
  obtain ⟨v, rfl⟩ : ∃ v, x = -2 * v - 1 := ⟨-((x + 1) / 2), by omega⟩
  have b1 : decide (v < 0) = true := by simp; omega
  have b2 : ((-2 * v - 1) % 2 == 1) = true := by rw [beq_iff_eq]; omega
  have v0 : v < 0 := by omega
  have v1 : -100000 ≤ v := by omega
  have u1 : unzigL (-2 * v - 1) = v := by rw [(unz_in (by omega) (by omega)).1]; unfold unzL; rw [if_neg (by omega)]; omega
  have u2 : unzOk (-2 * v - 1) = true := (unz_in (by omega) (by omega)).2
  have U1 := Lib.hid u1
  have U2 := Lib.hid u2
  clear u1 u2 c1 c2
  go_wp2_with fail
  refine (unzI_at (-2 * v - 1) v true _ U1.out U2.out).mono ?_
  rintro e w2 ⟨rfl, rfl⟩
  go_wp2_with fail
  refine (unzS_at (-2 * v - 1) v true _ U1.out U2.out).mono ?_
  rintro e w2 ⟨rfl, rfl⟩
  go_wp2_with fail
  refine (zigI_at v (-2 * v - 1) _ (zig_neg (by omega) (by omega))).mono ?_
  rintro e w2 ⟨rfl, rfl⟩
  go_wp2
  go_ret
  exact ⟨rfl, hbel⟩
set_option maxRecDepth 100000 in
set_option linter.unusedVariables false in
theorem liftedFnUnzigzagOf (os : Os) (started : os.Started) (H : Type) (enc : TypeId × Value → H) :
    ReturnsInHanded {} Try.checked os 11 .any (Rows.fnUnzigzagOfSpec.pre6 enc Try.prog Try.f11 Rows.fnUnzigzagOfRow.domain false) (Rows.fnUnzigzagOfSpec.post enc Try.prog Try.f11 false true false false) := by
  refine returnsInHanded_of_change (C := Try.checked) own started (by kernel_rfl) Try.func11
    (ChangeSpec.witness6 (enc := enc) (C := Try.checked) false ⟨#[], #[.slice none 0 0], []⟩ 8 (by kernel_rfl) (by kernel_rfl) (by kernel_rfl) (by kernel_rfl)) ?_
  intro W base args ds gs before hval0 hW hcnd _
  have hval : ∀ (j : Nat) t v, Try.f11.params[j]? = some t → args[j]? = some v → Value.okWide Try.prog W .any base t v := hval0
  have hW' := hW
  obtain ⟨p, q, hA0, hV, rfl, hfz, hnd⟩ := hW
  have hA : DataW.TrodAll enc Try.prog W 0 (fun _ => true) true Try.f11.params.toList args.toList ds p := hA0
  rw [Try.params11] at hA hval
  obtain ⟨v0, vs0, d0, ds0, p0, q0, hargs, rfl, rfl, h0, r0⟩ := trodAll_cons hA
  obtain ⟨rfl, rfl, rfl⟩ := trodAll_nil r0
  obtain rfl : args = #[v0] := by cases args; simp_all
  obtain ⟨rfl, rfl⟩ := trodVars_none hV
  obtain ⟨a0, len0, cap0, rfl⟩ := okWide_slice Try.underlying27 (hval 0 27 v0 rfl rfl)
  have k0 := h0
  have lt0 : ∀ x ∈ p0, x.block < W.heap.size := by obtain ⟨m, hm⟩ := k0; exact DataW.trod_lt m _ _ _ hm
  obtain ⟨z0, w0, b0⟩ : ∃ zs : List Int, Rd W 1 a0 len0 cap0 (zs.map (Value.int .u8)) ∧ By zs := by
    obtain ⟨fuel, hf⟩ := h0
    rcases open_ints Try.underlying27 Try.underlying5 (by kernel_rfl) hf with ⟨hcs, _⟩ | ⟨x, l, c, zs, hcs, _, hl, hm, hz, _, hcell, hwz⟩
    · simp [Value.cells] at hcs
      obtain ⟨rfl, rfl, rfl⟩ := hcs
      exact ⟨[], Rd.nil_ _ _, by intro x hx; cases hx⟩
    · simp [Value.cells] at hcs
      obtain ⟨rfl, rfl, rfl⟩ := hcs
      exact ⟨_, rd_of_ints hl hm (by simpa using hz) hcell, by_of_wf hwz⟩
  clear hA0 hval0
  refine (walkFnUnzigzagOf a0 len0 cap0 z0 W w0 b0).mono fun e W' ⟨he, bel⟩ => ?_
  subst he
  exact ⟨_, rfl, _, _, _, [], _, [], hW', trodAll_mk1 (shut_bool Try.underlying4 _), (trodAll_cons_mk (Below.trod laidOut (by kernel_rfl) (of_decide_eq_true (by kernel_rfl)) k0 bel lt0) trodAll_mk0), rfl, bel.frame _, fun h => by cases h⟩

theorem closedFnUnzigzagOf : joinedFacts Try.prog 11 Try.f11 Rows.fnUnzigzagOfSpec Rows.fnUnzigzagOfRow = true := by
  unfold joinedFacts
  refine and_yes (and_yes (and_yes (and_yes (and_yes (and_yes (and_yes ?_ mayIn) ?_) ?_) ?_) ?_) ?_) ?_
  rotate_left
  · rw [liftsIn]; kernel_rfl
  · rw [makeIn]; kernel_rfl
  · kernel_rfl
  · kernel_rfl
  · kernel_rfl
  · kernel_rfl
  · kernel_rfl

theorem overFnUnzigzagOf : Rows.fnUnzigzagOfRow.holds Try.pinned (OpenSpec.ofChange Rows.fnUnzigzagOfSpec) :=
  OpenClaim.holds_of_wide 11 Try.f11 rfl rfl rfl rfl rfl rfl rfl ⟨rfl, rfl, rfl, rfl, rfl⟩ rfl rfl rfl rfl rfl (by kernel_rfl) Try.func11 closedFnUnzigzagOf
    (of_decide_eq_true (by kernel_rfl)) (by unfold Func.isWrapper; first | (rw [if_pos (by decide +kernel)]; kernel_rfl) | (rw [if_neg (by decide +kernel)]; exact ⟨rfl, rfl⟩))
    (fun os started H enc _ => liftedFnUnzigzagOf os started H enc)

/-- the statement -/
theorem provedFnUnzigzagOf : Rows.FnUnzigzagOfSaid := overFnUnzigzagOf
#print axioms provedFnUnzigzagOf

end Go.Proofs.Ytfjlcpdljibgaaa
