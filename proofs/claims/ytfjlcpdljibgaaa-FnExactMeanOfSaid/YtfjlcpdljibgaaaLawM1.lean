/- The law FnExactMeanOf: for every input the law returns true, and nothing that was there has turned. -/
import Derived.Test.YtfjlcpdljibgaaaFrame2
import Derived.Test.YtfjlcpdljibgaaaMean
namespace Go.Proofs.Ytfjlcpdljibgaaa
set_option linter.unusedVariables false
open Go.ChangeShapes Go.WideShapes Go.ChangeAt Go.RowKit

theorem meanI_at (s c u lo hi m : Int) (b : Bool) (w : World) (h : meanL s c u lo hi = m ∧ okB 1 s c u lo hi = b) :
    Calls Try.prog 34 #[.agg #[.int .i64 s, .int .i64 c, .int .i64 u, .int .i64 lo, .int .i64 hi]] w fun e w' => e = .returned (.tuple #[.int .i64 m, .bool b]) ∧ w.grownBy w' none := by
  obtain ⟨rfl, rfl⟩ := h
  exact meanI_any s c u lo hi w
theorem meanS_at (s c u lo hi m : Int) (b : Bool) (w : World) (h : meanL s c u lo hi = m ∧ okB 1 s c u lo hi = b) :
    Calls Try.prog 32 #[.agg #[.int .i64 s, .int .i64 c, .int .i64 u, .int .i64 lo, .int .i64 hi]] w fun e w' => e = .returned (.tuple #[.int .i64 m, .bool b]) ∧ w.grownBy w' none := by
  obtain ⟨rfl, rfl⟩ := h
  exact meanS_any s c u lo hi w

set_option maxHeartbeats 800000 in
theorem walkFnExactMeanOf (b : Bk) (W : World) (hb : inB b) : Calls Try.prog 10 #[.agg (bf b).toArray] W fun e w' => e = .returned (.bool true) ∧ Below W.heap.size W w' := by
  obtain ⟨s, c, u, lo, hi⟩ := b
  obtain ⟨m, v, hv⟩ : ∃ m v, meanL s c u lo hi = m ∧ okB 1 s c u lo hi = v := ⟨_, _, rfl, rfl⟩
  have HV := Lib.hid hv
  clear hv hb
  show Calls Try.prog 10 #[.agg #[.int .i64 s, .int .i64 c, .int .i64 u, .int .i64 lo, .int .i64 hi]] W _
  go_enter Try.func10, Try.ntmps10
  go_wp2_with fail
  refine (toBucket_any s c u lo hi _).mono ?_
  rintro e w1 ⟨rfl, g1⟩
  go_wp2_with fail
  refine (meanS_at s c u lo hi m v _ HV.out).mono ?_
  rintro e w2 ⟨rfl, g2⟩
  have r1 := ((Blk.new W 37 [.int .i64 s, .int .i64 c, .int .i64 u, .int .i64 lo, .int .i64 hi]).keptN g1).keptN g2
  have c0 := r1.cell 0
  have c1 := r1.cell 1
  have c2 := r1.cell 2
  have c3 := r1.cell 3
  have c4 := r1.cell 4
  simp at c0 c1 c2 c3 c4
  clear r1
  go_wp2_with fail
  refine (toBucket_any s c u lo hi _).mono ?_
  rintro e w3 ⟨rfl, g3⟩
  go_wp2_with fail
  refine (meanI_at s c u lo hi m v _ HV.out).mono ?_
  rintro e w4 ⟨rfl, g4⟩
  have G := g_trans (g_alloc W (.cells #[.int .i64 s, .int .i64 c, .int .i64 u, .int .i64 lo, .int .i64 hi] 37) none) (g_trans g1 (g_trans g2 (g_trans g3 g4)))
  clear g1 g2 g3 g4
  go_wp2
  go_ret
  exact ⟨rfl, g_below G (Nat.le_refl _) (by simp)⟩
set_option maxRecDepth 100000 in
set_option linter.unusedVariables false in
theorem liftedFnExactMeanOf (os : Os) (started : os.Started) (H : Type) (enc : TypeId × Value → H) :
    ReturnsInHanded {} Try.checked os 10 .any (Rows.fnExactMeanOfSpec.pre6 enc Try.prog Try.f10 Rows.fnExactMeanOfRow.domain false) (Rows.fnExactMeanOfSpec.post enc Try.prog Try.f10 false true false false) := by
  refine returnsInHanded_of_change (C := Try.checked) own started (by kernel_rfl) Try.func10
    (ChangeSpec.witness6 (enc := enc) (C := Try.checked) false ⟨#[], #[.agg #[.int .i64 0, .int .i64 0, .int .i64 0, .int .i64 0, .int .i64 0]], []⟩ 8 (by kernel_rfl) (by kernel_rfl) (by kernel_rfl) (by kernel_rfl)) ?_
  intro W base args ds gs before hval0 hW hcnd _
  have hval : ∀ (j : Nat) t v, Try.f10.params[j]? = some t → args[j]? = some v → Value.okWide Try.prog W .any base t v := hval0
  have hW' := hW
  obtain ⟨p, q, hA0, hV, rfl, hfz, hnd⟩ := hW
  have hA : DataW.TrodAll enc Try.prog W 0 (fun _ => true) true Try.f10.params.toList args.toList ds p := hA0
  rw [Try.params10] at hA hval
  obtain ⟨v0, vs0, d0, ds0, p0, q0, hargs, rfl, rfl, h0, r0⟩ := trodAll_cons hA
  obtain ⟨rfl, rfl, rfl⟩ := trodAll_nil r0
  obtain rfl : args = #[v0] := by cases args; simp_all
  obtain ⟨rfl, rfl⟩ := trodVars_none hV
  obtain ⟨z0, rfl, hz0⟩ := okWide_struct Try.underlying37 (hval 0 37 v0 rfl rfl)
  have k0 := h0
  have lt0 : ∀ x ∈ p0, x.block < W.heap.size := by obtain ⟨m, hm⟩ := k0; exact DataW.trod_lt m _ _ _ hm
  obtain ⟨b0, w0⟩ : ∃ b : Bk, z0 = (bf b).toArray ∧ inB b := by
    obtain ⟨fuel, hf⟩ := h0
    obtain ⟨ns, e1, e2, e3⟩ := trod_ints Try.underlying37 (by kernel_rfl) (by kernel_rfl) (all_int (by kernel_rfl)) hf
    refine ⟨mkB5 ns, ?_, (mkB5_ok ns e2 e3).2⟩
    rw [(mkB5_ok ns e2 e3).1, ← e1]; rfl
  obtain ⟨rfl, w0⟩ := w0
  clear hA0 hval0
  refine (walkFnExactMeanOf b0 W w0).mono fun e W' ⟨he, bel⟩ => ?_
  subst he
  exact ⟨_, rfl, _, _, _, [], _, [], hW', trodAll_mk1 (shut_bool Try.underlying4 _), (trodAll_cons_mk (Below.trod laidOut (by kernel_rfl) (of_decide_eq_true (by kernel_rfl)) k0 bel lt0) trodAll_mk0), rfl, bel.frame _, fun h => by cases h⟩

theorem closedFnExactMeanOf : joinedFacts Try.prog 10 Try.f10 Rows.fnExactMeanOfSpec Rows.fnExactMeanOfRow = true := by
  unfold joinedFacts
  refine and_yes (and_yes (and_yes (and_yes (and_yes (and_yes (and_yes ?_ mayIn) ?_) ?_) ?_) ?_) ?_) ?_
  rotate_left
  · rw [liftsIn]; kernel_rfl
  · rw [makeIn]; kernel_rfl
  · kernel_rfl
  · kernel_rfl
  · kernel_rfl
  · kernel_rfl
  · kernel_rfl

theorem overFnExactMeanOf : Rows.fnExactMeanOfRow.holds Try.pinned (OpenSpec.ofChange Rows.fnExactMeanOfSpec) :=
  OpenClaim.holds_of_wide 10 Try.f10 rfl rfl rfl rfl rfl rfl rfl ⟨rfl, rfl, rfl, rfl, rfl⟩ rfl rfl rfl rfl rfl (by kernel_rfl) Try.func10 closedFnExactMeanOf
    (of_decide_eq_true (by kernel_rfl)) (by unfold Func.isWrapper; first | (rw [if_pos (by decide +kernel)]; kernel_rfl) | (rw [if_neg (by decide +kernel)]; exact ⟨rfl, rfl⟩))
    (fun os started H enc _ => liftedFnExactMeanOf os started H enc)

/-- the statement -/
theorem provedFnExactMeanOf : Rows.FnExactMeanOfSaid := overFnExactMeanOf
#print axioms provedFnExactMeanOf
end Go.Proofs.Ytfjlcpdljibgaaa
