/- The law FnExactPutVar: for every input the law returns true, and nothing that was there has turned. -/
import Derived.Test.YtfjlcpdljibgaaaFrame
import Derived.Test.YtfjlcpdljibgaaaEq
import Derived.Test.YtfjlcpdljibgaaaMark
import Derived.Test.YtfjlcpdljibgaaaVar
namespace Go.Proofs.Ytfjlcpdljibgaaa
open Go.ChangeShapes Go.WideShapes Go.ChangeAt Go.RowKit

theorem row_ne {w w' : World} {base base' : Nat} {e e' : TypeId} {size size' n c n' c' : Nat} {A A' : Option Addr} {xs xs' : List Value}
    (h : w.ownsRow base e size (.slice A n c) n xs) (h' : w'.ownsRow base' e' size' (.slice A' n' c') n' xs') (hb : w.heap.size ≤ base') : 0 < n → ∀ a, A = some a → (Value.slice A' n' c').ownBlock ≠ some a.block := by
  intro _ a ha e
  have h1 := (own_block h a ha).2
  cases A' with
  | none => simp [Value.ownBlock] at e
  | some a' =>
    have h2 := (own_block h' a' rfl).1
    simp [Value.ownBlock] at e
    omega

set_option maxHeartbeats 800000 in
theorem walkFnExactPutVar (n : Int) (W : World) (_h : (Lit.int .i64 n).wf = true) : Calls Try.prog 7 #[.int .i64 n] W fun e w' => e = .returned (.bool true) ∧ Below W.heap.size W w' := by
  have hl := putV_len n
  have k1 := putVS_any n
  have k2 := putVI_any n
  generalize putV n = L at *
  have K1 := Lib.hid k1
  have K2 := Lib.hid k2
  clear k1 k2 _h
  go_enter Try.func7, Try.ntmps7
  go_wp2_with fail
  refine (K1.out _).mono ?_
  rintro e w1 ⟨A0, c0, rfl, o0, g0⟩
  go_wp2_with fail
  refine (K2.out _).mono ?_
  rintro e w2 ⟨A1, c1, rfl, o1, g1⟩
  go_wp2_with fail
  refine (eqByteS_same _ _ _ _ _ _ L _ (Rd.own o1) ((Rd.own o0).keptN g1)).mono ?_
  rintro e w3 ⟨rfl, g2⟩
  go_wp2_with fail
  refine (markByteS_any _ _ _ L 1 _ _ (own_keptN o1 g2) (by omega) (by omega) (by omega)).mono ?_
  rintro e w4 ⟨rfl, o1', g3⟩
  go_wp2_with fail
  refine (heldByteS_any _ _ _ 1 _ (Rd.own o1') (by omega) (by omega) (by omega)).mono ?_
  rintro e w5 ⟨rfl, g4⟩
  go_wp2_with fail
  refine (K2.out _).mono ?_
  rintro e w6 ⟨A2, c2, rfl, o2, g5⟩
  go_wp2_with fail
  refine (eqByteS_same _ _ _ _ _ _ L _ (Rd.own o2) (((((Rd.own o0).keptN g1).keptN g2).kept g3 (row_ne o0 o1' (Nat.le_refl _))).keptN (g_trans g4 g5))).mono ?_
  rintro e w7 ⟨rfl, g6⟩
  go_wp2_with fail
  refine (heldByteS_any _ _ _ 1 _ ((Rd.own o1').keptN (g_trans g4 (g_trans g5 g6))) (by omega) (by omega) (by omega)).mono ?_
  rintro e w8 ⟨rfl, g7⟩
  have hb := g_below (g_trans g0 (g_new (g_trans g1 g2) g3 (fun g e => (own_new o1' g e)))) (Nat.le_refl _) (by simp)
  have hb2 := hb.trans (g_below (g_trans (g_trans g4 (g_trans g5 g6)) g7) (by have := hb.size; omega) (by simp))
  clear o0 o1 o2 o1' g0 g1 g2 g3 g4 g5 g6 g7 hb
  go_wp2
  go_ret
  exact ⟨rfl, hb2⟩
set_option maxRecDepth 100000 in
set_option linter.unusedVariables false in
theorem liftedFnExactPutVar (os : Os) (started : os.Started) (H : Type) (enc : TypeId × Value → H) :
    ReturnsInHanded {} Try.checked os 7 .any (Rows.fnExactPutVarSpec.pre6 enc Try.prog Try.f7 Rows.fnExactPutVarRow.domain false) (Rows.fnExactPutVarSpec.post enc Try.prog Try.f7 false true false false) := by
  refine returnsInHanded_of_change (C := Try.checked) own started (by kernel_rfl) Try.func7
    (ChangeSpec.witness6 (enc := enc) (C := Try.checked) false ⟨#[], #[.int .i64 0], []⟩ 8 (by kernel_rfl) (by kernel_rfl) (by kernel_rfl) (by kernel_rfl)) ?_
  intro W base args ds gs before hval0 hW hcnd _
  have hval : ∀ (j : Nat) t v, Try.f7.params[j]? = some t → args[j]? = some v → Value.okWide Try.prog W .any base t v := hval0
  have hW' := hW
  obtain ⟨p, q, hA0, hV, rfl, hfz, hnd⟩ := hW
  have hA : DataW.TrodAll enc Try.prog W 0 (fun _ => true) true Try.f7.params.toList args.toList ds p := hA0
  rw [Try.params7] at hA hval
  obtain ⟨v0, vs0, d0, ds0, p0, q0, hargs, rfl, rfl, h0, r0⟩ := trodAll_cons hA
  obtain ⟨rfl, rfl, rfl⟩ := trodAll_nil r0
  obtain rfl : args = #[v0] := by cases args; simp_all
  obtain ⟨rfl, rfl⟩ := trodVars_none hV
  obtain ⟨a0, rfl, rfl, rfl, w0⟩ := open_int Try.underlying3 (hval 0 3 v0 rfl rfl) h0
  clear hA0 hval0
  refine (walkFnExactPutVar a0 W w0).mono fun e W' ⟨he, bel⟩ => ?_
  subst he
  exact ⟨_, rfl, _, _, _, [], _, [], hW', trodAll_mk1 (shut_bool Try.underlying4 _), (trodAll_cons_mk (shut_int Try.underlying3 w0) trodAll_mk0), rfl, bel.frame _, fun h => by cases h⟩

theorem closedFnExactPutVar : joinedFacts Try.prog 7 Try.f7 Rows.fnExactPutVarSpec Rows.fnExactPutVarRow = true := by
  unfold joinedFacts
  refine and_yes (and_yes (and_yes (and_yes (and_yes (and_yes (and_yes ?_ mayIn) ?_) ?_) ?_) ?_) ?_) ?_
  rotate_left
  · rw [liftsIn]; kernel_rfl
  · rw [makeIn]; kernel_rfl
  · kernel_rfl
  · kernel_rfl
  · kernel_rfl
  · kernel_rfl
  · kernel_rfl

theorem overFnExactPutVar : Rows.fnExactPutVarRow.holds Try.pinned (OpenSpec.ofChange Rows.fnExactPutVarSpec) :=
  OpenClaim.holds_of_wide 7 Try.f7 rfl rfl rfl rfl rfl rfl rfl ⟨rfl, rfl, rfl, rfl, rfl⟩ rfl rfl rfl rfl rfl (by kernel_rfl) Try.func7 closedFnExactPutVar
    (of_decide_eq_true (by kernel_rfl)) (by unfold Func.isWrapper; first | (rw [if_pos (by decide +kernel)]; kernel_rfl) | (rw [if_neg (by decide +kernel)]; exact ⟨rfl, rfl⟩))
    (fun os started H enc _ => liftedFnExactPutVar os started H enc)

/-- the statement -/
theorem provedFnExactPutVar : Rows.FnExactPutVarSaid := overFnExactPutVar
#print axioms provedFnExactPutVar
end Go.Proofs.Ytfjlcpdljibgaaa
