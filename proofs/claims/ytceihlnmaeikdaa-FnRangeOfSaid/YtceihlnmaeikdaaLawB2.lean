/- The law FnExactRangeOf: for every input the law returns true, and nothing that was there has turned. -/
import Derived.Test.YtceihlnmaeikdaaFrame2
import Derived.Test.YtceihlnmaeikdaaQst
import Derived.Test.YtceihlnmaeikdaaPMark
import Derived.Test.YtceihlnmaeikdaaLive
namespace Go.Proofs.Ytceihlnmaeikdaa
set_option linter.unusedVariables false
open Go.ChangeShapes Go.WideShapes Go.ChangeAt Go.RowKit

theorem rangeI_at (A : Option Addr) (n c : Nat) (l : List Pt) (f t : Int) (L : List Pt) (w : World) (h : Rd w 2 A n c (pc l)) (hv : rangeL l f t = L) :
    Calls Try.prog 27 #[.slice A n c, .int .i64 f, .int .i64 t] w fun e w' => ∃ A' c', e = .returned (.slice A' L.length c') ∧ w'.ownsRow w.heap.size 33 2 (.slice A' L.length c') L.length (pc L) ∧ w.grownBy w' none := by
  subst hv
  exact rangeI_any A n c l f t w h
theorem rangeS_at (A : Option Addr) (n c : Nat) (l : List Pt) (f t : Int) (L : List Pt) (w : World) (h : Rd w 2 A n c (pc l)) (hv : rangeL l f t = L) :
    Calls Try.prog 26 #[.slice A n c, .int .i64 f, .int .i64 t] w fun e w' => ∃ A' c', e = .returned (.slice A' L.length c') ∧ w'.ownsRow w.heap.size 33 2 (.slice A' L.length c') L.length (pc L) ∧ w.grownBy w' none := by
  subst hv
  exact rangeS_any A n c l f t w h

set_option maxHeartbeats 1600000 in
theorem walkFnExactRangeOf (A : Option Addr) (n c : Nat) (l : List Pt) (f t : Int) (W : World) (h : Rd W 2 A n c (pc l)) (hb : ∀ x ∈ l, inP x) (hf : (Lit.int .i64 f).wf = true) (ht : (Lit.int .i64 t).wf = true) : Calls Try.prog 10 #[.slice A n c, .int .i64 f, .int .i64 t] W fun e w' => e = .returned (.bool true) ∧ Below W.heap.size W w' := by
  have nb : n ≤ 9223372036854775807 := Nat.le_trans h.cap h.lim
  have H := Lib.hid h
  clear h hb
  have hL := (@range_ok l f t).1
  obtain ⟨L, hv⟩ : ∃ L, rangeL l f t = L := ⟨_, rfl⟩
  rw [hv] at hL
  have HV := Lib.hid hv
  clear hv hf ht
  go_enter Try.func10, Try.ntmps10
  go_wp2_with fail
  refine (szPointS_any A n c _ _ nb (by omega) (by omega)).mono ?_
  rintro e w0 ⟨rfl, rfl⟩
  by_cases hbig : (1048576 : Int) < (n : Int)
  · rw [if_pos hbig]
    go_wp2
    go_ret
    exact ⟨rfl, Below.refl _ _⟩
  rw [if_neg hbig]
  have hn : n ≤ 1048576 := by omega
  go_wp2_with fail
  refine (toPointS_any A n c l _ H.out (by omega)).mono ?_
  rintro e w1 ⟨A1, c1, rfl, o1, g1⟩
  have L1 := (Live.zero _).new o1 g1
  clear o1 g1
  go_wp2_with fail
  refine (rangeS_at _ _ _ l f t L _ (L1.rd 0 rfl) HV.out).mono ?_
  rintro e w2 ⟨Aw, cw, rfl, o1, g1⟩
  have L2 := L1.new o1 g1
  clear o1 g1 L1
  go_wp2_with fail
  refine (toPointS_any A n c l _ (H.out.keptN L2.grown) (by omega)).mono ?_
  rintro e w3 ⟨Ax, cx, rfl, o1, g1⟩
  have L3 := L2.new o1 g1
  clear o1 g1 L2
  go_wp2_with fail
  refine (rangeI_at _ _ _ l f t L _ (L3.rd 0 rfl) HV.out).mono ?_
  rintro e w4 ⟨Ag, cg, rfl, o1, g1⟩
  have L4 := L3.new o1 g1
  clear o1 g1 L3
  go_wp2_with fail
  refine (eqPointS_same _ _ _ _ _ _ L _ (L4.rd 0 rfl) (L4.rd 2 rfl)).mono ?_
  rintro e w5 ⟨rfl, g1⟩
  have L5 := L4.step g1
  clear g1 L4
  go_wp2_with fail
  refine (toPointS_any A n c l _ (H.out.keptN L5.grown) (by omega)).mono ?_
  rintro e w6 ⟨Ay, cy, rfl, o1, g1⟩
  have L6 := L5.new o1 g1
  clear o1 g1 L5
  go_wp2_with fail
  refine (eqPointS_same _ _ _ _ _ _ l _ (L6.rd 2 rfl) (L6.rd 0 rfl)).mono ?_
  rintro e w7 ⟨rfl, g1⟩
  have L7 := (L6.step g1).drop
  clear g1 L6
  go_wp2_with fail
  refine (markPointS_any _ _ _ l _ _ _ (L7.own 1 rfl) (by omega) (by omega) (by omega)).mono ?_
  rintro e w8 ⟨rfl, o1, g1⟩
  have L8 := L7.put 1 rfl o1 g1
  clear o1 g1 L7
  go_wp2_with fail
  refine (eqPointS_same _ _ _ _ _ _ L _ (L8.rd 0 rfl) (L8.rd 2 rfl)).mono ?_
  rintro e w9 ⟨rfl, g1⟩
  have L9 := L8.step g1
  clear g1 L8
  go_wp2_with fail
  refine (markPointS_any _ _ _ L _ _ _ (L9.own 0 rfl) (by omega) (by omega) (by omega)).mono ?_
  rintro e w10 ⟨rfl, o1, g1⟩
  have L10 := L9.put 0 rfl o1 g1
  clear o1 g1 L9
  go_wp2_with fail
  refine (heldPointS_any _ _ _ _ _ (L10.rd 0 rfl) (by omega) (by omega) (by omega)).mono ?_
  rintro e w11 ⟨rfl, g1⟩
  have L11 := L10.step g1
  clear g1 L10
  go_wp2_with fail
  refine (toPointS_any A n c l _ (H.out.keptN L11.grown) (by omega)).mono ?_
  rintro e w12 ⟨Az, cz, rfl, o1, g1⟩
  have L12 := L11.new o1 g1
  clear o1 g1 L11
  go_wp2_with fail
  refine (rangeI_at _ _ _ l f t L _ (L12.rd 0 rfl) HV.out).mono ?_
  rintro e w13 ⟨Ah, ch, rfl, o1, g1⟩
  have L13 := L12.new o1 g1
  clear o1 g1 L12
  go_wp2_with fail
  refine (eqPointS_same _ _ _ _ _ _ L _ (L13.rd 0 rfl) (L13.rd 4 rfl)).mono ?_
  rintro e w14 ⟨rfl, g1⟩
  have L14 := L13.step g1
  clear g1 L13
  go_wp2_with fail
  refine (heldPointS_any _ _ _ _ _ (L14.rd 2 rfl) (by omega) (by omega) (by omega)).mono ?_
  rintro e w15 ⟨rfl, g1⟩
  have hbel := (L14.step g1).bel
  clear g1 L14
  go_wp2
  go_ret
  exact ⟨rfl, hbel⟩
set_option maxRecDepth 100000 in
set_option linter.unusedVariables false in
theorem liftedFnExactRangeOf (os : Os) (started : os.Started) (H : Type) (enc : TypeId × Value → H) :
    ReturnsInHanded {} Try.checked os 10 .any (Rows.fnExactRangeOfSpec.pre6 enc Try.prog Try.f10 Rows.fnExactRangeOfRow.domain false) (Rows.fnExactRangeOfSpec.post enc Try.prog Try.f10 false true false false) := by
  refine returnsInHanded_of_change (C := Try.checked) own started (by kernel_rfl) Try.func10
    (ChangeSpec.witness6 (enc := enc) (C := Try.checked) false ⟨#[], #[.slice none 0 0, .int .i64 0, .int .i64 0], []⟩ 8 (by kernel_rfl) (by kernel_rfl) (by kernel_rfl) (by kernel_rfl)) ?_
  intro W base args ds gs before hval0 hW hcnd _
  have hval : ∀ (j : Nat) t v, Try.f10.params[j]? = some t → args[j]? = some v → Value.okWide Try.prog W .any base t v := hval0
  have hW' := hW
  obtain ⟨p, q, hA0, hV, rfl, hfz, hnd⟩ := hW
  have hA : DataW.TrodAll enc Try.prog W 0 (fun _ => true) true Try.f10.params.toList args.toList ds p := hA0
  rw [Try.params10] at hA hval
  obtain ⟨v0, vs0, d0, ds0, p0, q0, hargs, rfl, rfl, h0, r0⟩ := trodAll_cons hA
  obtain ⟨v1, vs1, d1, ds1, p1, q1, rfl, rfl, rfl, h1, r1⟩ := trodAll_cons r0
  obtain ⟨v2, vs2, d2, ds2, p2, q2, rfl, rfl, rfl, h2, r2⟩ := trodAll_cons r1
  obtain ⟨rfl, rfl, rfl⟩ := trodAll_nil r2
  obtain rfl : args = #[v0, v1, v2] := by cases args; simp_all
  obtain ⟨rfl, rfl⟩ := trodVars_none hV
  obtain ⟨a0, len0, cap0, rfl⟩ := okWide_slice Try.underlying22 (hval 0 22 v0 rfl rfl)
  have k0 := h0
  have lt0 : ∀ x ∈ p0, x.block < W.heap.size := by obtain ⟨m, hm⟩ := k0; exact DataW.trod_lt m _ _ _ hm
  obtain ⟨z0, w0, b0⟩ : ∃ l : List Pt, Rd W 2 a0 len0 cap0 (l.flatMap pf) ∧ ∀ x ∈ l, inP x := by
    obtain ⟨fuel, hf⟩ := h0
    exact rd_structs pf mkP inP (fun _ => rfl) rfl mkP_ok (by omega) Try.underlying22 Try.underlying46 (by kernel_rfl) (by kernel_rfl) (all_int (by kernel_rfl)) (by simpa [Value.cells] using hf)
  obtain ⟨a1, rfl, rfl, rfl, w1⟩ := open_int Try.underlying3 (hval 1 3 v1 rfl rfl) h1
  obtain ⟨a2, rfl, rfl, rfl, w2⟩ := open_int Try.underlying3 (hval 2 3 v2 rfl rfl) h2
  clear hA0 hval0
  refine (walkFnExactRangeOf a0 len0 cap0 z0 a1 a2 W w0 b0 w1 w2).mono fun e W' ⟨he, bel⟩ => ?_
  subst he
  exact ⟨_, rfl, _, _, _, [], _, [], hW', trodAll_mk1 (shut_bool Try.underlying4 _), (trodAll_cons_mk (Below.trod laidOut (by kernel_rfl) (of_decide_eq_true (by kernel_rfl)) k0 bel lt0) (trodAll_cons_mk (shut_int Try.underlying3 w1) (trodAll_cons_mk (shut_int Try.underlying3 w2) trodAll_mk0))), rfl, bel.frame _, fun h => by cases h⟩

theorem closedFnExactRangeOf : joinedFacts Try.prog 10 Try.f10 Rows.fnExactRangeOfSpec Rows.fnExactRangeOfRow = true := by
  unfold joinedFacts
  refine and_yes (and_yes (and_yes (and_yes (and_yes (and_yes (and_yes ?_ mayIn) ?_) ?_) ?_) ?_) ?_) ?_
  rotate_left
  · rw [liftsIn]; kernel_rfl
  · rw [makeIn]; kernel_rfl
  · kernel_rfl
  · kernel_rfl
  · kernel_rfl
  · kernel_rfl
  · kernel_rfl

theorem overFnExactRangeOf : Rows.fnExactRangeOfRow.holds Try.pinned (OpenSpec.ofChange Rows.fnExactRangeOfSpec) :=
  OpenClaim.holds_of_wide 10 Try.f10 rfl rfl rfl rfl rfl rfl rfl ⟨rfl, rfl, rfl, rfl, rfl⟩ rfl rfl rfl rfl rfl (by kernel_rfl) Try.func10 closedFnExactRangeOf
    (of_decide_eq_true (by kernel_rfl)) (by unfold Func.isWrapper; first | (rw [if_pos (by decide +kernel)]; kernel_rfl) | (rw [if_neg (by decide +kernel)]; exact ⟨rfl, rfl⟩))
    (fun os started H enc _ => liftedFnExactRangeOf os started H enc)

/-- the statement -/
theorem provedFnExactRangeOf : Rows.FnExactRangeOfSaid := overFnExactRangeOf
#print axioms provedFnExactRangeOf
end Go.Proofs.Ytceihlnmaeikdaa
