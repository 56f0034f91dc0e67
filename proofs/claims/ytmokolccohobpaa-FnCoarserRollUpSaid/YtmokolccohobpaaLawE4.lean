/- The law FnCoarserRollUp: for every input the law returns true, and nothing that was there has turned. -/
import Derived.Test.YtmokolccohobpaaFrame2
import Derived.Test.YtmokolccohobpaaBEq
import Derived.Test.YtmokolccohobpaaAt
import Derived.Test.YtmokolccohobpaaPts
import Derived.Test.YtmokolccohobpaaPlainE2
import Derived.Test.YtmokolccohobpaaDrawB2
import Derived.Test.YtmokolccohobpaaLive
namespace Go.Proofs.Ytmokolccohobpaa
set_option linter.unusedVariables false
open Go.ChangeShapes Go.WideShapes Go.ChangeAt Go.RowKit

theorem validPI_at (A : Option Addr) (n c : Nat) (l : List Pt) (b : Bool) (w : World) (h : Rd w 2 A n c (pc l)) (hb : validL l = b) :
    Calls Try.prog 28 #[.slice A n c] w fun e w' => e = .returned (.bool b) ∧ w.grownBy w' none := by
  subst hb
  exact validI_any A n c l w h
set_option maxHeartbeats 1600000 in
theorem walkFnCoarserRollUp (A : Option Addr) (n c : Nat) (l : List Int) (W : World) (h : Rd W 1 A n c (bc l)) (hb : By l) : Calls Try.prog 13 #[.slice A n c] W fun e w' => e = .returned (.bool true) ∧ Below W.heap.size W w' := by
  by_cases hbig : (1048576 : Int) < (n : Int)
  · clear h hb
    go_enter Try.func13, Try.ntmps13
    go_wp2
    go_ret
    exact ⟨rfl, Below.refl _ _⟩
  go_enter Try.func13, Try.ntmps13
  go_wp2_with fail
  refine (drawRU_any A n c l _ h hb (by omega)).mono ?_
  rintro e w1 ⟨A1, c1, L, x, rfl, hx, o1, -, g1⟩
  obtain ⟨x0, x1⟩ := hx
  have RA := Lib.hid (Rd.own o1)
  have L1 := (Live.zero W).step g1
  obtain ⟨M, hv⟩ : ∃ M, rollV x L = M := ⟨_, rfl⟩
  obtain ⟨v, hw⟩ : ∃ v, validL L = v := ⟨_, rfl⟩
  have HV := Lib.hid hv
  have HW := Lib.hid hw
  clear hv hw h hb o1 g1
  go_wp2_with fail
  refine (rollI_at _ _ _ L x M _ RA.out HV.out).mono ?_
  rintro e w2 ⟨A2, c2, rfl, o1, g1⟩
  have L2 := L1.new o1 g1
  have q2 := g1
  clear L1 o1 g1
  go_wp2_with fail
  refine (rollS_at _ _ _ L x M _ (RA.out.keptN q2) HV.out).mono ?_
  rintro e w3 ⟨A3, c3, rfl, o1, g1⟩
  have L3 := L2.new o1 g1
  have q3 := g_trans q2 g1
  clear L2 o1 g1 q2
  go_wp2_with fail
  refine (equalBuckets_same _ _ _ _ _ _ M _ (L3.rd 1 rfl) (L3.rd 0 rfl)).mono ?_
  rintro e w4 ⟨rfl, g1⟩
  have L4 := (L3.step g1).drop
  have q4 := g_trans q3 g1
  clear L3 g1 q3
  go_wp2_with fail
  refine (validPI_at _ _ _ L v _ (RA.out.keptN q4) HW.out).mono ?_
  rintro e w5 ⟨rfl, g1⟩
  have L5 := L4.step g1
  have q5 := g_trans q4 g1
  clear L4 g1 q4
  obtain ⟨bad, hbad⟩ : ∃ bad : Bool, (v && decide (1 ≤ x) && decide (3 * x ≤ 100)) = !bad := ⟨!(v && decide (1 ≤ x) && decide (3 * x ≤ 100)), by simp⟩
  cases hb2 : bad with
  | true =>
    subst hb2
    simp only [Bool.not_true] at hbad
    have again : v = false ∨ (v = true ∧ x < 1) ∨ (v = true ∧ ¬ x < 1 ∧ 100 < 3 * x) := by
      cases v with
      | false => exact .inl rfl
      | true =>
        right
        by_cases h1 : x < 1
        · exact .inl ⟨rfl, h1⟩
        · refine .inr ⟨rfl, h1, ?_⟩
          simp at hbad
          omega
    clear hbad
    rcases again with rfl | ⟨rfl, h1⟩ | ⟨rfl, h1, h2⟩
    · go_wp2_with fail
      refine (rollS_at _ _ _ L x M _ (RA.out.keptN q5) HV.out).mono ?_
      rintro e w6 ⟨A6, c6, rfl, o1, g1⟩
      have L6 := L5.new o1 g1
      clear L5 o1 g1
      go_wp2_with fail
      refine (equalBuckets_same _ _ _ _ _ _ M _ (L6.rd 1 rfl) (L6.rd 0 rfl)).mono ?_
      rintro e w7 ⟨rfl, g1⟩
      have L7 := L6.step g1
      clear L6 g1
      go_wp2
      go_ret
      exact ⟨rfl, L7.bel⟩
    · go_wp2_with fail
      refine (rollS_at _ _ _ L x M _ (RA.out.keptN q5) HV.out).mono ?_
      rintro e w6 ⟨A6, c6, rfl, o1, g1⟩
      have L6 := L5.new o1 g1
      clear L5 o1 g1
      go_wp2_with fail
      refine (equalBuckets_same _ _ _ _ _ _ M _ (L6.rd 1 rfl) (L6.rd 0 rfl)).mono ?_
      rintro e w7 ⟨rfl, g1⟩
      have L7 := L6.step g1
      clear L6 g1
      go_wp2
      go_ret
      exact ⟨rfl, L7.bel⟩
    · go_wp2_with fail
      refine (rollS_at _ _ _ L x M _ (RA.out.keptN q5) HV.out).mono ?_
      rintro e w6 ⟨A6, c6, rfl, o1, g1⟩
      have L6 := L5.new o1 g1
      clear L5 o1 g1
      go_wp2_with fail
      refine (equalBuckets_same _ _ _ _ _ _ M _ (L6.rd 1 rfl) (L6.rd 0 rfl)).mono ?_
      rintro e w7 ⟨rfl, g1⟩
      have L7 := L6.step g1
      clear L6 g1
      go_wp2
      go_ret
      exact ⟨rfl, L7.bel⟩
  | false =>
    subst hb2
    simp only [Bool.not_false, Bool.and_eq_true, decide_eq_true_eq] at hbad
    obtain ⟨⟨rfl, y0⟩, y1⟩ := hbad
    have hM : M = rollG x L := by rw [← HV.out]; exact rollV_yes ⟨by omega, HW.out⟩
    have h3 : x * 3 = 3 * x := Int.mul_comm _ _
    have HC := Lib.hid (show coarV x 3 M = (rollG (x * 3) L, true) by rw [hM]; exact coar_roll y0 (by omega) (by omega) (by omega) HW.out)
    obtain ⟨N, hN⟩ : ∃ N, rollG (x * 3) L = N := ⟨_, rfl⟩
    rw [hN] at HC
    have HR := Lib.hid (show rollV (3 * x) L = N by rw [← hN, h3]; exact rollV_yes ⟨by omega, HW.out⟩)
    clear hM hN h3
    go_wp2_with fail
    refine (coarI_at _ _ _ M x 3 N true _ (L5.rd 0 rfl) HC.out).mono ?_
    rintro e w6 ⟨A6, c6, rfl, o1, g1⟩
    have L6 := L5.new o1 g1
    have q6 := g_trans q5 g1
    clear L5 o1 g1 q5
    go_wp2_with fail
    refine (rollI_at _ _ _ L (3 * x) N _ (RA.out.keptN q6) HR.out).mono ?_
    rintro e w7 ⟨A7, c7, rfl, o1, g1⟩
    have L7 := L6.new o1 g1
    clear L6 o1 g1 q6
    go_wp2_with fail
    refine (equalBuckets_same _ _ _ _ _ _ N _ (L7.rd 1 rfl) (L7.rd 0 rfl)).mono ?_
    rintro e w8 ⟨rfl, g1⟩
    have L8 := L7.step g1
    clear L7 g1
    go_wp2
    go_ret
    exact ⟨ret_b (by simp), L8.bel⟩
set_option maxRecDepth 100000 in
set_option linter.unusedVariables false in
theorem liftedFnCoarserRollUp (os : Os) (started : os.Started) (H : Type) (enc : TypeId × Value → H) :
    ReturnsInHanded {} Try.checked os 13 .any (Rows.fnCoarserRollUpSpec.pre6 enc Try.prog Try.f13 Rows.fnCoarserRollUpRow.domain false) (Rows.fnCoarserRollUpSpec.post enc Try.prog Try.f13 false true false false) := by
  refine returnsInHanded_of_change (C := Try.checked) own started (by kernel_rfl) Try.func13
    (ChangeSpec.witness6 (enc := enc) (C := Try.checked) false ⟨#[], #[.slice none 0 0], []⟩ 8 (by kernel_rfl) (by kernel_rfl) (by kernel_rfl) (by kernel_rfl)) ?_
  intro W base args ds gs before hval0 hW hcnd _
  have hval : ∀ (j : Nat) t v, Try.f13.params[j]? = some t → args[j]? = some v → Value.okWide Try.prog W .any base t v := hval0
  have hW' := hW
  obtain ⟨p, q, hA0, hV, rfl, hfz, hnd⟩ := hW
  have hA : DataW.TrodAll enc Try.prog W 0 (fun _ => true) true Try.f13.params.toList args.toList ds p := hA0
  rw [Try.params13] at hA hval
  obtain ⟨v0, vs0, d0, ds0, p0, q0, hargs, rfl, rfl, h0, r0⟩ := trodAll_cons hA
  obtain ⟨rfl, rfl, rfl⟩ := trodAll_nil r0
  obtain rfl : args = #[v0] := by cases args; simp_all
  obtain ⟨rfl, rfl⟩ := trodVars_none hV
  obtain ⟨a0, len0, cap0, rfl⟩ := okWide_slice Try.underlying29 (hval 0 29 v0 rfl rfl)
  have k0 := h0
  have lt0 : ∀ x ∈ p0, x.block < W.heap.size := by obtain ⟨m, hm⟩ := k0; exact DataW.trod_lt m _ _ _ hm
  obtain ⟨z0, w0, b0⟩ : ∃ zs : List Int, Rd W 1 a0 len0 cap0 (zs.map (Value.int .u8)) ∧ By zs := by
    obtain ⟨fuel, hf⟩ := h0
    rcases open_ints Try.underlying29 Try.underlying5 (by kernel_rfl) hf with ⟨hcs, _⟩ | ⟨x, l, c, zs, hcs, _, hl, hm, hz, _, hcell, hwz⟩
    · simp [Value.cells] at hcs
      obtain ⟨rfl, rfl, rfl⟩ := hcs
      exact ⟨[], Rd.nil_ _ _, by intro x hx; cases hx⟩
    · simp [Value.cells] at hcs
      obtain ⟨rfl, rfl, rfl⟩ := hcs
      exact ⟨_, rd_of_ints hl hm (by simpa using hz) hcell, by_of_wf hwz⟩
  clear hA0 hval0
  refine (walkFnCoarserRollUp a0 len0 cap0 z0 W w0 b0).mono fun e W' ⟨he, bel⟩ => ?_
  subst he
  exact ⟨_, rfl, _, _, _, [], _, [], hW', trodAll_mk1 (shut_bool Try.underlying4 _), (trodAll_cons_mk (Below.trod laidOut (by kernel_rfl) (of_decide_eq_true (by kernel_rfl)) k0 bel lt0) trodAll_mk0), rfl, bel.frame _, fun h => by cases h⟩

theorem closedFnCoarserRollUp : joinedFacts Try.prog 13 Try.f13 Rows.fnCoarserRollUpSpec Rows.fnCoarserRollUpRow = true := by
  unfold joinedFacts
  refine and_yes (and_yes (and_yes (and_yes (and_yes (and_yes (and_yes ?_ mayIn) ?_) ?_) ?_) ?_) ?_) ?_
  rotate_left
  · rw [liftsIn]; kernel_rfl
  · rw [makeIn]; kernel_rfl
  · kernel_rfl
  · kernel_rfl
  · kernel_rfl
  · kernel_rfl
  · kernel_rfl

theorem overFnCoarserRollUp : Rows.fnCoarserRollUpRow.holds Try.pinned (OpenSpec.ofChange Rows.fnCoarserRollUpSpec) :=
  OpenClaim.holds_of_wide 13 Try.f13 rfl rfl rfl rfl rfl rfl rfl ⟨rfl, rfl, rfl, rfl, rfl⟩ rfl rfl rfl rfl rfl (by kernel_rfl) Try.func13 closedFnCoarserRollUp
    (of_decide_eq_true (by kernel_rfl)) (by unfold Func.isWrapper; first | (rw [if_pos (by decide +kernel)]; kernel_rfl) | (rw [if_neg (by decide +kernel)]; exact ⟨rfl, rfl⟩))
    (fun os started H enc _ => liftedFnCoarserRollUp os started H enc)

/-- the statement -/
theorem provedFnCoarserRollUp : Rows.FnCoarserRollUpSaid := overFnCoarserRollUp
#print axioms provedFnCoarserRollUp
end Go.Proofs.Ytmokolccohobpaa
