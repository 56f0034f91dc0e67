/- The law FnRollUpMean: for every input the law returns true, and nothing that was there has turned. -/
import Derived.Test.YtmokolccohobpaaFrame2
import Derived.Test.YtmokolccohobpaaBEq
import Derived.Test.YtmokolccohobpaaAt
import Derived.Test.YtmokolccohobpaaPlainE3
import Derived.Test.YtmokolccohobpaaDrawB2
import Derived.Test.YtmokolccohobpaaLive
namespace Go.Proofs.Ytmokolccohobpaa
set_option linter.unusedVariables false
open Go.ChangeShapes Go.WideShapes Go.ChangeAt Go.RowKit

theorem meanI_at (s c u lo hi m : Int) (b : Bool) (w : World) (h : meanL s c u lo hi = m ∧ okB 1 s c u lo hi = b) :
    Calls Try.prog 32 #[.agg #[.int .i64 s, .int .i64 c, .int .i64 u, .int .i64 lo, .int .i64 hi]] w fun e w' => e = .returned (.tuple #[.int .i64 m, .bool b]) ∧ w.grownBy w' none := by
  obtain ⟨rfl, rfl⟩ := h
  exact meanI_any s c u lo hi w
set_option maxHeartbeats 3200000 in
theorem walkFnRollUpMean (A : Option Addr) (n c : Nat) (l : List Int) (W : World) (h : Rd W 1 A n c (bc l)) (hb : By l) : Calls Try.prog 8 #[.slice A n c] W fun e w' => e = .returned (.bool true) ∧ Below W.heap.size W w' := by
  by_cases hbig : (1048576 : Int) < (n : Int)
  · clear h hb
    go_enter Try.func8, Try.ntmps8
    go_wp2
    go_ret
    exact ⟨rfl, Below.refl _ _⟩
  go_enter Try.func8, Try.ntmps8
  go_wp2_with fail
  refine (drawRU_any A n c l _ h hb (by omega)).mono ?_
  rintro e w1 ⟨A1, c1, L, x, rfl, hx, o1, -, g1⟩
  have RA := Lib.hid (Rd.own o1)
  have L1 := (Live.zero W).step g1
  have hMl := rollV_small (W := x) (l := L)
  have hMo : Hid (∀ s c u lo hi : Int, (s, c, u, lo, hi) ∈ rollV x L → okB 1 s c u lo hi = true) := fun s c u lo hi hm => rollV_ok1 hm
  obtain ⟨M, hv⟩ : ∃ M, rollV x L = M := ⟨_, rfl⟩
  rw [hv] at hMl hMo
  have HV := Lib.hid hv
  clear hv h hb o1 g1 hx
  go_wp2_with fail
  refine (rollI_at _ _ _ L x M _ RA.out HV.out).mono ?_
  rintro e w2 ⟨A2, c2, rfl, o1, g1⟩
  have L2 := L1.new o1 g1
  have q2 := g1
  clear L1 o1 g1
  go_wp2_with fail
  refine (rollS_at _ _ _ L x M _ (RA.out.keptN q2) HV.out).mono ?_
  rintro e w3 ⟨A3, c3, rfl, o1, g1⟩
  have L3 := L2.new o1 g1
  clear L2 o1 g1 q2
  go_wp2_with fail
  refine (equalBuckets_same _ _ _ _ _ _ M _ (L3.rd 1 rfl) (L3.rd 0 rfl)).mono ?_
  rintro e w4 ⟨rfl, g1⟩
  have L4 := (L3.step g1).drop
  have RM := Lib.hid (show Rd w4 5 A2 M.length c2 (bkc M) from L4.rd 0 rfl)
  have G4 := Lib.hid L4.grown
  clear L3 L4 g1
  go_wp2
  go_loopw [6] (fun i wr => ∃ k : Nat, k ≤ M.length ∧ i = .int .i64 k ∧ w4.grownBy wr none) (fun i _ => M.length - (intOf i).toNat)
  case atStart => exact ⟨0, Nat.zero_le _, rfl, g_refl _ _⟩
  case round =>
    obtain ⟨k, hk, rfl, hg⟩ := hrel
    by_cases hlt : k < M.length
    · obtain ⟨⟨s, ct, u, lo, hi⟩, hx, hdx⟩ := get_ex (l := M) (i := k) hlt
      obtain ⟨m, hm⟩ : ∃ m, meanL s ct u lo hi = m := ⟨_, rfl⟩
      have hok := hMo.out s ct u lo hi (List.mem_of_getElem? hx)
      have hmb := mean_between hok hm
      have HM := Lib.hid (And.intro hm hok)
      obtain ⟨b1, o1, rfl, hc1⟩ := (RM.out.keptN hg).cells hlt
      obtain ⟨x0, x1, x2, x3, x4⟩ := bkc_at hx
      have d0 := hc1 _ _ x0
      have d1 := hc1 _ _ x1
      have d2 := hc1 _ _ x2
      have d3 := hc1 _ _ x3
      have d4 := hc1 _ _ x4
      simp only [Nat.add_zero, ← Nat.add_assoc] at d0 d1 d2 d3 d4
      have hlt' : (k : Int) < (M.length : Int) := by omega
      have e1 : decide (m < lo) = false := by simp; omega
      have e2 : decide (hi < m) = false := by simp; omega
      clear hx hdx hc1 x0 x1 x2 x3 x4 hm hok hmb
      go_wp2_with fail
      refine (meanI_at s ct u lo hi m true _ HM.out).mono ?_
      rintro e w6 ⟨rfl, g6⟩
      have G6 := g_trans hg g6
      have f3 := g6.cell d3 (by simp)
      have f4 := g6.cell d4 (by simp)
      clear d0 d1 d2 d3 d4 hg g6
      go_wp2
      go_roundw
      case rel => exact ⟨k + 1, by omega, by go_num, G6⟩
      case measure => simp [intOf]; omega
    · have hge : ¬ (k : Int) < (M.length : Int) := by omega
      have hbel := g_below (g_trans G4.out hg) (Nat.le_refl _) (by simp)
      go_wp2
      go_ret
      exact ⟨rfl, hbel⟩
set_option maxRecDepth 100000 in
set_option linter.unusedVariables false in
theorem liftedFnRollUpMean (os : Os) (started : os.Started) (H : Type) (enc : TypeId × Value → H) :
    ReturnsInHanded {} Try.checked os 8 .any (Rows.fnRollUpMeanSpec.pre6 enc Try.prog Try.f8 Rows.fnRollUpMeanRow.domain false) (Rows.fnRollUpMeanSpec.post enc Try.prog Try.f8 false true false false) := by
  refine returnsInHanded_of_change (C := Try.checked) own started (by kernel_rfl) Try.func8
    (ChangeSpec.witness6 (enc := enc) (C := Try.checked) false ⟨#[], #[.slice none 0 0], []⟩ 8 (by kernel_rfl) (by kernel_rfl) (by kernel_rfl) (by kernel_rfl)) ?_
  intro W base args ds gs before hval0 hW hcnd _
  have hval : ∀ (j : Nat) t v, Try.f8.params[j]? = some t → args[j]? = some v → Value.okWide Try.prog W .any base t v := hval0
  have hW' := hW
  obtain ⟨p, q, hA0, hV, rfl, hfz, hnd⟩ := hW
  have hA : DataW.TrodAll enc Try.prog W 0 (fun _ => true) true Try.f8.params.toList args.toList ds p := hA0
  rw [Try.params8] at hA hval
  obtain ⟨v0, vs0, d0, ds0, p0, q0, hargs, rfl, rfl, h0, r0⟩ := trodAll_cons hA
  obtain ⟨rfl, rfl, rfl⟩ := trodAll_nil r0
  obtain rfl : args = #[v0] := by cases args; simp_all
  obtain ⟨rfl, rfl⟩ := trodVars_none hV
  obtain ⟨a0, len0, cap0, rfl⟩ := okWide_slice Try.underlying29 (hval 0 29 v0 rfl rfl)
  have k0 := h0
  have lt0 : ∀ x ∈ p0, x.block < W.heap.size := by obtain ⟨m, hm⟩ := k0; exact DataW.trod_lt m _ _ _ hm
  obtain ⟨z0, w0, b0⟩ : ∃ zs : List Int, Rd W 1 a0 len0 cap0 (zs.map (Value.int .u8)) ∧ By zs := by
    obtain ⟨fuel, hf⟩ := h0
    rcases open_ints Try.underlying29 Try.underlying5 (by kernel_rfl) hf with ⟨hcs, _⟩ | ⟨x, l, c, zs, hcs, _, hl, hm, hz, _, hcell, hwz⟩
    · simp [Value.cells] at hcs
      obtain ⟨rfl, rfl, rfl⟩ := hcs
      exact ⟨[], Rd.nil_ _ _, by intro x hx; cases hx⟩
    · simp [Value.cells] at hcs
      obtain ⟨rfl, rfl, rfl⟩ := hcs
      exact ⟨_, rd_of_ints hl hm (by simpa using hz) hcell, by_of_wf hwz⟩
  clear hA0 hval0
  refine (walkFnRollUpMean a0 len0 cap0 z0 W w0 b0).mono fun e W' ⟨he, bel⟩ => ?_
  subst he
  exact ⟨_, rfl, _, _, _, [], _, [], hW', trodAll_mk1 (shut_bool Try.underlying4 _), (trodAll_cons_mk (Below.trod laidOut (by kernel_rfl) (of_decide_eq_true (by kernel_rfl)) k0 bel lt0) trodAll_mk0), rfl, bel.frame _, fun h => by cases h⟩

theorem closedFnRollUpMean : joinedFacts Try.prog 8 Try.f8 Rows.fnRollUpMeanSpec Rows.fnRollUpMeanRow = true := by
  unfold joinedFacts
  refine and_yes (and_yes (and_yes (and_yes (and_yes (and_yes (and_yes ?_ mayIn) ?_) ?_) ?_) ?_) ?_) ?_
  rotate_left
  · rw [liftsIn]; kernel_rfl
  · rw [makeIn]; kernel_rfl
  · kernel_rfl
  · kernel_rfl
  · kernel_rfl
  · kernel_rfl
  · kernel_rfl

theorem overFnRollUpMean : Rows.fnRollUpMeanRow.holds Try.pinned (OpenSpec.ofChange Rows.fnRollUpMeanSpec) :=
  OpenClaim.holds_of_wide 8 Try.f8 rfl rfl rfl rfl rfl rfl rfl ⟨rfl, rfl, rfl, rfl, rfl⟩ rfl rfl rfl rfl rfl (by kernel_rfl) Try.func8 closedFnRollUpMean
    (of_decide_eq_true (by kernel_rfl)) (by unfold Func.isWrapper; first | (rw [if_pos (by decide +kernel)]; kernel_rfl) | (rw [if_neg (by decide +kernel)]; exact ⟨rfl, rfl⟩))
    (fun os started H enc _ => liftedFnRollUpMean os started H enc)

/-- the statement -/
theorem provedFnRollUpMean : Rows.FnRollUpMeanSaid := overFnRollUpMean
#print axioms provedFnRollUpMean
end Go.Proofs.Ytmokolccohobpaa
