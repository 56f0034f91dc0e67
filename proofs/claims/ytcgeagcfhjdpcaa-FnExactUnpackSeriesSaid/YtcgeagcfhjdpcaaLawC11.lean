/- The law FnExactUnpackSeries: for every input the law returns true, and nothing that was there has turned. -/
import Derived.Test.YtcgeagcfhjdpcaaFrame2
import Derived.Test.YtcgeagcfhjdpcaaUnp
import Derived.Test.YtcgeagcfhjdpcaaUnpS
import Derived.Test.YtcgeagcfhjdpcaaPMark
import Derived.Test.YtcgeagcfhjdpcaaMark
import Derived.Test.YtcgeagcfhjdpcaaEq
import Derived.Test.YtcgeagcfhjdpcaaLive
import Derived.Test.YtcgeagcfhjdpcaaQuiet
namespace Go.Proofs.Ytcgeagcfhjdpcaa
set_option linter.unusedVariables false
open Go.ChangeShapes Go.WideShapes Go.ChangeAt Go.RowKit

theorem unpV_len {l : List Int} {L : List Pt} {ok : Bool} (hb : By l) (h : unpV l = (L, ok)) : L.length ≤ 16 := by
  cases hu : unpO l with
  | none => rw [unpV_none hu] at h; injection h with h _; rw [← h]; simp
  | some M =>
    rw [unpV_some hu] at h
    injection h with h _
    rw [← h]
    exact ((validL_iff M).1 (pack_unp hb hu).1).1
set_option maxHeartbeats 3200000 in
theorem walkFnExactUnpackSeries (A : Option Addr) (n c : Nat) (l : List Int) (W : World) (h : Rd W 1 A n c (bc l)) (hb : By l) : Calls Try.prog 15 #[.slice A n c] W fun e w' => e = .returned (.bool true) ∧ Below W.heap.size W w' := by
  by_cases hbig : (1048576 : Int) < (n : Int)
  · clear h hb
    go_enter Try.func15, Try.ntmps15
    go_wp2
    go_ret
    exact ⟨rfl, Below.refl _ _⟩
  have hn : n ≤ 1048576 := by omega
  have H := Lib.hid h
  have HB := Lib.hid hb
  obtain ⟨L, b, hv⟩ : ∃ L b, unpV l = (L, b) := ⟨_, _, rfl⟩
  have hL16 := unpV_len hb hv
  have HV := Lib.hid hv
  clear h hb hv
  go_enter Try.func15, Try.ntmps15
  go_wp2_with fail
  refine (toByteS_any A n c l _ H.out (by omega)).mono ?_
  rintro e w1 ⟨A1, c1, rfl, o1, g1⟩
  have L1 := (Live.zero _).new o1 g1
  clear o1 g1
  go_wp2_with fail
  refine (unpS_at _ _ _ l L b _ (L1.rd 0 rfl) HB.out HV.out).mono ?_
  rintro e w2 ⟨Aw, cw, rfl, o1, g1⟩
  have L2 := L1.new o1 g1
  clear o1 g1 L1
  go_wp2_with fail
  refine (toByteS_any A n c l _ (H.out.keptN L2.grown) (by omega)).mono ?_
  rintro e w3 ⟨Ax, cx, rfl, o1, g1⟩
  have L3 := L2.new o1 g1
  clear o1 g1 L2
  go_wp2_with fail
  refine (unpI_at _ _ _ l L b _ (L3.rd 0 rfl) HB.out HV.out).mono ?_
  rintro e w4 ⟨Ag, cg, rfl, o1, g1⟩
  have L4 := L3.new o1 g1
  clear o1 g1 L3
  go_wp2_with fail
  refine (eqPointS_same _ _ _ _ _ _ L _ (L4.rd 0 rfl) (L4.rd 2 rfl)).mono ?_
  rintro e w5 ⟨rfl, g1⟩
  have L5 := L4.step g1
  clear g1 L4
  go_wp2_with fail
  refine (toByteS_any A n c l _ (H.out.keptN L5.grown) (by omega)).mono ?_
  rintro e w6 ⟨Ay, cy, rfl, o1, g1⟩
  have L6 := L5.new o1 g1
  clear o1 g1 L5
  go_wp2_with fail
  refine (eqByteS_same _ _ _ _ _ _ l _ (L6.rd 2 rfl) (L6.rd 0 rfl)).mono ?_
  rintro e w7 ⟨rfl, g1⟩
  have L7 := (L6.step g1).drop
  clear g1 L6
  go_wp2_with fail
  refine (markByteS_any _ _ _ l _ _ _ (L7.own 1 rfl) (by omega) (by omega) (by omega)).mono ?_
  rintro e w8 ⟨rfl, o1, g1⟩
  have L8 := L7.put 1 rfl o1 g1
  clear o1 g1 L7
  go_wp2_with fail
  refine (eqPointS_same _ _ _ _ _ _ L _ (L8.rd 0 rfl) (L8.rd 2 rfl)).mono ?_
  rintro e w9 ⟨rfl, g1⟩
  have L9 := L8.step g1
  clear g1 L8
  go_wp2_with fail
  refine (markPointS_any _ _ _ L _ _ _ (L9.own 0 rfl) (by omega) (by omega) (by omega)).mono ?_
  rintro e w10 ⟨rfl, o1, g1⟩
  have L10 := L9.put 0 rfl o1 g1
  clear o1 g1 L9
  go_wp2_with fail
  refine (heldPointS_any _ _ _ _ _ (L10.rd 0 rfl) (by omega) (by omega) (by omega)).mono ?_
  rintro e w11 ⟨rfl, g1⟩
  have L11 := L10.step g1
  clear g1 L10
  go_wp2_with fail
  refine (toByteS_any A n c l _ (H.out.keptN L11.grown) (by omega)).mono ?_
  rintro e w12 ⟨Az, cz, rfl, o1, g1⟩
  have L12 := L11.new o1 g1
  clear o1 g1 L11
  go_wp2_with fail
  refine (unpI_at _ _ _ l L b _ (L12.rd 0 rfl) HB.out HV.out).mono ?_
  rintro e w13 ⟨Ah, ch, rfl, o1, g1⟩
  have L13 := L12.new o1 g1
  clear o1 g1 L12
  go_wp2_with fail
  refine (eqPointS_same _ _ _ _ _ _ L _ (L13.rd 0 rfl) (L13.rd 4 rfl)).mono ?_
  rintro e w14 ⟨rfl, g1⟩
  have L14 := L13.step g1
  clear g1 L13
  go_wp2_with fail
  refine (heldPointS_any _ _ _ _ _ (L14.rd 2 rfl) (by omega) (by omega) (by omega)).mono ?_
  rintro e w15 ⟨rfl, g1⟩
  have hbel := (L14.step g1).bel
  clear g1 L14
  go_wp2
  go_ret
  exact ⟨rfl, hbel⟩
set_option maxRecDepth 100000 in
set_option linter.unusedVariables false in
theorem liftedFnExactUnpackSeries (os : Os) (started : os.Started) (H : Type) (enc : TypeId × Value → H) :
    ReturnsInHanded {} Try.checked os 15 .any (Rows.fnExactUnpackSeriesSpec.pre6 enc Try.prog Try.f15 Rows.fnExactUnpackSeriesRow.domain false) (Rows.fnExactUnpackSeriesSpec.post enc Try.prog Try.f15 false true false false) := by
  refine returnsInHanded_of_change (C := Try.checked) own started (by kernel_rfl) Try.func15
    (ChangeSpec.witness6 (enc := enc) (C := Try.checked) false ⟨#[], #[.slice none 0 0], []⟩ 8 (by kernel_rfl) (by kernel_rfl) (by kernel_rfl) (by kernel_rfl)) ?_
  intro W base args ds gs before hval0 hW hcnd _
  have hval : ∀ (j : Nat) t v, Try.f15.params[j]? = some t → args[j]? = some v → Value.okWide Try.prog W .any base t v := hval0
  have hW' := hW
  obtain ⟨p, q, hA0, hV, rfl, hfz, hnd⟩ := hW
  have hA : DataW.TrodAll enc Try.prog W 0 (fun _ => true) true Try.f15.params.toList args.toList ds p := hA0
  rw [Try.params15] at hA hval
  obtain ⟨v0, vs0, d0, ds0, p0, q0, hargs, rfl, rfl, h0, r0⟩ := trodAll_cons hA
  obtain ⟨rfl, rfl, rfl⟩ := trodAll_nil r0
  obtain rfl : args = #[v0] := by cases args; simp_all
  obtain ⟨rfl, rfl⟩ := trodVars_none hV
  obtain ⟨a0, len0, cap0, rfl⟩ := okWide_slice Try.underlying22 (hval 0 22 v0 rfl rfl)
  have k0 := h0
  have lt0 : ∀ x ∈ p0, x.block < W.heap.size := by obtain ⟨m, hm⟩ := k0; exact DataW.trod_lt m _ _ _ hm
  obtain ⟨z0, w0, b0⟩ : ∃ zs : List Int, Rd W 1 a0 len0 cap0 (zs.map (Value.int .u8)) ∧ By zs := by
    obtain ⟨fuel, hf⟩ := h0
    rcases open_ints Try.underlying22 Try.underlying5 (by kernel_rfl) hf with ⟨hcs, _⟩ | ⟨x, l, c, zs, hcs, _, hl, hm, hz, _, hcell, hwz⟩
    · simp [Value.cells] at hcs
      obtain ⟨rfl, rfl, rfl⟩ := hcs
      exact ⟨[], Rd.nil_ _ _, by intro x hx; cases hx⟩
    · simp [Value.cells] at hcs
      obtain ⟨rfl, rfl, rfl⟩ := hcs
      exact ⟨_, rd_of_ints hl hm (by simpa using hz) hcell, by_of_wf hwz⟩
  clear hA0 hval0
  refine (walkFnExactUnpackSeries a0 len0 cap0 z0 W w0 b0).mono fun e W' ⟨he, bel⟩ => ?_
  subst he
  exact ⟨_, rfl, _, _, _, [], _, [], hW', trodAll_mk1 (shut_bool Try.underlying4 _), (trodAll_cons_mk (Below.trod laidOut (by kernel_rfl) (of_decide_eq_true (by kernel_rfl)) k0 bel lt0) trodAll_mk0), rfl, bel.frame _, fun h => by cases h⟩

theorem closedFnExactUnpackSeries : joinedFacts Try.prog 15 Try.f15 Rows.fnExactUnpackSeriesSpec Rows.fnExactUnpackSeriesRow = true := by
  unfold joinedFacts
  refine and_yes (and_yes (and_yes (and_yes (and_yes (and_yes (and_yes ?_ mayIn) ?_) ?_) ?_) ?_) ?_) ?_
  rotate_left
  · rw [liftsIn]; kernel_rfl
  · rw [makeIn]; kernel_rfl
  · kernel_rfl
  · kernel_rfl
  · kernel_rfl
  · kernel_rfl
  · kernel_rfl

theorem overFnExactUnpackSeries : Rows.fnExactUnpackSeriesRow.holds Try.pinned (OpenSpec.ofChange Rows.fnExactUnpackSeriesSpec) :=
  OpenClaim.holds_of_wide 15 Try.f15 rfl rfl rfl rfl rfl rfl rfl ⟨rfl, rfl, rfl, rfl, rfl⟩ rfl rfl rfl rfl rfl (by kernel_rfl) Try.func15 closedFnExactUnpackSeries
    (of_decide_eq_true (by kernel_rfl)) (by unfold Func.isWrapper; first | (rw [if_pos (by decide +kernel)]; kernel_rfl) | (rw [if_neg (by decide +kernel)]; exact ⟨rfl, rfl⟩))
    (fun os started H enc _ => liftedFnExactUnpackSeries os started H enc)

/-- the statement -/
theorem provedFnExactUnpackSeries : Rows.FnExactUnpackSeriesSaid := overFnExactUnpackSeries
#print axioms provedFnExactUnpackSeries
end Go.Proofs.Ytcgeagcfhjdpcaa
