/- The law FnUnpackSeries: for every input the law returns true, and nothing that was there has turned. -/
import Derived.Test.YtcgeagcfhjdpcaaFrame2
import Derived.Test.YtcgeagcfhjdpcaaPackV
import Derived.Test.YtcgeagcfhjdpcaaUnp
import Derived.Test.YtcgeagcfhjdpcaaUnpS
import Derived.Test.YtcgeagcfhjdpcaaPMark
import Derived.Test.YtcgeagcfhjdpcaaEq
import Derived.Test.YtcgeagcfhjdpcaaDrawU
import Derived.Test.YtcgeagcfhjdpcaaLive
import Derived.Test.YtcgeagcfhjdpcaaQuiet
namespace Go.Proofs.Ytcgeagcfhjdpcaa
set_option linter.unusedVariables false
open Go.ChangeShapes Go.WideShapes Go.ChangeAt Go.RowKit

theorem unp_true {l : List Int} {M : List Pt} (h : unpV l = (M, true)) : unpO l = some M := by
  cases hu : unpO l with
  | none => rw [unpV_none hu] at h; injection h with _ h; cases h
  | some L => rw [unpV_some hu] at h; injection h with h _; rw [h]
set_option maxRecDepth 100000 in
set_option maxHeartbeats 1600000 in
theorem walkFnUnpackSeries (A : Option Addr) (n c : Nat) (l : List Int) (W : World) (h : Rd W 1 A n c (bc l)) (hb : By l) : Calls Try.prog 5 #[.slice A n c] W fun e w' => e = .returned (.bool true) ∧ Below W.heap.size W w' := by
  by_cases hbig : (1048576 : Int) < (n : Int)
  · clear h hb
    go_enter Try.func5, Try.ntmps5
    go_wp2
    go_ret
    exact ⟨rfl, Below.refl _ _⟩
  go_enter Try.func5, Try.ntmps5
  go_wp2_with fail
  refine (drawUP_any A n c l _ h hb (by omega)).mono ?_
  rintro e w1 ⟨A1, c1, L, rfl, h1, hby, hL200, g1⟩
  have RA := Lib.hid h1
  have HB := Lib.hid hby
  have L1 := (Live.zero W).step g1
  obtain ⟨M, ok, hv⟩ : ∃ M ok, unpV L = (M, ok) := ⟨_, _, rfl⟩
  have HV := Lib.hid hv
  clear hv h hb h1 hby g1
  go_wp2_with fail
  refine (unpI_at _ _ _ L M ok _ RA.out HB.out HV.out).mono ?_
  rintro e w2 ⟨A2, c2, rfl, o1, g1⟩
  have L2 := L1.new o1 g1
  have q2 := g1
  clear L1 o1 g1
  go_wp2_with fail
  refine (unpS_at _ _ _ L M ok _ (RA.out.keptN q2) HB.out HV.out).mono ?_
  rintro e w3 ⟨A3, c3, rfl, o1, g1⟩
  have L3 := L2.new o1 g1
  have q3 := g_trans q2 g1
  clear L2 o1 g1 q2
  go_wp2_with fail
  refine (equalPoints_same _ _ _ _ _ _ M _ (L3.rd 1 rfl) (L3.rd 0 rfl)).mono ?_
  rintro e w4 ⟨rfl, g1⟩
  have L4 := (L3.step g1).drop
  have q4 := g_trans q3 g1
  clear L3 g1 q3
  cases ok with
  | false =>
    have hbel := L4.bel
    clear L4 q4
    go_wp2
    go_ret
    exact ⟨ret_b (by simp), hbel⟩
  | true =>
    have hp := pack_unp HB.out (unp_true HV.out)
    have HP := Lib.hid (show packV M = L by rw [packV_yes hp.1]; exact hp.2)
    have HVL := Lib.hid hp.1
    clear hp
    go_wp2_with fail
    refine (packI_at _ _ _ M L _ (L4.rd 0 rfl) HP.out).mono ?_
    rintro e w5 ⟨A5, c5, rfl, o1, g1⟩
    have L5 := L4.new o1 g1
    have q5 := g_trans q4 g1
    clear L4 o1 g1 q4
    go_wp2_with fail
    refine (equalBytes_same _ _ _ _ _ _ L _ (L5.rd 0 rfl) (RA.out.keptN q5)).mono ?_
    rintro e w6 ⟨rfl, g1⟩
    have L6 := L5.step g1
    clear L5 g1 q5
    go_wp2_with fail
    refine (validI_at _ _ _ M true _ (L6.rd 1 rfl) HVL.out).mono ?_
    rintro e w7 ⟨rfl, g1⟩
    have hbel := (L6.step g1).bel
    clear L6 g1
    go_wp2
    go_ret
    exact ⟨ret_b (by simp), hbel⟩
set_option maxRecDepth 100000 in
set_option linter.unusedVariables false in
theorem liftedFnUnpackSeries (os : Os) (started : os.Started) (H : Type) (enc : TypeId × Value → H) :
    ReturnsInHanded {} Try.checked os 5 .any (Rows.fnUnpackSeriesSpec.pre6 enc Try.prog Try.f5 Rows.fnUnpackSeriesRow.domain false) (Rows.fnUnpackSeriesSpec.post enc Try.prog Try.f5 false true false false) := by
  refine returnsInHanded_of_change (C := Try.checked) own started (by kernel_rfl) Try.func5
    (ChangeSpec.witness6 (enc := enc) (C := Try.checked) false ⟨#[], #[.slice none 0 0], []⟩ 8 (by kernel_rfl) (by kernel_rfl) (by kernel_rfl) (by kernel_rfl)) ?_
  intro W base args ds gs before hval0 hW hcnd _
  have hval : ∀ (j : Nat) t v, Try.f5.params[j]? = some t → args[j]? = some v → Value.okWide Try.prog W .any base t v := hval0
  have hW' := hW
  obtain ⟨p, q, hA0, hV, rfl, hfz, hnd⟩ := hW
  have hA : DataW.TrodAll enc Try.prog W 0 (fun _ => true) true Try.f5.params.toList args.toList ds p := hA0
  rw [Try.params5] at hA hval
  obtain ⟨v0, vs0, d0, ds0, p0, q0, hargs, rfl, rfl, h0, r0⟩ := trodAll_cons hA
  obtain ⟨rfl, rfl, rfl⟩ := trodAll_nil r0
  obtain rfl : args = #[v0] := by cases args; simp_all
  obtain ⟨rfl, rfl⟩ := trodVars_none hV
  obtain ⟨a0, len0, cap0, rfl⟩ := okWide_slice Try.underlying22 (hval 0 22 v0 rfl rfl)
  have k0 := h0
  have lt0 : ∀ x ∈ p0, x.block < W.heap.size := by obtain ⟨m, hm⟩ := k0; exact DataW.trod_lt m _ _ _ hm
  obtain ⟨z0, w0, b0⟩ : ∃ zs : List Int, Rd W 1 a0 len0 cap0 (zs.map (Value.int .u8)) ∧ By zs := by
    obtain ⟨fuel, hf⟩ := h0
    rcases open_ints Try.underlying22 Try.underlying5 (by kernel_rfl) hf with ⟨hcs, _⟩ | ⟨x, l, c, zs, hcs, _, hl, hm, hz, _, hcell, hwz⟩
    · simp [Value.cells] at hcs
      obtain ⟨rfl, rfl, rfl⟩ := hcs
      exact ⟨[], Rd.nil_ _ _, by intro x hx; cases hx⟩
    · simp [Value.cells] at hcs
      obtain ⟨rfl, rfl, rfl⟩ := hcs
      exact ⟨_, rd_of_ints hl hm (by simpa using hz) hcell, by_of_wf hwz⟩
  clear hA0 hval0
  refine (walkFnUnpackSeries a0 len0 cap0 z0 W w0 b0).mono fun e W' ⟨he, bel⟩ => ?_
  subst he
  exact ⟨_, rfl, _, _, _, [], _, [], hW', trodAll_mk1 (shut_bool Try.underlying4 _), (trodAll_cons_mk (Below.trod laidOut (by kernel_rfl) (of_decide_eq_true (by kernel_rfl)) k0 bel lt0) trodAll_mk0), rfl, bel.frame _, fun h => by cases h⟩

theorem closedFnUnpackSeries : joinedFacts Try.prog 5 Try.f5 Rows.fnUnpackSeriesSpec Rows.fnUnpackSeriesRow = true := by
  unfold joinedFacts
  refine and_yes (and_yes (and_yes (and_yes (and_yes (and_yes (and_yes ?_ mayIn) ?_) ?_) ?_) ?_) ?_) ?_
  rotate_left
  · rw [liftsIn]; kernel_rfl
  · rw [makeIn]; kernel_rfl
  · kernel_rfl
  · kernel_rfl
  · kernel_rfl
  · kernel_rfl
  · kernel_rfl

theorem overFnUnpackSeries : Rows.fnUnpackSeriesRow.holds Try.pinned (OpenSpec.ofChange Rows.fnUnpackSeriesSpec) :=
  OpenClaim.holds_of_wide 5 Try.f5 rfl rfl rfl rfl rfl rfl rfl ⟨rfl, rfl, rfl, rfl, rfl⟩ rfl rfl rfl rfl rfl (by kernel_rfl) Try.func5 closedFnUnpackSeries
    (of_decide_eq_true (by kernel_rfl)) (by unfold Func.isWrapper; first | (rw [if_pos (by decide +kernel)]; kernel_rfl) | (rw [if_neg (by decide +kernel)]; exact ⟨rfl, rfl⟩))
    (fun os started H enc _ => liftedFnUnpackSeries os started H enc)

/-- the statement -/
theorem provedFnUnpackSeries : Rows.FnUnpackSeriesSaid := overFnUnpackSeries
#print axioms provedFnUnpackSeries
end Go.Proofs.Ytcgeagcfhjdpcaa
