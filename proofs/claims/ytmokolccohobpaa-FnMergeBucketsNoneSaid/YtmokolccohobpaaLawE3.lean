/- The laws FnValidBuckets, FnCoarserOne and FnMergeBucketsNone: for every input the law returns true, and nothing that was there has turned. -/
import Derived.Test.YtmokolccohobpaaFrame2
import Derived.Test.YtmokolccohobpaaBEq
import Derived.Test.YtmokolccohobpaaAt
import Derived.Test.YtmokolccohobpaaPlainE
import Derived.Test.YtmokolccohobpaaDrawB2
import Derived.Test.YtmokolccohobpaaLive
namespace Go.Proofs.Ytmokolccohobpaa
set_option linter.unusedVariables false
open Go.ChangeShapes Go.WideShapes Go.ChangeAt Go.RowKit

/-- the first k of a row that is read -/
theorem rd_take5 {w : World} {A : Option Addr} {n c : Nat} {l : List Bk} (h : Rd w 5 A n c (bkc l)) (k : Nat) (hk : k ≤ n) : Rd w 5 A k c (bkc (l.take k)) := by
  have hlen := h.len
  rw [bkc_len] at hlen
  have hl : l.length = n := by omega
  refine ⟨by rw [bkc_len, List.length_take]; omega, Nat.le_trans hk h.cap, h.lim, h.non, fun hn => ?_⟩
  obtain ⟨b, o, e, hc⟩ := h.cells (show 0 < n by omega)
  refine ⟨b, o, e, fun j u hu => hc j u ?_⟩
  rw [← bkc_take] at hu
  rw [List.getElem?_take] at hu
  split at hu
  · exact hu
  · cases hu

set_option maxHeartbeats 1600000 in
theorem walkFnValidBuckets (A : Option Addr) (n c : Nat) (l : List Int) (W : World) (h : Rd W 1 A n c (bc l)) (hb : By l) : Calls Try.prog 4 #[.slice A n c] W fun e w' => e = .returned (.bool true) ∧ Below W.heap.size W w' := by
  by_cases hbig : (1048576 : Int) < (n : Int)
  · clear h hb
    go_enter Try.func4, Try.ntmps4
    go_wp2
    go_ret
    exact ⟨rfl, Below.refl _ _⟩
  go_enter Try.func4, Try.ntmps4
  go_wp2_with fail
  refine (drawVB_any A n c l _ h hb (by omega)).mono ?_
  rintro e w1 ⟨A1, c1, L, x, rfl, -, o1, hL, g1⟩
  have L1 := (Live.zero _).new o1 g1
  obtain ⟨v, hv⟩ : ∃ v, okW x L = v := ⟨_, rfl⟩
  have HV := Lib.hid hv
  clear hv h hb o1 g1
  go_wp2_with fail
  refine (validBI_at _ _ _ L x v _ (L1.rd 0 rfl) HV.out).mono ?_
  rintro e w2 ⟨rfl, g1⟩
  have L2 := L1.step g1
  clear L1 g1
  go_wp2_with fail
  refine (validBS_at _ _ _ L x v _ (L2.rd 0 rfl) HV.out).mono ?_
  rintro e w3 ⟨rfl, g1⟩
  have L3 := L2.step g1
  clear L2 g1
  cases v with
  | false =>
    go_wp2_with fail
    refine (validBS_at _ _ _ L x false _ (L3.rd 0 rfl) HV.out).mono ?_
    rintro e w4 ⟨rfl, g1⟩
    have L4 := L3.step g1
    clear L3 g1
    go_wp2
    go_ret
    exact ⟨ret_b (by simp), L4.bel⟩
  | true =>
    by_cases h0 : L.length = 0
    · have hz : ((L.length : Int) == 0) = true := by rw [h0]; rfl
      have H0 := Lib.hid h0
      clear h0
      go_wp2_with fail
      refine (validBS_at _ _ _ L x true _ (L3.rd 0 rfl) HV.out).mono ?_
      rintro e w4 ⟨rfl, g1⟩
      have L4 := L3.step g1
      clear L3 g1
      go_wp2
      go_ret
      exact ⟨ret_b (by simp), L4.bel⟩
    have hz : ((L.length : Int) == 0) = false := by rw [beq_eq_false_iff_ne]; omega
    obtain ⟨k, hk⟩ : ∃ k, L.length = k + 1 := ⟨L.length - 1, by omega⟩
    have K1 := Lib.hid (okW_take k HV.out)
    have K2 := Lib.hid (okW_one HV.out)
    have R3 := L3.rd 0 rfl
    have R3' := Lib.hid (rd_take5 R3 k (by omega))
    have i1 : IntKind.i64.wrap ((L.length : Int) - 1) = (k : Int) := by rw [hk]; rw [show (((k + 1 : Nat) : Int) - 1) = (k : Int) by omega]; exact IntWalk.i64_in _ (by omega)
    have i2 : (k : Int) ≤ (L.length : Int) := by omega
    have i3 : k ≤ c1 := by have := R3.cap; omega
    have i4 : k ≤ L.length := by omega
    have H0 := Lib.hid hk
    clear h0 hk R3
    go_wp2_with fail
    refine (validBI_at _ _ _ (L.take k) x true _ R3'.out K1.out).mono ?_
    rintro e w4 ⟨rfl, g1⟩
    have L4 := L3.step g1
    clear L3 g1
    go_wp2_with fail
    refine (validBI_at _ _ _ L 1 true _ (L4.rd 0 rfl) K2.out).mono ?_
    rintro e w5 ⟨rfl, g1⟩
    have L5 := L4.step g1
    clear L4 g1
    go_wp2
    go_ret
    exact ⟨ret_b (by simp), L5.bel⟩
set_option maxHeartbeats 1600000 in
theorem walkFnCoarserOne (A : Option Addr) (n c : Nat) (l : List Int) (W : World) (h : Rd W 1 A n c (bc l)) (hb : By l) : Calls Try.prog 7 #[.slice A n c] W fun e w' => e = .returned (.bool true) ∧ Below W.heap.size W w' := by
  by_cases hbig : (1048576 : Int) < (n : Int)
  · clear h hb
    go_enter Try.func7, Try.ntmps7
    go_wp2
    go_ret
    exact ⟨rfl, Below.refl _ _⟩
  go_enter Try.func7, Try.ntmps7
  go_wp2_with fail
  refine (drawCo_any A n c l _ h hb (by omega)).mono ?_
  rintro e w1 ⟨A1, c1, L, x, y, rfl, -, -, o1, hL, g1⟩
  have L1 := (Live.zero _).new o1 g1
  obtain ⟨M, b, hv⟩ : ∃ M b, coarV x y L = (M, b) := ⟨_, _, rfl⟩
  obtain ⟨v, hw⟩ : ∃ v, okW x L = v := ⟨_, rfl⟩
  have HV := Lib.hid hv
  have HW := Lib.hid hw
  clear hv hw h hb o1 g1
  go_wp2_with fail
  refine (coarI_at _ _ _ L x y M b _ (L1.rd 0 rfl) HV.out).mono ?_
  rintro e w2 ⟨A2, c2, rfl, o1, g1⟩
  have L2 := L1.new o1 g1
  clear L1 o1 g1
  go_wp2_with fail
  refine (coarS_at _ _ _ L x y M b _ (L2.rd 1 rfl) HV.out).mono ?_
  rintro e w3 ⟨A3, c3, rfl, o1, g1⟩
  have L3 := L2.new o1 g1
  clear L2 o1 g1
  go_wp2_with fail
  refine (equalBuckets_same _ _ _ _ _ _ M _ (L3.rd 1 rfl) (L3.rd 0 rfl)).mono ?_
  rintro e w4 ⟨rfl, g1⟩
  have L4 := L3.step g1
  clear L3 g1
  go_wp2_with fail
  refine (validBI_at _ _ _ L x v _ (L4.rd 2 rfl) HW.out).mono ?_
  rintro e w5 ⟨rfl, g1⟩
  have L5 := L4.step g1
  clear L4 g1
  cases v with
  | false =>
    go_wp2_with fail
    refine (equalBuckets_same _ _ _ _ _ _ M _ (L5.rd 1 rfl) (L5.rd 0 rfl)).mono ?_
    rintro e w6 ⟨rfl, g1⟩
    have L6 := L5.step g1
    clear L5 g1
    go_wp2
    go_ret
    exact ⟨ret_b (by simp), L6.bel⟩
  | true =>
    have HC := Lib.hid (coar_one HW.out)
    go_wp2_with fail
    refine (coarI_at _ _ _ L x 1 L true _ (L5.rd 2 rfl) HC.out).mono ?_
    rintro e w6 ⟨A6, c6, rfl, o1, g1⟩
    have L6 := L5.new o1 g1
    clear L5 o1 g1
    go_wp2_with fail
    refine (equalBuckets_same _ _ _ _ _ _ L _ (L6.rd 0 rfl) (L6.rd 3 rfl)).mono ?_
    rintro e w7 ⟨rfl, g1⟩
    have L7 := L6.step g1
    clear L6 g1
    go_wp2
    go_ret
    exact ⟨ret_b (by simp), L7.bel⟩
set_option maxHeartbeats 1600000 in
theorem walkFnMergeBucketsNone (A : Option Addr) (n c : Nat) (l : List Int) (W : World) (h : Rd W 1 A n c (bc l)) (hb : By l) : Calls Try.prog 10 #[.slice A n c] W fun e w' => e = .returned (.bool true) ∧ Below W.heap.size W w' := by
  by_cases hbig : (1048576 : Int) < (n : Int)
  · clear h hb
    go_enter Try.func10, Try.ntmps10
    go_wp2
    go_ret
    exact ⟨rfl, Below.refl _ _⟩
  go_enter Try.func10, Try.ntmps10
  go_wp2_with fail
  refine (drawMB_any A n c l _ h hb (by omega)).mono ?_
  rintro e w1 ⟨A1, c1, L, B1, d1, K, x, rfl, -, ⟨o1, hL⟩, ⟨o2, hK⟩, g1⟩
  have RA := Lib.hid (Rd.own o1)
  have RB := Lib.hid (Rd.own o2)
  have L1 := (Live.zero W).step g1
  obtain ⟨M, b, hv⟩ : ∃ M b, mrgV x L K = (M, b) := ⟨_, _, rfl⟩
  obtain ⟨v, hw⟩ : ∃ v, okW x L = v := ⟨_, rfl⟩
  have HV := Lib.hid hv
  have HW := Lib.hid hw
  have q1 := g_refl w1 none
  clear hv hw h hb o1 o2 g1
  go_wp2_with fail
  refine (mergeI_at _ _ _ _ _ _ L K x M b _ RA.out RB.out HV.out).mono ?_
  rintro e w2 ⟨A2, c2, rfl, o1, g1⟩
  have L2 := L1.new o1 g1
  have q2 := g1
  clear L1 o1 g1 q1
  go_wp2_with fail
  refine (mergeS_at _ _ _ _ _ _ L K x M b _ (RA.out.keptN q2) (RB.out.keptN q2) HV.out).mono ?_
  rintro e w3 ⟨A3, c3, rfl, o1, g1⟩
  have L3 := L2.new o1 g1
  have q3 := g_trans q2 g1
  clear L2 o1 g1 q2
  go_wp2_with fail
  refine (equalBuckets_same _ _ _ _ _ _ M _ (L3.rd 1 rfl) (L3.rd 0 rfl)).mono ?_
  rintro e w4 ⟨rfl, g1⟩
  have L4 := L3.step g1
  have q4 := g_trans q3 g1
  clear L3 g1 q3
  go_wp2_with fail
  refine (validBI_at _ _ _ L x v _ (RA.out.keptN q4) HW.out).mono ?_
  rintro e w5 ⟨rfl, g1⟩
  have L5 := L4.step g1
  have q5 := g_trans q4 g1
  clear L4 g1 q4
  cases v with
  | false =>
    go_wp2_with fail
    refine (equalBuckets_same _ _ _ _ _ _ M _ (L5.rd 1 rfl) (L5.rd 0 rfl)).mono ?_
    rintro e w6 ⟨rfl, g1⟩
    have L6 := L5.step g1
    clear L5 g1
    go_wp2
    go_ret
    exact ⟨ret_b (by simp), L6.bel⟩
  | true =>
    have hmn := mrg_none HW.out
    have HC1 := Lib.hid hmn.1
    have HC2 := Lib.hid hmn.2
    clear hmn
    go_wp2_with fail
    refine (mergeI_at _ _ _ _ _ _ L [] x L true _ (RA.out.keptN q5) (Rd.nil_ _ _) HC1.out).mono ?_
    rintro e w6 ⟨A6, c6, rfl, o1, g1⟩
    have L6 := L5.new o1 g1
    have q6 := g_trans q5 g1
    clear L5 o1 g1 q5
    go_wp2_with fail
    refine (mergeI_at _ _ _ _ _ _ [] L x L true _ (Rd.nil_ _ _) (RA.out.keptN q6) HC2.out).mono ?_
    rintro e w7 ⟨A7, c7, rfl, o1, g1⟩
    have L7 := L6.new o1 g1
    have q7 := g_trans q6 g1
    clear L6 o1 g1 q6
    go_wp2_with fail
    refine (equalBuckets_same _ _ _ _ _ _ L _ (L7.rd 1 rfl) (RA.out.keptN q7)).mono ?_
    rintro e w8 ⟨rfl, g1⟩
    have L8 := L7.step g1
    have q8 := g_trans q7 g1
    clear L7 g1 q7
    go_wp2_with fail
    refine (equalBuckets_same _ _ _ _ _ _ L _ (L8.rd 0 rfl) (RA.out.keptN q8)).mono ?_
    rintro e w9 ⟨rfl, g1⟩
    have L9 := L8.step g1
    clear L8 g1 q8
    go_wp2
    go_ret
    exact ⟨ret_b (by simp), L9.bel⟩
set_option maxRecDepth 100000 in
set_option linter.unusedVariables false in
theorem liftedFnValidBuckets (os : Os) (started : os.Started) (H : Type) (enc : TypeId × Value → H) :
    ReturnsInHanded {} Try.checked os 4 .any (Rows.fnValidBucketsSpec.pre6 enc Try.prog Try.f4 Rows.fnValidBucketsRow.domain false) (Rows.fnValidBucketsSpec.post enc Try.prog Try.f4 false true false false) := by
  refine returnsInHanded_of_change (C := Try.checked) own started (by kernel_rfl) Try.func4
    (ChangeSpec.witness6 (enc := enc) (C := Try.checked) false ⟨#[], #[.slice none 0 0], []⟩ 8 (by kernel_rfl) (by kernel_rfl) (by kernel_rfl) (by kernel_rfl)) ?_
  intro W base args ds gs before hval0 hW hcnd _
  have hval : ∀ (j : Nat) t v, Try.f4.params[j]? = some t → args[j]? = some v → Value.okWide Try.prog W .any base t v := hval0
  have hW' := hW
  obtain ⟨p, q, hA0, hV, rfl, hfz, hnd⟩ := hW
  have hA : DataW.TrodAll enc Try.prog W 0 (fun _ => true) true Try.f4.params.toList args.toList ds p := hA0
  rw [Try.params4] at hA hval
  obtain ⟨v0, vs0, d0, ds0, p0, q0, hargs, rfl, rfl, h0, r0⟩ := trodAll_cons hA
  obtain ⟨rfl, rfl, rfl⟩ := trodAll_nil r0
  obtain rfl : args = #[v0] := by cases args; simp_all
  obtain ⟨rfl, rfl⟩ := trodVars_none hV
  obtain ⟨a0, len0, cap0, rfl⟩ := okWide_slice Try.underlying29 (hval 0 29 v0 rfl rfl)
  have k0 := h0
  have lt0 : ∀ x ∈ p0, x.block < W.heap.size := by obtain ⟨m, hm⟩ := k0; exact DataW.trod_lt m _ _ _ hm
  obtain ⟨z0, w0, b0⟩ : ∃ zs : List Int, Rd W 1 a0 len0 cap0 (zs.map (Value.int .u8)) ∧ By zs := by
    obtain ⟨fuel, hf⟩ := h0
    rcases open_ints Try.underlying29 Try.underlying5 (by kernel_rfl) hf with ⟨hcs, _⟩ | ⟨x, l, c, zs, hcs, _, hl, hm, hz, _, hcell, hwz⟩
    · simp [Value.cells] at hcs
      obtain ⟨rfl, rfl, rfl⟩ := hcs
      exact ⟨[], Rd.nil_ _ _, by intro x hx; cases hx⟩
    · simp [Value.cells] at hcs
      obtain ⟨rfl, rfl, rfl⟩ := hcs
      exact ⟨_, rd_of_ints hl hm (by simpa using hz) hcell, by_of_wf hwz⟩
  clear hA0 hval0
  refine (walkFnValidBuckets a0 len0 cap0 z0 W w0 b0).mono fun e W' ⟨he, bel⟩ => ?_
  subst he
  exact ⟨_, rfl, _, _, _, [], _, [], hW', trodAll_mk1 (shut_bool Try.underlying4 _), (trodAll_cons_mk (Below.trod laidOut (by kernel_rfl) (of_decide_eq_true (by kernel_rfl)) k0 bel lt0) trodAll_mk0), rfl, bel.frame _, fun h => by cases h⟩

theorem closedFnValidBuckets : joinedFacts Try.prog 4 Try.f4 Rows.fnValidBucketsSpec Rows.fnValidBucketsRow = true := by
  unfold joinedFacts
  refine and_yes (and_yes (and_yes (and_yes (and_yes (and_yes (and_yes ?_ mayIn) ?_) ?_) ?_) ?_) ?_) ?_
  rotate_left
  · rw [liftsIn]; kernel_rfl
  · rw [makeIn]; kernel_rfl
  · kernel_rfl
  · kernel_rfl
  · kernel_rfl
  · kernel_rfl
  · kernel_rfl

theorem overFnValidBuckets : Rows.fnValidBucketsRow.holds Try.pinned (OpenSpec.ofChange Rows.fnValidBucketsSpec) :=
  OpenClaim.holds_of_wide 4 Try.f4 rfl rfl rfl rfl rfl rfl rfl ⟨rfl, rfl, rfl, rfl, rfl⟩ rfl rfl rfl rfl rfl (by kernel_rfl) Try.func4 closedFnValidBuckets
    (of_decide_eq_true (by kernel_rfl)) (by unfold Func.isWrapper; first | (rw [if_pos (by decide +kernel)]; kernel_rfl) | (rw [if_neg (by decide +kernel)]; exact ⟨rfl, rfl⟩))
    (fun os started H enc _ => liftedFnValidBuckets os started H enc)

/-- the statement -/
theorem provedFnValidBuckets : Rows.FnValidBucketsSaid := overFnValidBuckets
#print axioms provedFnValidBuckets
set_option maxRecDepth 100000 in
set_option linter.unusedVariables false in
theorem liftedFnCoarserOne (os : Os) (started : os.Started) (H : Type) (enc : TypeId × Value → H) :
    ReturnsInHanded {} Try.checked os 7 .any (Rows.fnCoarserOneSpec.pre6 enc Try.prog Try.f7 Rows.fnCoarserOneRow.domain false) (Rows.fnCoarserOneSpec.post enc Try.prog Try.f7 false true false false) := by
  refine returnsInHanded_of_change (C := Try.checked) own started (by kernel_rfl) Try.func7
    (ChangeSpec.witness6 (enc := enc) (C := Try.checked) false ⟨#[], #[.slice none 0 0], []⟩ 8 (by kernel_rfl) (by kernel_rfl) (by kernel_rfl) (by kernel_rfl)) ?_
  intro W base args ds gs before hval0 hW hcnd _
  have hval : ∀ (j : Nat) t v, Try.f7.params[j]? = some t → args[j]? = some v → Value.okWide Try.prog W .any base t v := hval0
  have hW' := hW
  obtain ⟨p, q, hA0, hV, rfl, hfz, hnd⟩ := hW
  have hA : DataW.TrodAll enc Try.prog W 0 (fun _ => true) true Try.f7.params.toList args.toList ds p := hA0
  rw [Try.params7] at hA hval
  obtain ⟨v0, vs0, d0, ds0, p0, q0, hargs, rfl, rfl, h0, r0⟩ := trodAll_cons hA
  obtain ⟨rfl, rfl, rfl⟩ := trodAll_nil r0
  obtain rfl : args = #[v0] := by cases args; simp_all
  obtain ⟨rfl, rfl⟩ := trodVars_none hV
  obtain ⟨a0, len0, cap0, rfl⟩ := okWide_slice Try.underlying29 (hval 0 29 v0 rfl rfl)
  have k0 := h0
  have lt0 : ∀ x ∈ p0, x.block < W.heap.size := by obtain ⟨m, hm⟩ := k0; exact DataW.trod_lt m _ _ _ hm
  obtain ⟨z0, w0, b0⟩ : ∃ zs : List Int, Rd W 1 a0 len0 cap0 (zs.map (Value.int .u8)) ∧ By zs := by
    obtain ⟨fuel, hf⟩ := h0
    rcases open_ints Try.underlying29 Try.underlying5 (by kernel_rfl) hf with ⟨hcs, _⟩ | ⟨x, l, c, zs, hcs, _, hl, hm, hz, _, hcell, hwz⟩
    · simp [Value.cells] at hcs
      obtain ⟨rfl, rfl, rfl⟩ := hcs
      exact ⟨[], Rd.nil_ _ _, by intro x hx; cases hx⟩
    · simp [Value.cells] at hcs
      obtain ⟨rfl, rfl, rfl⟩ := hcs
      exact ⟨_, rd_of_ints hl hm (by simpa using hz) hcell, by_of_wf hwz⟩
  clear hA0 hval0
  refine (walkFnCoarserOne a0 len0 cap0 z0 W w0 b0).mono fun e W' ⟨he, bel⟩ => ?_
  subst he
  exact ⟨_, rfl, _, _, _, [], _, [], hW', trodAll_mk1 (shut_bool Try.underlying4 _), (trodAll_cons_mk (Below.trod laidOut (by kernel_rfl) (of_decide_eq_true (by kernel_rfl)) k0 bel lt0) trodAll_mk0), rfl, bel.frame _, fun h => by cases h⟩

theorem closedFnCoarserOne : joinedFacts Try.prog 7 Try.f7 Rows.fnCoarserOneSpec Rows.fnCoarserOneRow = true := by
  unfold joinedFacts
  refine and_yes (and_yes (and_yes (and_yes (and_yes (and_yes (and_yes ?_ mayIn) ?_) ?_) ?_) ?_) ?_) ?_
  rotate_left
  · rw [liftsIn]; kernel_rfl
  · rw [makeIn]; kernel_rfl
  · kernel_rfl
  · kernel_rfl
  · kernel_rfl
  · kernel_rfl
  · kernel_rfl

theorem overFnCoarserOne : Rows.fnCoarserOneRow.holds Try.pinned (OpenSpec.ofChange Rows.fnCoarserOneSpec) :=
  OpenClaim.holds_of_wide 7 Try.f7 rfl rfl rfl rfl rfl rfl rfl ⟨rfl, rfl, rfl, rfl, rfl⟩ rfl rfl rfl rfl rfl (by kernel_rfl) Try.func7 closedFnCoarserOne
    (of_decide_eq_true (by kernel_rfl)) (by unfold Func.isWrapper; first | (rw [if_pos (by decide +kernel)]; kernel_rfl) | (rw [if_neg (by decide +kernel)]; exact ⟨rfl, rfl⟩))
    (fun os started H enc _ => liftedFnCoarserOne os started H enc)

/-- the statement -/
theorem provedFnCoarserOne : Rows.FnCoarserOneSaid := overFnCoarserOne
#print axioms provedFnCoarserOne
set_option maxRecDepth 100000 in
set_option linter.unusedVariables false in
theorem liftedFnMergeBucketsNone (os : Os) (started : os.Started) (H : Type) (enc : TypeId × Value → H) :
    ReturnsInHanded {} Try.checked os 10 .any (Rows.fnMergeBucketsNoneSpec.pre6 enc Try.prog Try.f10 Rows.fnMergeBucketsNoneRow.domain false) (Rows.fnMergeBucketsNoneSpec.post enc Try.prog Try.f10 false true false false) := by
  refine returnsInHanded_of_change (C := Try.checked) own started (by kernel_rfl) Try.func10
    (ChangeSpec.witness6 (enc := enc) (C := Try.checked) false ⟨#[], #[.slice none 0 0], []⟩ 8 (by kernel_rfl) (by kernel_rfl) (by kernel_rfl) (by kernel_rfl)) ?_
  intro W base args ds gs before hval0 hW hcnd _
  have hval : ∀ (j : Nat) t v, Try.f10.params[j]? = some t → args[j]? = some v → Value.okWide Try.prog W .any base t v := hval0
  have hW' := hW
  obtain ⟨p, q, hA0, hV, rfl, hfz, hnd⟩ := hW
  have hA : DataW.TrodAll enc Try.prog W 0 (fun _ => true) true Try.f10.params.toList args.toList ds p := hA0
  rw [Try.params10] at hA hval
  obtain ⟨v0, vs0, d0, ds0, p0, q0, hargs, rfl, rfl, h0, r0⟩ := trodAll_cons hA
  obtain ⟨rfl, rfl, rfl⟩ := trodAll_nil r0
  obtain rfl : args = #[v0] := by cases args; simp_all
  obtain ⟨rfl, rfl⟩ := trodVars_none hV
  obtain ⟨a0, len0, cap0, rfl⟩ := okWide_slice Try.underlying29 (hval 0 29 v0 rfl rfl)
  have k0 := h0
  have lt0 : ∀ x ∈ p0, x.block < W.heap.size := by obtain ⟨m, hm⟩ := k0; exact DataW.trod_lt m _ _ _ hm
  obtain ⟨z0, w0, b0⟩ : ∃ zs : List Int, Rd W 1 a0 len0 cap0 (zs.map (Value.int .u8)) ∧ By zs := by
    obtain ⟨fuel, hf⟩ := h0
    rcases open_ints Try.underlying29 Try.underlying5 (by kernel_rfl) hf with ⟨hcs, _⟩ | ⟨x, l, c, zs, hcs, _, hl, hm, hz, _, hcell, hwz⟩
    · simp [Value.cells] at hcs
      obtain ⟨rfl, rfl, rfl⟩ := hcs
      exact ⟨[], Rd.nil_ _ _, by intro x hx; cases hx⟩
    · simp [Value.cells] at hcs
      obtain ⟨rfl, rfl, rfl⟩ := hcs
      exact ⟨_, rd_of_ints hl hm (by simpa using hz) hcell, by_of_wf hwz⟩
  clear hA0 hval0
  refine (walkFnMergeBucketsNone a0 len0 cap0 z0 W w0 b0).mono fun e W' ⟨he, bel⟩ => ?_
  subst he
  exact ⟨_, rfl, _, _, _, [], _, [], hW', trodAll_mk1 (shut_bool Try.underlying4 _), (trodAll_cons_mk (Below.trod laidOut (by kernel_rfl) (of_decide_eq_true (by kernel_rfl)) k0 bel lt0) trodAll_mk0), rfl, bel.frame _, fun h => by cases h⟩

theorem closedFnMergeBucketsNone : joinedFacts Try.prog 10 Try.f10 Rows.fnMergeBucketsNoneSpec Rows.fnMergeBucketsNoneRow = true := by
  unfold joinedFacts
  refine and_yes (and_yes (and_yes (and_yes (and_yes (and_yes (and_yes ?_ mayIn) ?_) ?_) ?_) ?_) ?_) ?_
  rotate_left
  · rw [liftsIn]; kernel_rfl
  · rw [makeIn]; kernel_rfl
  · kernel_rfl
  · kernel_rfl
  · kernel_rfl
  · kernel_rfl
  · kernel_rfl

theorem overFnMergeBucketsNone : Rows.fnMergeBucketsNoneRow.holds Try.pinned (OpenSpec.ofChange Rows.fnMergeBucketsNoneSpec) :=
  OpenClaim.holds_of_wide 10 Try.f10 rfl rfl rfl rfl rfl rfl rfl ⟨rfl, rfl, rfl, rfl, rfl⟩ rfl rfl rfl rfl rfl (by kernel_rfl) Try.func10 closedFnMergeBucketsNone
    (of_decide_eq_true (by kernel_rfl)) (by unfold Func.isWrapper; first | (rw [if_pos (by decide +kernel)]; kernel_rfl) | (rw [if_neg (by decide +kernel)]; exact ⟨rfl, rfl⟩))
    (fun os started H enc _ => liftedFnMergeBucketsNone os started H enc)

/-- the statement -/
theorem provedFnMergeBucketsNone : Rows.FnMergeBucketsNoneSaid := overFnMergeBucketsNone
#print axioms provedFnMergeBucketsNone
end Go.Proofs.Ytmokolccohobpaa
