/- The law FnCoarser: for every input the law returns true, and nothing that was there has turned. -/
import Derived.Test.YtmokolccohobpaaFrame2
import Derived.Test.YtmokolccohobpaaBEq
import Derived.Test.YtmokolccohobpaaAt
import Derived.Test.YtmokolccohobpaaPlainE4
import Derived.Test.YtmokolccohobpaaDrawB2
import Derived.Test.YtmokolccohobpaaLive
namespace Go.Proofs.Ytmokolccohobpaa
set_option linter.unusedVariables false
open Go.ChangeShapes Go.WideShapes Go.ChangeAt Go.RowKit

set_option maxHeartbeats 3200000 in
theorem walkFnCoarser (A : Option Addr) (n c : Nat) (l : List Int) (W : World) (h : Rd W 1 A n c (bc l)) (hb : By l) : Calls Try.prog 6 #[.slice A n c] W fun e w' => e = .returned (.bool true) ∧ Below W.heap.size W w' := by
  by_cases hbig : (1048576 : Int) < (n : Int)
  · clear h hb
    go_enter Try.func6, Try.ntmps6
    go_wp2
    go_ret
    exact ⟨rfl, Below.refl _ _⟩
  go_enter Try.func6, Try.ntmps6
  go_wp2_with fail
  refine (drawCo_any A n c l _ h hb (by omega)).mono ?_
  rintro e w1 ⟨A1, c1, L, x, y, rfl, -, -, o1, hL, g1⟩
  have L1 := (Live.zero _).new o1 g1
  obtain ⟨M, b, hv⟩ : ∃ M b, coarV x y L = (M, b) := ⟨_, _, rfl⟩
  have HV := Lib.hid hv
  clear hv h hb o1 g1
  go_wp2_with fail
  refine (coarI_at _ _ _ L x y M b _ (L1.rd 0 rfl) HV.out).mono ?_
  rintro e w2 ⟨A2, c2, rfl, o1, g1⟩
  have L2 := L1.new o1 g1
  clear L1 o1 g1
  go_wp2_with fail
  refine (coarS_at _ _ _ L x y M b _ (L2.rd 1 rfl) HV.out).mono ?_
  rintro e w3 ⟨A3, c3, rfl, o1, g1⟩
  have L3 := L2.new o1 g1
  clear L2 o1 g1
  go_wp2_with fail
  refine (equalBuckets_same _ _ _ _ _ _ M _ (L3.rd 1 rfl) (L3.rd 0 rfl)).mono ?_
  rintro e w4 ⟨rfl, g1⟩
  have L4 := L3.step g1
  clear L3 g1
  cases b with
  | false =>
    go_wp2_with fail
    refine (equalBuckets_same _ _ _ _ _ _ M _ (L4.rd 1 rfl) (L4.rd 0 rfl)).mono ?_
    rintro e w6 ⟨rfl, g1⟩
    have L6 := L4.step g1
    clear L4 g1
    go_wp2
    go_ret
    exact ⟨ret_b (by simp), L6.bel⟩
  | true =>
    have hf := coar_fine HV.out
    have hf2 := coar_fine2 HV.out
    have SL := Lib.hid (okW_small hf2.1)
    have SM := Lib.hid (okW_small hf.2.2.2)
    have HF := Lib.hid hf
    have hML : M.length ≤ L.length := hf.2.2.1
    have hw1 : IntKind.i64.wrap (x * y) = x * y := IntWalk.i64_in _ (by omega)
    have RL := Lib.hid (show Rd w4 5 A1 L.length c1 (bkc L) from L4.rd 2 rfl)
    have RM := Lib.hid (show Rd w4 5 A2 M.length c2 (bkc M) from L4.rd 1 rfl)
    clear hf hf2
    go_wp2
    go_loopw [10, 11, 12] (fun a b i wr => ∃ k : Nat, k ≤ L.length ∧ i = .int .i64 k ∧ a = .int .i64 (cntB (L.take k)) ∧ b = .int .i64 (sumB (L.take k)) ∧ wr = w4) (fun _ _ i _ => L.length - (intOf i).toNat)
    case atStart => exact ⟨0, Nat.zero_le _, rfl, by simp [cntB], by simp [sumB], rfl⟩
    case round =>
      obtain ⟨k, hk, rfl, rfl, rfl, hwr⟩ := hrel
      subst hwr
      have p1 := pre_bd SL.out k
      obtain ⟨⟨p1, p2⟩, p3, p4⟩ := p1
      by_cases hlt : k < L.length
      · obtain ⟨⟨s, ct, u, lo, hi⟩, hx, hdx⟩ := get_ex (l := L) (i := k) hlt
        have q1 := pre_bd SL.out (k + 1)
        have q2 := cnt_snoc hx
        obtain ⟨b1, o1, rfl, hc1⟩ := RL.out.cells hlt
        obtain ⟨x0, x1, x2, x3, x4⟩ := bkc_at hx
        have c1' := hc1 _ _ x1
        have c2' := hc1 _ _ x2
        simp only [Nat.add_zero, ← Nat.add_assoc] at c1' c2'
        have hlt' : (k : Int) < (L.length : Int) := by omega
        have hw2 : IntKind.i64.wrap (cntB (L.take k) + ct) = cntB (L.take k) + ct := IntWalk.i64_in _ (by omega)
        have hw3 : IntKind.i64.wrap (sumB (L.take k) + u) = sumB (L.take k) + u := IntWalk.i64_in _ (by omega)
        have Q2 := Lib.hid q2
        clear hx hdx hc1 x0 x1 x2 x3 x4 q1 q2
        go_wp2
        go_roundw
        case rel => exact ⟨k + 1, by omega, by go_num, by rw [Q2.out.1], by rw [Q2.out.2], by trivial⟩
        case measure => simp [intOf]; omega
      · have hge : ¬ (k : Int) < (L.length : Int) := by omega
        have e1 : cntB (L.take k) = cntB L := by rw [List.take_of_length_le (by omega)]
        have e2 : sumB (L.take k) = sumB L := by rw [List.take_of_length_le (by omega)]
        rw [e1] at p1 p2
        rw [e2] at p3 p4
        rw [e1, e2]
        clear e1 e2
        obtain ⟨wo, hwo⟩ : ∃ wo : World, wo = wr := ⟨_, rfl⟩
        rw [← hwo] at L4 RL RM ⊢
        clear hwo
        go_wp2
        go_loopw [13, 10, 11] (fun i a b wr => ∃ j : Nat, j ≤ M.length ∧ i = .int .i64 j ∧ a = .int .i64 (cntB L - cntB (M.take j)) ∧ b = .int .i64 (sumB L - sumB (M.take j)) ∧ wr = wo) (fun i _ _ _ => M.length - (intOf i).toNat)
        case atStart => exact ⟨0, Nat.zero_le _, rfl, by simp [cntB], by simp [sumB], rfl⟩
        case round =>
          obtain ⟨j, hj, rfl, rfl, rfl, hwr⟩ := hrel
          subst hwr
          have r1 := pre_bd SM.out j
          obtain ⟨⟨r1, r2⟩, r3, r4⟩ := r1
          by_cases hlt2 : j < M.length
          · obtain ⟨⟨s, ct, u, lo, hi⟩, hx, hdx⟩ := get_ex (l := M) (i := j) hlt2
            have q1 := pre_bd SM.out (j + 1)
            have q2 := cnt_snoc hx
            obtain ⟨b1, o1, rfl, hc1⟩ := RM.out.cells hlt2
            obtain ⟨x0, x1, x2, x3, x4⟩ := bkc_at hx
            have c1' := hc1 _ _ x1
            have c2' := hc1 _ _ x2
            simp only [Nat.add_zero, ← Nat.add_assoc] at c1' c2'
            have hlt' : (j : Int) < (M.length : Int) := by omega
            have hw2 : IntKind.i64.wrap (cntB L - cntB (M.take j) - ct) = cntB L - cntB (M.take j) - ct := IntWalk.i64_in _ (by omega)
            have hw3 : IntKind.i64.wrap (sumB L - sumB (M.take j) - u) = sumB L - sumB (M.take j) - u := IntWalk.i64_in _ (by omega)
            have Q2 := Lib.hid q2
            clear hx hdx hc1 x0 x1 x2 x3 x4 q1 q2
            go_wp2
            go_roundw
            case rel => exact ⟨j + 1, by omega, by go_num, by rw [Q2.out.1, Int.sub_sub], by rw [Q2.out.2, Int.sub_sub], by trivial⟩
            case measure => simp [intOf]; omega
          · have hge2 : ¬ (j : Int) < (M.length : Int) := by omega
            have e1 : cntB L - cntB (M.take j) = 0 := by rw [List.take_of_length_le (by omega), HF.out.1]; omega
            have e2 : sumB L - sumB (M.take j) = 0 := by rw [List.take_of_length_le (by omega), HF.out.2.1]; omega
            rw [e1, e2]
            clear e1 e2
            have hle : (M.length : Int) ≤ (L.length : Int) := by omega
            go_wp2_with fail
            refine (validBI_at _ _ _ M (x * y) true _ RM.out HF.out.2.2.2).mono ?_
            rintro e w6 ⟨rfl, g1⟩
            have L6 := L4.step g1
            clear L4 g1
            go_wp2
            go_ret
            exact ⟨ret_b (by simp), L6.bel⟩
set_option maxRecDepth 100000 in
set_option linter.unusedVariables false in
theorem liftedFnCoarser (os : Os) (started : os.Started) (H : Type) (enc : TypeId × Value → H) :
    ReturnsInHanded {} Try.checked os 6 .any (Rows.fnCoarserSpec.pre6 enc Try.prog Try.f6 Rows.fnCoarserRow.domain false) (Rows.fnCoarserSpec.post enc Try.prog Try.f6 false true false false) := by
  refine returnsInHanded_of_change (C := Try.checked) own started (by kernel_rfl) Try.func6
    (ChangeSpec.witness6 (enc := enc) (C := Try.checked) false ⟨#[], #[.slice none 0 0], []⟩ 8 (by kernel_rfl) (by kernel_rfl) (by kernel_rfl) (by kernel_rfl)) ?_
  intro W base args ds gs before hval0 hW hcnd _
  have hval : ∀ (j : Nat) t v, Try.f6.params[j]? = some t → args[j]? = some v → Value.okWide Try.prog W .any base t v := hval0
  have hW' := hW
  obtain ⟨p, q, hA0, hV, rfl, hfz, hnd⟩ := hW
  have hA : DataW.TrodAll enc Try.prog W 0 (fun _ => true) true Try.f6.params.toList args.toList ds p := hA0
  rw [Try.params6] at hA hval
  obtain ⟨v0, vs0, d0, ds0, p0, q0, hargs, rfl, rfl, h0, r0⟩ := trodAll_cons hA
  obtain ⟨rfl, rfl, rfl⟩ := trodAll_nil r0
  obtain rfl : args = #[v0] := by cases args; simp_all
  obtain ⟨rfl, rfl⟩ := trodVars_none hV
  obtain ⟨a0, len0, cap0, rfl⟩ := okWide_slice Try.underlying29 (hval 0 29 v0 rfl rfl)
  have k0 := h0
  have lt0 : ∀ x ∈ p0, x.block < W.heap.size := by obtain ⟨m, hm⟩ := k0; exact DataW.trod_lt m _ _ _ hm
  obtain ⟨z0, w0, b0⟩ : ∃ zs : List Int, Rd W 1 a0 len0 cap0 (zs.map (Value.int .u8)) ∧ By zs := by
    obtain ⟨fuel, hf⟩ := h0
    rcases open_ints Try.underlying29 Try.underlying5 (by kernel_rfl) hf with ⟨hcs, _⟩ | ⟨x, l, c, zs, hcs, _, hl, hm, hz, _, hcell, hwz⟩
    · simp [Value.cells] at hcs
      obtain ⟨rfl, rfl, rfl⟩ := hcs
      exact ⟨[], Rd.nil_ _ _, by intro x hx; cases hx⟩
    · simp [Value.cells] at hcs
      obtain ⟨rfl, rfl, rfl⟩ := hcs
      exact ⟨_, rd_of_ints hl hm (by simpa using hz) hcell, by_of_wf hwz⟩
  clear hA0 hval0
  refine (walkFnCoarser a0 len0 cap0 z0 W w0 b0).mono fun e W' ⟨he, bel⟩ => ?_
  subst he
  exact ⟨_, rfl, _, _, _, [], _, [], hW', trodAll_mk1 (shut_bool Try.underlying4 _), (trodAll_cons_mk (Below.trod laidOut (by kernel_rfl) (of_decide_eq_true (by kernel_rfl)) k0 bel lt0) trodAll_mk0), rfl, bel.frame _, fun h => by cases h⟩

theorem closedFnCoarser : joinedFacts Try.prog 6 Try.f6 Rows.fnCoarserSpec Rows.fnCoarserRow = true := by
  unfold joinedFacts
  refine and_yes (and_yes (and_yes (and_yes (and_yes (and_yes (and_yes ?_ mayIn) ?_) ?_) ?_) ?_) ?_) ?_
  rotate_left
  · rw [liftsIn]; kernel_rfl
  · rw [makeIn]; kernel_rfl
  · kernel_rfl
  · kernel_rfl
  · kernel_rfl
  · kernel_rfl
  · kernel_rfl

theorem overFnCoarser : Rows.fnCoarserRow.holds Try.pinned (OpenSpec.ofChange Rows.fnCoarserSpec) :=
  OpenClaim.holds_of_wide 6 Try.f6 rfl rfl rfl rfl rfl rfl rfl ⟨rfl, rfl, rfl, rfl, rfl⟩ rfl rfl rfl rfl rfl (by kernel_rfl) Try.func6 closedFnCoarser
    (of_decide_eq_true (by kernel_rfl)) (by unfold Func.isWrapper; first | (rw [if_pos (by decide +kernel)]; kernel_rfl) | (rw [if_neg (by decide +kernel)]; exact ⟨rfl, rfl⟩))
    (fun os started H enc _ => liftedFnCoarser os started H enc)

/-- the statement -/
theorem provedFnCoarser : Rows.FnCoarserSaid := overFnCoarser
#print axioms provedFnCoarser
end Go.Proofs.Ytmokolccohobpaa
