/- The law FnMergeBuckets: for every input the law returns true, and nothing that was there has turned. -/
import Derived.Test.YtoncefhcabgaaaaFrame2
import Derived.Test.YtoncefhcabgaaaaBEq
import Derived.Test.YtoncefhcabgaaaaAt
import Derived.Test.YtoncefhcabgaaaaPlainE4
import Derived.Test.YtoncefhcabgaaaaDrawB2
import Derived.Test.YtoncefhcabgaaaaLive
namespace Go.Proofs.Ytoncefhcabgaaaa
set_option linter.unusedVariables false
open Go.ChangeShapes Go.WideShapes Go.ChangeAt Go.RowKit

set_option maxHeartbeats 3200000 in
theorem walkFnMergeBuckets (A : Option Addr) (n c : Nat) (l : List Int) (W : World) (h : Rd W 1 A n c (bc l)) (hb : By l) : Calls Try.prog 4 #[.slice A n c] W fun e w' => e = .returned (.bool true) ∧ Below W.heap.size W w' := by
  by_cases hbig : (1048576 : Int) < (n : Int)
  · clear h hb
    go_enter Try.func4, Try.ntmps4
    go_wp2
    go_ret
    exact ⟨rfl, Below.refl _ _⟩
  go_enter Try.func4, Try.ntmps4
  go_wp2_with fail
  refine (drawMB_any A n c l _ h hb (by omega)).mono ?_
  rintro e w1 ⟨A1, c1, L, B1, d1, K, x, rfl, -, ⟨o1, hL⟩, ⟨o2, hK⟩, g1⟩
  have RA := Lib.hid (Rd.own o1)
  have RB := Lib.hid (Rd.own o2)
  have L1 := (Live.zero W).step g1
  obtain ⟨M, b, hv⟩ : ∃ M b, mrgV x L K = (M, b) := ⟨_, _, rfl⟩
  have HV := Lib.hid hv
  clear hv h hb o1 o2 g1
  go_wp2_with fail
  refine (mergeI_at _ _ _ _ _ _ L K x M b _ RA.out RB.out HV.out).mono ?_
  rintro e w2 ⟨A2, c2, rfl, o1, g1⟩
  have L2 := L1.new o1 g1
  have q2 := g1
  clear L1 o1 g1
  go_wp2_with fail
  refine (mergeS_at _ _ _ _ _ _ L K x M b _ (RA.out.keptN q2) (RB.out.keptN q2) HV.out).mono ?_
  rintro e w3 ⟨A3, c3, rfl, o1, g1⟩
  have L3 := L2.new o1 g1
  have q3 := g_trans q2 g1
  clear L2 o1 g1 q2
  go_wp2_with fail
  refine (equalBuckets_same _ _ _ _ _ _ M _ (L3.rd 1 rfl) (L3.rd 0 rfl)).mono ?_
  rintro e w4 ⟨rfl, g1⟩
  have L4 := L3.step g1
  have q4 := g_trans q3 g1
  clear L3 g1 q3
  cases b with
  | false =>
    go_wp2_with fail
    refine (equalBuckets_same _ _ _ _ _ _ M _ (L4.rd 1 rfl) (L4.rd 0 rfl)).mono ?_
    rintro e w6 ⟨rfl, g1⟩
    have L6 := L4.step g1
    clear L4 g1
    go_wp2
    go_ret
    exact ⟨ret_b (by simp), L6.bel⟩
  | true =>
    have hf := mrg_fine HV.out
    have hf2 := mrg_fine2 HV.out
    have SL := Lib.hid (okW_small hf2.1)
    have SK := Lib.hid (okW_small hf2.2)
    have SM := Lib.hid (okW_small hf.2.2)
    have HF := Lib.hid hf
    have RL := Lib.hid (RA.out.keptN q4)
    have RK := Lib.hid (RB.out.keptN q4)
    have RM := Lib.hid (show Rd w4 5 A2 M.length c2 (bkc M) from L4.rd 1 rfl)
    have hM16 : M.length ≤ 16 := SM.out.1
    clear hf hf2 q4 RA RB
    go_wp2
    go_loopw [10, 11] (fun a i wr => ∃ k : Nat, k ≤ L.length ∧ i = .int .i64 k ∧ a = .int .i64 (cntB (L.take k)) ∧ wr = w4) (fun _ i _ => L.length - (intOf i).toNat)
    case atStart => exact ⟨0, Nat.zero_le _, rfl, by simp [cntB], rfl⟩
    case round =>
      obtain ⟨k, hk, rfl, rfl, hwrk⟩ := hrel
      subst hwrk
      have pk := pre_bd SL.out k
      obtain ⟨⟨pk1, pk2⟩, -, -⟩ := pk
      by_cases hltk : k < L.length
      · obtain ⟨⟨s, ct, u, lo, hi⟩, hx, hdx⟩ := get_ex (l := L) (i := k) hltk
        have q1 := pre_bd SL.out (k + 1)
        have q2 := (cnt_snoc hx).1
        obtain ⟨b1, o1, rfl, hc1⟩ := RL.out.cells hltk
        obtain ⟨x0, x1, x2, x3, x4⟩ := bkc_at hx
        have c1' := hc1 _ _ x1
        simp only [Nat.add_zero, ← Nat.add_assoc] at c1'
        have hlt' : (k : Int) < (L.length : Int) := by omega
        have hw2 : IntKind.i64.wrap (cntB (L.take k) + ct) = cntB (L.take k) + ct := IntWalk.i64_in _ (by omega)
        have Q2 := Lib.hid q2
        clear hx hdx hc1 x0 x1 x2 x3 x4 q1 q2
        go_wp2
        go_roundw
        case rel => exact ⟨k + 1, by omega, by go_num, by rw [Q2.out], by trivial⟩
        case measure => simp [intOf]; omega
      · have hgek : ¬ (k : Int) < (L.length : Int) := by omega
        have e1 : cntB (L.take k) = cntB L := by rw [List.take_of_length_le (by omega)]
        rw [e1] at pk1 pk2
        rw [e1]
        clear e1
        obtain ⟨wo, hwo⟩ : ∃ wo : World, wo = wr := ⟨_, rfl⟩
        rw [← hwo] at L4 RL RK RM ⊢
        clear hwo
        go_wp2
        go_loopw [12, 10] (fun i a wr => ∃ k : Nat, k ≤ K.length ∧ i = .int .i64 k ∧ a = .int .i64 (cntB L + cntB (K.take k)) ∧ wr = wo) (fun i _ _ => K.length - (intOf i).toNat)
        case atStart => exact ⟨0, Nat.zero_le _, rfl, by simp [cntB], rfl⟩
        case round =>
          obtain ⟨j, hj, rfl, rfl, hwrj⟩ := hrel
          subst hwrj
          have pj := pre_bd SK.out j
          obtain ⟨⟨pj1, pj2⟩, -, -⟩ := pj
          by_cases hltj : j < K.length
          · obtain ⟨⟨s, ct, u, lo, hi⟩, hx, hdx⟩ := get_ex (l := K) (i := j) hltj
            have q1 := pre_bd SK.out (j + 1)
            have q2 := (cnt_snoc hx).1
            obtain ⟨b1, o1, rfl, hc1⟩ := RK.out.cells hltj
            obtain ⟨x0, x1, x2, x3, x4⟩ := bkc_at hx
            have c1' := hc1 _ _ x1
            simp only [Nat.add_zero, ← Nat.add_assoc] at c1'
            have hlt' : (j : Int) < (K.length : Int) := by omega
            have hw2 : IntKind.i64.wrap (cntB L + cntB (K.take j) + ct) = cntB L + cntB (K.take j) + ct := IntWalk.i64_in _ (by omega)
            have Q2 := Lib.hid q2
            clear hx hdx hc1 x0 x1 x2 x3 x4 q1 q2
            go_wp2
            go_roundw
            case rel => exact ⟨j + 1, by omega, by go_num, by rw [Q2.out, Int.add_assoc], by trivial⟩
            case measure => simp [intOf]; omega
          · have hgej : ¬ (j : Int) < (K.length : Int) := by omega
            have e1 : cntB (K.take j) = cntB K := by rw [List.take_of_length_le (by omega)]
            rw [e1] at pj1 pj2
            rw [e1]
            clear e1
            obtain ⟨wp, hwp⟩ : ∃ wp : World, wp = wr := ⟨_, rfl⟩
            rw [← hwp] at L4 RL RK RM ⊢
            clear hwp
            go_wp2
            go_loopw [13, 10] (fun i a wr => ∃ k : Nat, k ≤ M.length ∧ i = .int .i64 k ∧ a = .int .i64 (cntB L + cntB K - cntB (M.take k)) ∧ wr = wp) (fun i _ _ => M.length - (intOf i).toNat)
            case atStart => exact ⟨0, Nat.zero_le _, rfl, by simp [cntB], rfl⟩
            case round =>
              obtain ⟨m, hm, rfl, rfl, hwrm⟩ := hrel
              subst hwrm
              have pm := pre_bd SM.out m
              obtain ⟨⟨pm1, pm2⟩, -, -⟩ := pm
              by_cases hltm : m < M.length
              · obtain ⟨⟨s, ct, u, lo, hi⟩, hx, hdx⟩ := get_ex (l := M) (i := m) hltm
                have q1 := pre_bd SM.out (m + 1)
                have q2 := (cnt_snoc hx).1
                obtain ⟨b1, o1, rfl, hc1⟩ := RM.out.cells hltm
                obtain ⟨x0, x1, x2, x3, x4⟩ := bkc_at hx
                have c1' := hc1 _ _ x1
                simp only [Nat.add_zero, ← Nat.add_assoc] at c1'
                have hlt' : (m : Int) < (M.length : Int) := by omega
                have hw2 : IntKind.i64.wrap (cntB L + cntB K - cntB (M.take m) - ct) = cntB L + cntB K - cntB (M.take m) - ct := IntWalk.i64_in _ (by omega)
                have Q2 := Lib.hid q2
                clear hx hdx hc1 x0 x1 x2 x3 x4 q1 q2
                go_wp2
                go_roundw
                case rel => exact ⟨m + 1, by omega, by go_num, by rw [Q2.out, Int.sub_sub], by trivial⟩
                case measure => simp [intOf]; omega
              · have hgem : ¬ (m : Int) < (M.length : Int) := by omega
                have e1 : cntB (M.take m) = cntB M := by rw [List.take_of_length_le (by omega)]
                rw [e1] at pm1 pm2
                rw [e1]
                clear e1
                have e2 : cntB L + cntB K - cntB M = 0 := by rw [HF.out.1]; omega
                rw [e2]
                clear e2
                go_wp2_with fail
                refine (mergeI_at _ _ _ _ _ _ K L x M true _ RK.out RL.out HF.out.2.1).mono ?_
                rintro e w6 ⟨A6, c6, rfl, o1, g1⟩
                have L6 := L4.new o1 g1
                clear L4 o1 g1
                go_wp2_with fail
                refine (equalBuckets_same _ _ _ _ _ _ M _ (L6.rd 0 rfl) (L6.rd 2 rfl)).mono ?_
                rintro e w7 ⟨rfl, g1⟩
                have L7 := L6.step g1
                clear L6 g1
                go_wp2_with fail
                refine (validBI_at _ _ _ M x true _ (L7.rd 2 rfl) HF.out.2.2).mono ?_
                rintro e w8 ⟨rfl, g1⟩
                have L8 := L7.step g1
                clear L7 g1
                go_wp2
                go_ret
                exact ⟨ret_b (by simp), L8.bel⟩
set_option maxRecDepth 100000 in
set_option linter.unusedVariables false in
theorem liftedFnMergeBuckets (os : Os) (started : os.Started) (H : Type) (enc : TypeId × Value → H) :
    ReturnsInHanded {} Try.checked os 4 .any (Rows.fnMergeBucketsSpec.pre6 enc Try.prog Try.f4 Rows.fnMergeBucketsRow.domain false) (Rows.fnMergeBucketsSpec.post enc Try.prog Try.f4 false true false false) := by
  refine returnsInHanded_of_change (C := Try.checked) own started (by kernel_rfl) Try.func4
    (ChangeSpec.witness6 (enc := enc) (C := Try.checked) false ⟨#[], #[.slice none 0 0], []⟩ 8 (by kernel_rfl) (by kernel_rfl) (by kernel_rfl) (by kernel_rfl)) ?_
  intro W base args ds gs before hval0 hW hcnd _
  have hval : ∀ (j : Nat) t v, Try.f4.params[j]? = some t → args[j]? = some v → Value.okWide Try.prog W .any base t v := hval0
  have hW' := hW
  obtain ⟨p, q, hA0, hV, rfl, hfz, hnd⟩ := hW
  have hA : DataW.TrodAll enc Try.prog W 0 (fun _ => true) true Try.f4.params.toList args.toList ds p := hA0
  rw [Try.params4] at hA hval
  obtain ⟨v0, vs0, d0, ds0, p0, q0, hargs, rfl, rfl, h0, r0⟩ := trodAll_cons hA
  obtain ⟨rfl, rfl, rfl⟩ := trodAll_nil r0
  obtain rfl : args = #[v0] := by cases args; simp_all
  obtain ⟨rfl, rfl⟩ := trodVars_none hV
  obtain ⟨a0, len0, cap0, rfl⟩ := okWide_slice Try.underlying22 (hval 0 22 v0 rfl rfl)
  have k0 := h0
  have lt0 : ∀ x ∈ p0, x.block < W.heap.size := by obtain ⟨m, hm⟩ := k0; exact DataW.trod_lt m _ _ _ hm
  obtain ⟨z0, w0, b0⟩ : ∃ zs : List Int, Rd W 1 a0 len0 cap0 (zs.map (Value.int .u8)) ∧ By zs := by
    obtain ⟨fuel, hf⟩ := h0
    rcases open_ints Try.underlying22 Try.underlying5 (by kernel_rfl) hf with ⟨hcs, _⟩ | ⟨x, l, c, zs, hcs, _, hl, hm, hz, _, hcell, hwz⟩
    · simp [Value.cells] at hcs
      obtain ⟨rfl, rfl, rfl⟩ := hcs
      exact ⟨[], Rd.nil_ _ _, by intro x hx; cases hx⟩
    · simp [Value.cells] at hcs
      obtain ⟨rfl, rfl, rfl⟩ := hcs
      exact ⟨_, rd_of_ints hl hm (by simpa using hz) hcell, by_of_wf hwz⟩
  clear hA0 hval0
  refine (walkFnMergeBuckets a0 len0 cap0 z0 W w0 b0).mono fun e W' ⟨he, bel⟩ => ?_
  subst he
  exact ⟨_, rfl, _, _, _, [], _, [], hW', trodAll_mk1 (shut_bool Try.underlying4 _), (trodAll_cons_mk (Below.trod laidOut (by kernel_rfl) (of_decide_eq_true (by kernel_rfl)) k0 bel lt0) trodAll_mk0), rfl, bel.frame _, fun h => by cases h⟩

theorem closedFnMergeBuckets : joinedFacts Try.prog 4 Try.f4 Rows.fnMergeBucketsSpec Rows.fnMergeBucketsRow = true := by
  unfold joinedFacts
  refine and_yes (and_yes (and_yes (and_yes (and_yes (and_yes (and_yes ?_ mayIn) ?_) ?_) ?_) ?_) ?_) ?_
  rotate_left
  · rw [liftsIn]; kernel_rfl
  · rw [makeIn]; kernel_rfl
  · kernel_rfl
  · kernel_rfl
  · kernel_rfl
  · kernel_rfl
  · kernel_rfl

theorem overFnMergeBuckets : Rows.fnMergeBucketsRow.holds Try.pinned (OpenSpec.ofChange Rows.fnMergeBucketsSpec) :=
  OpenClaim.holds_of_wide 4 Try.f4 rfl rfl rfl rfl rfl rfl rfl ⟨rfl, rfl, rfl, rfl, rfl⟩ rfl rfl rfl rfl rfl (by kernel_rfl) Try.func4 closedFnMergeBuckets
    (of_decide_eq_true (by kernel_rfl)) (by unfold Func.isWrapper; first | (rw [if_pos (by decide +kernel)]; kernel_rfl) | (rw [if_neg (by decide +kernel)]; exact ⟨rfl, rfl⟩))
    (fun os started H enc _ => liftedFnMergeBuckets os started H enc)

/-- the statement -/
theorem provedFnMergeBuckets : Rows.FnMergeBucketsSaid := overFnMergeBuckets
#print axioms provedFnMergeBuckets
end Go.Proofs.Ytoncefhcabgaaaa
