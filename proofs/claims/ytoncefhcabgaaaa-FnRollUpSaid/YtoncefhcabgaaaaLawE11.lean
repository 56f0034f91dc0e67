/- The law FnRollUp: for every input the law returns true, and nothing that was there has turned. -/
import Derived.Test.YtoncefhcabgaaaaFrame2
import Derived.Test.YtoncefhcabgaaaaBEq
import Derived.Test.YtoncefhcabgaaaaAt
import Derived.Test.YtoncefhcabgaaaaPts
import Derived.Test.YtoncefhcabgaaaaPlainE6
import Derived.Test.YtoncefhcabgaaaaSumP
import Derived.Test.YtoncefhcabgaaaaDrawB2
import Derived.Test.YtoncefhcabgaaaaLive
namespace Go.Proofs.Ytoncefhcabgaaaa
set_option linter.unusedVariables false
open Go.ChangeShapes Go.WideShapes Go.ChangeAt Go.RowKit

attribute [local irreducible] wpQuiet
set_option maxHeartbeats 3200000 in
theorem walkFnRollUp (A : Option Addr) (n c : Nat) (l : List Int) (W : World) (h : Rd W 1 A n c (bc l)) (hb : By l) : Calls Try.prog 7 #[.slice A n c] W fun e w' => e = .returned (.bool true) ∧ Below W.heap.size W w' := by
  by_cases hbig : (1048576 : Int) < (n : Int)
  · clear h hb
    go_enter Try.func7, Try.ntmps7
    go_wp2
    go_ret
    exact ⟨rfl, Below.refl _ _⟩
  go_enter Try.func7, Try.ntmps7
  go_wp2_with fail
  refine (drawRU_any A n c l _ h hb (by omega)).mono ?_
  rintro e w1 ⟨A1, c1, L, x, rfl, hx, o1, -, g1⟩
  obtain ⟨x0, x1⟩ := hx
  have RA := Lib.hid (Rd.own o1)
  have L1 := (Live.zero W).step g1
  obtain ⟨M, hv⟩ : ∃ M, rollV x L = M := ⟨_, rfl⟩
  obtain ⟨v, hw⟩ : ∃ v, validL L = v := ⟨_, rfl⟩
  have HV := Lib.hid hv
  have HW := Lib.hid hw
  clear hv hw h hb o1 g1
  go_wp2_with fail
  refine (rollI_at _ _ _ L x M _ RA.out HV.out).mono ?_
  rintro e w2 ⟨A2, c2, rfl, o1, g1⟩
  have L2 := L1.new o1 g1
  have q2 := g1
  clear L1 o1 g1
  go_wp2_with fail
  refine (rollS_at _ _ _ L x M _ (RA.out.keptN q2) HV.out).mono ?_
  rintro e w3 ⟨A3, c3, rfl, o1, g1⟩
  have L3 := L2.new o1 g1
  have q3 := g_trans q2 g1
  clear L2 o1 g1 q2
  go_wp2_with fail
  refine (equalBuckets_same _ _ _ _ _ _ M _ (L3.rd 1 rfl) (L3.rd 0 rfl)).mono ?_
  rintro e w4 ⟨rfl, g1⟩
  have L4 := (L3.step g1).drop
  have q4 := g_trans q3 g1
  clear L3 g1 q3
  by_cases hz : M.length = 0
  · have hz' : ((M.length : Int) == 0) = true := by rw [hz]; rfl
    have H0 := Lib.hid hz
    clear hz
    go_wp2_with fail
    refine (rollS_at _ _ _ L x M _ (RA.out.keptN q4) HV.out).mono ?_
    rintro e w5 ⟨A5, c5, rfl, o1, g1⟩
    have L5 := L4.new o1 g1
    clear L4 o1 g1
    go_wp2_with fail
    refine (equalBuckets_same _ _ _ _ _ _ M _ (L5.rd 1 rfl) (L5.rd 0 rfl)).mono ?_
    rintro e w6 ⟨rfl, g1⟩
    have L6 := L5.step g1
    clear L5 g1
    go_wp2
    go_ret
    exact ⟨ret_b (by simp), L6.bel⟩
  have hz' : ((M.length : Int) == 0) = false := by rw [beq_eq_false_iff_ne]; omega
  have hq : (1 ≤ x ∧ x ≤ 100) ∧ validL L = true := rollV_ne (W := x) (by rw [HV.out]; intro e; rw [e] at hz; simp at hz)
  have hM : M = rollG x L := by rw [← HV.out]; exact rollV_yes hq
  have hL16 : L.length ≤ 16 := ((validL_iff L).1 hq.2).1
  have HQ := Lib.hid hq
  have HLV : Hid (∀ p ∈ L, -1000 ≤ p.2 ∧ p.2 ≤ 1000) := fun p hp => by have := ((validL_iff L).1 hq.2).2.1 p hp; omega
  have hsm : smallB M := by rw [← HV.out]; exact roll_small
  have HS := Lib.hid hsm
  have hM16 := hsm.1
  have HC := Lib.hid (show cntB M = L.length ∧ sumB M = sumV L by rw [hM]; exact roll_cnt)
  have HO := Lib.hid (show okW x M = true by rw [hM]; exact roll_ok hq.1 hq.2)
  obtain ⟨xq, -⟩ := hq
  have R4 := Lib.hid (RA.out.keptN q4)
  have RM := Lib.hid (show Rd w4 5 A2 M.length c2 (bkc M) from L4.rd 0 rfl)
  have G4 := Lib.hid L4.grown
  clear hM hsm hz L4 q4 RA
  go_wp2
  go_loopw [6, 7, 8] (fun a s i wr => ∃ k : Nat, k ≤ M.length ∧ i = .int .i64 k ∧ a = .int .i64 (cntB (M.take k)) ∧ s = .int .i64 (sumB (M.take k)) ∧ w4.grownBy wr none) (fun _ _ i _ => M.length - (intOf i).toNat)
  case atStart => exact ⟨0, Nat.zero_le _, rfl, by simp [cntB], by simp [sumB], g_refl _ _⟩
  case round =>
    obtain ⟨k, hk, rfl, rfl, rfl, hg⟩ := hrel
    by_cases hlt : k < M.length
    · obtain ⟨⟨s, ct, u, lo, hi⟩, hx, -⟩ := get_ex (l := M) (i := k) hlt
      have hmem : (s, ct, u, lo, hi) ∈ rollV x L := by rw [HV.out]; exact List.mem_of_getElem? hx
      obtain ⟨⟨-, s0, s1⟩, ⟨t1, t2, -⟩, p16, pv⟩ := part_facts hmem
      obtain ⟨P, hP⟩ : ∃ P, rangeL L s (s + x) = P := ⟨_, rfl⟩
      rw [hP] at t1 t2 p16 pv
      simp only at t1 t2
      have b0 := pre_bd HS.out k
      have b1' := pre_bd HS.out (k + 1)
      have q2 := cnt_snoc hx
      obtain ⟨b1, o1, rfl, hc1⟩ := (RM.out.keptN hg).cells hlt
      obtain ⟨y0, y1, y2, y3, y4⟩ := bkc_at hx
      have d0 := hc1 _ _ y0
      have d1 := hc1 _ _ y1
      have d2 := hc1 _ _ y2
      simp only [Nat.add_zero, ← Nat.add_assoc] at d0 d1 d2
      have hlt' : (k : Int) < (M.length : Int) := by omega
      have hw1 : IntKind.i64.wrap (s + x) = s + x := IntWalk.i64_in _ (by omega)
      have hw2 : IntKind.i64.wrap (cntB (M.take k) + ct) = cntB (M.take k) + ct := IntWalk.i64_in _ (by omega)
      have hw3 : IntKind.i64.wrap (sumB (M.take k) + u) = sumB (M.take k) + u := IntWalk.i64_in _ (by omega)
      have Q2 := Lib.hid q2
      have HP := Lib.hid hP
      have HPV := Lib.hid pv
      have T2 := Lib.hid t2
      clear hx hc1 y0 y1 y2 y3 y4 b0 b1' q2 hP pv t2 hmem
      have RL := Lib.hid (R4.out.keptN (g_trans hg (g_drew wr none)))
      have D12 := Lib.hid (And.intro d1 d2)
      clear d1 d2
      go_wp2_with fail
      go_region_held3 (fun w' => w'.cell? ⟨b1, o1 + k * 5, none⟩ = some (.int .i64 s))
        (first | go_keep | exact g7.cell (by simp; exact d0) (by simp))
        (first | (go_at_call 17; refine (rangeI_at2 _ _ _ L s (s + x) P _ RL.out HP.out).mono ?_; rintro e w7 ⟨A7, c7, rfl, o7, g7⟩))
      have G7 := Lib.hid (g_trans hg (g_trans (g_drew wr none) g7))
      have f1 := (g_trans (g_drew wr none) g7).cell D12.out.1 (by simp)
      have f2 := (g_trans (g_drew wr none) g7).cell D12.out.2 (by simp)
      have R7 := Lib.hid (Rd.own o7)
      have hgw1 := gw_cellW f1
      have hgw2 := gw_cellW f2
      subst t1
      have e1 : ((P.length : Int) == (P.length : Int)) = true := by simp
      have e2 : (u == u) = true := by simp
      have hP16 : P.length ≤ 1000 := by omega
      clear d0 o7 g7 hg RL D12
      go_wp2_with fail
      refine wp_region_gw (W := w7) (by kernel_rfl) (by kernel_rfl) (g_refl _ _) ?_
      repeat (quiet_step ((go_at_call 18; exact gw_call (sumOf_at _ _ _ P u _ (gw_kept R7.out) hP16 HPV.out T2.out))))
      refine wpQuiet_nil ?_
      rintro _ ⟨⟨w8, hg8⟩, rfl⟩
      have G8 := g_trans G7.out hg8
      clear hgw1 hgw2 hg8 f1 f2
      go_wp2
      go_roundw
      case rel => exact ⟨k + 1, by omega, by go_num, by rw [Q2.out.1], by rw [Q2.out.2], G8⟩
      case measure => simp [intOf]; omega
    · have hge : ¬ (k : Int) < (M.length : Int) := by omega
      have e1 : cntB (M.take k) = cntB M := by rw [List.take_of_length_le (by omega)]
      have e2 : sumB (M.take k) = sumB M := by rw [List.take_of_length_le (by omega)]
      rw [e1, e2, HC.out.1, HC.out.2]
      clear e1 e2
      go_wp2_with fail
      refine (sumOf_at _ _ _ L (sumV L) _ (R4.out.keptN hg) (by omega) HLV.out rfl).mono ?_
      rintro e w7 ⟨rfl, g7⟩
      have G7 := g_trans hg g7
      clear hg g7
      go_wp2_with fail
      refine (validBI_at _ _ _ M x true _ (RM.out.keptN G7) HO.out).mono ?_
      rintro e w8 ⟨rfl, g8⟩
      have hbel := g_below (g_trans G4.out (g_trans G7 g8)) (Nat.le_refl _) (by simp)
      clear G7 g8
      go_wp2
      go_ret
      exact ⟨ret_b (by simp), hbel⟩
set_option maxRecDepth 100000 in
set_option linter.unusedVariables false in
theorem liftedFnRollUp (os : Os) (started : os.Started) (H : Type) (enc : TypeId × Value → H) :
    ReturnsInHanded {} Try.checked os 7 .any (Rows.fnRollUpSpec.pre6 enc Try.prog Try.f7 Rows.fnRollUpRow.domain false) (Rows.fnRollUpSpec.post enc Try.prog Try.f7 false true false false) := by
  refine returnsInHanded_of_change (C := Try.checked) own started (by kernel_rfl) Try.func7
    (ChangeSpec.witness6 (enc := enc) (C := Try.checked) false ⟨#[], #[.slice none 0 0], []⟩ 8 (by kernel_rfl) (by kernel_rfl) (by kernel_rfl) (by kernel_rfl)) ?_
  intro W base args ds gs before hval0 hW hcnd _
  have hval : ∀ (j : Nat) t v, Try.f7.params[j]? = some t → args[j]? = some v → Value.okWide Try.prog W .any base t v := hval0
  have hW' := hW
  obtain ⟨p, q, hA0, hV, rfl, hfz, hnd⟩ := hW
  have hA : DataW.TrodAll enc Try.prog W 0 (fun _ => true) true Try.f7.params.toList args.toList ds p := hA0
  rw [Try.params7] at hA hval
  obtain ⟨v0, vs0, d0, ds0, p0, q0, hargs, rfl, rfl, h0, r0⟩ := trodAll_cons hA
  obtain ⟨rfl, rfl, rfl⟩ := trodAll_nil r0
  obtain rfl : args = #[v0] := by cases args; simp_all
  obtain ⟨rfl, rfl⟩ := trodVars_none hV
  obtain ⟨a0, len0, cap0, rfl⟩ := okWide_slice Try.underlying22 (hval 0 22 v0 rfl rfl)
  have k0 := h0
  have lt0 : ∀ x ∈ p0, x.block < W.heap.size := by obtain ⟨m, hm⟩ := k0; exact DataW.trod_lt m _ _ _ hm
  obtain ⟨z0, w0, b0⟩ : ∃ zs : List Int, Rd W 1 a0 len0 cap0 (zs.map (Value.int .u8)) ∧ By zs := by
    obtain ⟨fuel, hf⟩ := h0
    rcases open_ints Try.underlying22 Try.underlying5 (by kernel_rfl) hf with ⟨hcs, _⟩ | ⟨x, l, c, zs, hcs, _, hl, hm, hz, _, hcell, hwz⟩
    · simp [Value.cells] at hcs
      obtain ⟨rfl, rfl, rfl⟩ := hcs
      exact ⟨[], Rd.nil_ _ _, by intro x hx; cases hx⟩
    · simp [Value.cells] at hcs
      obtain ⟨rfl, rfl, rfl⟩ := hcs
      exact ⟨_, rd_of_ints hl hm (by simpa using hz) hcell, by_of_wf hwz⟩
  clear hA0 hval0
  refine (walkFnRollUp a0 len0 cap0 z0 W w0 b0).mono fun e W' ⟨he, bel⟩ => ?_
  subst he
  exact ⟨_, rfl, _, _, _, [], _, [], hW', trodAll_mk1 (shut_bool Try.underlying4 _), (trodAll_cons_mk (Below.trod laidOut (by kernel_rfl) (of_decide_eq_true (by kernel_rfl)) k0 bel lt0) trodAll_mk0), rfl, bel.frame _, fun h => by cases h⟩

theorem closedFnRollUp : joinedFacts Try.prog 7 Try.f7 Rows.fnRollUpSpec Rows.fnRollUpRow = true := by
  unfold joinedFacts
  refine and_yes (and_yes (and_yes (and_yes (and_yes (and_yes (and_yes ?_ mayIn) ?_) ?_) ?_) ?_) ?_) ?_
  rotate_left
  · rw [liftsIn]; kernel_rfl
  · rw [makeIn]; kernel_rfl
  · kernel_rfl
  · kernel_rfl
  · kernel_rfl
  · kernel_rfl
  · kernel_rfl

theorem overFnRollUp : Rows.fnRollUpRow.holds Try.pinned (OpenSpec.ofChange Rows.fnRollUpSpec) :=
  OpenClaim.holds_of_wide 7 Try.f7 rfl rfl rfl rfl rfl rfl rfl ⟨rfl, rfl, rfl, rfl, rfl⟩ rfl rfl rfl rfl rfl (by kernel_rfl) Try.func7 closedFnRollUp
    (of_decide_eq_true (by kernel_rfl)) (by unfold Func.isWrapper; first | (rw [if_pos (by decide +kernel)]; kernel_rfl) | (rw [if_neg (by decide +kernel)]; exact ⟨rfl, rfl⟩))
    (fun os started H enc _ => liftedFnRollUp os started H enc)

/-- the statement -/
theorem provedFnRollUp : Rows.FnRollUpSaid := overFnRollUp
#print axioms provedFnRollUp
end Go.Proofs.Ytoncefhcabgaaaa
