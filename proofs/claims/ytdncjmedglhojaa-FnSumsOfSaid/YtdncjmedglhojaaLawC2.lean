/- The laws FnDeltasOf and FnSumsOf: for every input the law returns true, and nothing that was there has turned. -/
import Derived.Test.YtdncjmedglhojaaFrame2
import Derived.Test.YtdncjmedglhojaaColl
import Derived.Test.YtdncjmedglhojaaEq
import Derived.Test.YtdncjmedglhojaaDrawN
import Derived.Test.YtdncjmedglhojaaPlainC2
import Derived.Test.YtdncjmedglhojaaLive
namespace Go.Proofs.Ytdncjmedglhojaa
set_option linter.unusedVariables false
open Go.ChangeShapes Go.WideShapes Go.ChangeAt Go.RowKit

set_option maxHeartbeats 1600000 in
theorem walkFnDeltasOf (A : Option Addr) (n c : Nat) (l : List Int) (W : World) (h : Rd W 1 A n c (bc l)) (hb : By l) : Calls Try.prog 11 #[.slice A n c] W fun e w' => e = .returned (.bool true) ∧ Below W.heap.size W w' := by
  by_cases hbig : (1048576 : Int) < (n : Int)
  · clear h hb
    go_enter Try.func11, Try.ntmps11
    go_wp2
    go_ret
    exact ⟨rfl, Below.refl _ _⟩
  go_enter Try.func11, Try.ntmps11
  go_wp2_with fail
  refine (drawDel_any A n c l _ h hb (by omega)).mono ?_
  rintro e w1 ⟨A1, c1, L, rfl, h1, hm, g1⟩
  have RA := Lib.hid h1
  have L1 := (Live.zero W).step g1
  have hL18 := hm.1
  obtain ⟨M, hv⟩ : ∃ M, delV L = M := ⟨_, rfl⟩
  have HV := Lib.hid hv
  clear hv h hb h1 hm g1
  go_wp2_with fail
  refine (deltasI_at _ _ _ L M _ RA.out HV.out).mono ?_
  rintro e w2 ⟨A2, c2, rfl, o1, g1⟩
  have L2 := L1.new o1 g1
  have q2 := g1
  clear L1 o1 g1
  go_wp2_with fail
  refine (deltasS_at _ _ _ L M _ (RA.out.keptN q2) HV.out).mono ?_
  rintro e w3 ⟨A3, c3, rfl, o1, g1⟩
  have L3 := L2.new o1 g1
  have q3 := g_trans q2 g1
  clear L2 o1 g1 q2
  go_wp2_with fail
  refine (equalInts_same _ _ _ _ _ _ M _ (L3.rd 1 rfl) (L3.rd 0 rfl)).mono ?_
  rintro e w4 ⟨rfl, g1⟩
  have L4 := (L3.step g1).drop
  have q4 := g_trans q3 g1
  clear L3 g1 q3
  by_cases hz : M.length = 0
  · have hz' : ((M.length : Int) == 0) = true := by rw [hz]; rfl
    have H0 := Lib.hid hz
    clear hz
    go_wp2_with fail
    refine (deltasS_at _ _ _ L M _ (RA.out.keptN q4) HV.out).mono ?_
    rintro e w5 ⟨A5, c5, rfl, o1, g1⟩
    have L5 := L4.new o1 g1
    clear L4 o1 g1
    go_wp2_with fail
    refine (equalInts_same _ _ _ _ _ _ M _ (L5.rd 1 rfl) (L5.rd 0 rfl)).mono ?_
    rintro e w6 ⟨rfl, g1⟩
    have L6 := L5.step g1
    clear L5 g1
    go_wp2
    go_ret
    exact ⟨ret_b (by simp), L6.bel⟩
  have hz' : ((M.length : Int) == 0) = false := by rw [beq_eq_false_iff_ne]; omega
  have hok : okN L = true := by
    cases hk : okN L with
    | true => rfl
    | false =>
      exfalso
      have := HV.out
      rw [delV_no hk] at this
      subst this
      simp at hz
  have hM := HV.out
  rw [delV_yes hok] at hM
  have h16 : M.length ≤ 16 := by rw [← hM, del_len]; exact (okN_iff.1 hok).1
  have HM := Lib.hid hM
  have HK := Lib.hid hok
  have RM := Lib.hid (show Rd w4 1 A2 M.length c2 (ic M) from L4.rd 0 rfl)
  clear hM hok hz
  go_wp2
  go_loopw [5] (fun i wr => ∃ k : Nat, k ≤ M.length ∧ i = .int .i64 k ∧ wr = w4 ∧ Hid (∀ x ∈ M.take k, -100000 ≤ x ∧ x ≤ 100000)) (fun i _ => M.length - (Go.RowKit.intOf i).toNat)
  case atStart => exact ⟨0, Nat.zero_le _, rfl, rfl, fun x hx => by simp at hx⟩
  case round =>
    obtain ⟨k, hk, rfl, hwr, hI⟩ := hrel
    subst hwr
    by_cases hlt : k < M.length
    · obtain ⟨x, hx, hdx⟩ := get_ex (l := M) (i := k) hlt
      obtain ⟨b1, o1, rfl, hc1⟩ := RM.out.cells hlt
      have cx := hc1 _ _ (ic_at hx)
      have hlt' : (k : Int) < (M.length : Int) := by omega
      by_cases b2 : 100000 < x
      · have d2 : decide (100000 < x) = true := by simpa using b2
        clear hc1 hx hdx hI
        go_wp2
        go_ret
        exact ⟨rfl, L4.bel⟩
      have d2 : decide (100000 < x) = false := by simpa using b2
      by_cases b1' : x < -100000
      · have d1 : decide (x < -100000) = true := by simpa using b1'
        clear hc1 hx hdx hI
        go_wp2
        go_ret
        exact ⟨rfl, L4.bel⟩
      have d1 : decide (x < -100000) = false := by simpa using b1'
      have HI : Hid (∀ y ∈ M.take (k + 1), -100000 ≤ y ∧ y ≤ 100000) := mem_snoc (P := fun y => -100000 ≤ y ∧ y ≤ 100000) hx hI.out ⟨by omega, by omega⟩
      clear hc1 hx hdx hI
      go_wp2
      go_roundw
      case rel => exact ⟨k + 1, by omega, by go_num, by first | rfl | trivial, HI⟩
      case measure => simp [Go.RowKit.intOf]; omega
    · have hge : ¬ (k : Int) < (M.length : Int) := by omega
      have hokM : okN M = true := by
        refine okN_iff.2 ⟨h16, fun x hx => hI.out x ?_⟩
        rw [List.take_of_length_le (by omega)]
        exact hx
      have HB := HM.out
      rw [← HB] at hokM
      have hback := del_fine HK.out hokM
      rw [HB] at hback
      have HS := Lib.hid hback
      clear hback HB hokM hI
      go_wp2_with fail
      refine (sumsI_at _ _ _ M L _ RM.out HS.out).mono ?_
      rintro e w5 ⟨A5, c5, rfl, o1, g1⟩
      have L5 := L4.new o1 g1
      have q5 := g_trans q4 g1
      clear L4 o1 g1 q4
      go_wp2_with fail
      refine (equalInts_same _ _ _ _ _ _ L _ (L5.rd 0 rfl) (RA.out.keptN q5)).mono ?_
      rintro e w6 ⟨rfl, g1⟩
      have L6 := L5.step g1
      clear L5 g1
      go_wp2
      go_ret
      exact ⟨ret_b (by simp), L6.bel⟩
set_option maxRecDepth 100000 in
set_option linter.unusedVariables false in
theorem liftedFnDeltasOf (os : Os) (started : os.Started) (H : Type) (enc : TypeId × Value → H) :
    ReturnsInHanded {} Try.checked os 11 .any (Rows.fnDeltasOfSpec.pre6 enc Try.prog Try.f11 Rows.fnDeltasOfRow.domain false) (Rows.fnDeltasOfSpec.post enc Try.prog Try.f11 false true false false) := by
  refine returnsInHanded_of_change (C := Try.checked) own started (by kernel_rfl) Try.func11
    (ChangeSpec.witness6 (enc := enc) (C := Try.checked) false ⟨#[], #[.slice none 0 0], []⟩ 8 (by kernel_rfl) (by kernel_rfl) (by kernel_rfl) (by kernel_rfl)) ?_
  intro W base args ds gs before hval0 hW hcnd _
  have hval : ∀ (j : Nat) t v, Try.f11.params[j]? = some t → args[j]? = some v → Value.okWide Try.prog W .any base t v := hval0
  have hW' := hW
  obtain ⟨p, q, hA0, hV, rfl, hfz, hnd⟩ := hW
  have hA : DataW.TrodAll enc Try.prog W 0 (fun _ => true) true Try.f11.params.toList args.toList ds p := hA0
  rw [Try.params11] at hA hval
  obtain ⟨v0, vs0, d0, ds0, p0, q0, hargs, rfl, rfl, h0, r0⟩ := trodAll_cons hA
  obtain ⟨rfl, rfl, rfl⟩ := trodAll_nil r0
  obtain rfl : args = #[v0] := by cases args; simp_all
  obtain ⟨rfl, rfl⟩ := trodVars_none hV
  obtain ⟨a0, len0, cap0, rfl⟩ := okWide_slice Try.underlying22 (hval 0 22 v0 rfl rfl)
  have k0 := h0
  have lt0 : ∀ x ∈ p0, x.block < W.heap.size := by obtain ⟨m, hm⟩ := k0; exact DataW.trod_lt m _ _ _ hm
  obtain ⟨z0, w0, b0⟩ : ∃ zs : List Int, Rd W 1 a0 len0 cap0 (zs.map (Value.int .u8)) ∧ By zs := by
    obtain ⟨fuel, hf⟩ := h0
    rcases open_ints Try.underlying22 Try.underlying5 (by kernel_rfl) hf with ⟨hcs, _⟩ | ⟨x, l, c, zs, hcs, _, hl, hm, hz, _, hcell, hwz⟩
    · simp [Value.cells] at hcs
      obtain ⟨rfl, rfl, rfl⟩ := hcs
      exact ⟨[], Rd.nil_ _ _, by intro x hx; cases hx⟩
    · simp [Value.cells] at hcs
      obtain ⟨rfl, rfl, rfl⟩ := hcs
      exact ⟨_, rd_of_ints hl hm (by simpa using hz) hcell, by_of_wf hwz⟩
  clear hA0 hval0
  refine (walkFnDeltasOf a0 len0 cap0 z0 W w0 b0).mono fun e W' ⟨he, bel⟩ => ?_
  subst he
  exact ⟨_, rfl, _, _, _, [], _, [], hW', trodAll_mk1 (shut_bool Try.underlying4 _), (trodAll_cons_mk (Below.trod laidOut (by kernel_rfl) (of_decide_eq_true (by kernel_rfl)) k0 bel lt0) trodAll_mk0), rfl, bel.frame _, fun h => by cases h⟩

theorem closedFnDeltasOf : joinedFacts Try.prog 11 Try.f11 Rows.fnDeltasOfSpec Rows.fnDeltasOfRow = true := by
  unfold joinedFacts
  refine and_yes (and_yes (and_yes (and_yes (and_yes (and_yes (and_yes ?_ mayIn) ?_) ?_) ?_) ?_) ?_) ?_
  rotate_left
  · rw [liftsIn]; kernel_rfl
  · rw [makeIn]; kernel_rfl
  · kernel_rfl
  · kernel_rfl
  · kernel_rfl
  · kernel_rfl
  · kernel_rfl

theorem overFnDeltasOf : Rows.fnDeltasOfRow.holds Try.pinned (OpenSpec.ofChange Rows.fnDeltasOfSpec) :=
  OpenClaim.holds_of_wide 11 Try.f11 rfl rfl rfl rfl rfl rfl rfl ⟨rfl, rfl, rfl, rfl, rfl⟩ rfl rfl rfl rfl rfl (by kernel_rfl) Try.func11 closedFnDeltasOf
    (of_decide_eq_true (by kernel_rfl)) (by unfold Func.isWrapper; first | (rw [if_pos (by decide +kernel)]; kernel_rfl) | (rw [if_neg (by decide +kernel)]; exact ⟨rfl, rfl⟩))
    (fun os started H enc _ => liftedFnDeltasOf os started H enc)

/-- the statement -/
theorem provedFnDeltasOf : Rows.FnDeltasOfSaid := overFnDeltasOf
#print axioms provedFnDeltasOf
set_option maxHeartbeats 1600000 in
theorem walkFnSumsOf (A : Option Addr) (n c : Nat) (l : List Int) (W : World) (h : Rd W 1 A n c (bc l)) (hb : By l) : Calls Try.prog 12 #[.slice A n c] W fun e w' => e = .returned (.bool true) ∧ Below W.heap.size W w' := by
  by_cases hbig : (1048576 : Int) < (n : Int)
  · clear h hb
    go_enter Try.func12, Try.ntmps12
    go_wp2
    go_ret
    exact ⟨rfl, Below.refl _ _⟩
  go_enter Try.func12, Try.ntmps12
  go_wp2_with fail
  refine (drawSum_any A n c l _ h hb (by omega)).mono ?_
  rintro e w1 ⟨A1, c1, L, rfl, h1, hm, g1⟩
  have RA := Lib.hid h1
  have L1 := (Live.zero W).step g1
  have hL18 := hm.1
  obtain ⟨M, hv⟩ : ∃ M, sumX L = M := ⟨_, rfl⟩
  have HV := Lib.hid hv
  clear hv h hb h1 hm g1
  go_wp2_with fail
  refine (sumsI_at _ _ _ L M _ RA.out HV.out).mono ?_
  rintro e w2 ⟨A2, c2, rfl, o1, g1⟩
  have L2 := L1.new o1 g1
  have q2 := g1
  clear L1 o1 g1
  go_wp2_with fail
  refine (sumsS_at _ _ _ L M _ (RA.out.keptN q2) HV.out).mono ?_
  rintro e w3 ⟨A3, c3, rfl, o1, g1⟩
  have L3 := L2.new o1 g1
  have q3 := g_trans q2 g1
  clear L2 o1 g1 q2
  go_wp2_with fail
  refine (equalInts_same _ _ _ _ _ _ M _ (L3.rd 1 rfl) (L3.rd 0 rfl)).mono ?_
  rintro e w4 ⟨rfl, g1⟩
  have L4 := (L3.step g1).drop
  have q4 := g_trans q3 g1
  clear L3 g1 q3
  by_cases hz : M.length = 0
  · have hz' : ((M.length : Int) == 0) = true := by rw [hz]; rfl
    have H0 := Lib.hid hz
    clear hz
    go_wp2_with fail
    refine (sumsS_at _ _ _ L M _ (RA.out.keptN q4) HV.out).mono ?_
    rintro e w5 ⟨A5, c5, rfl, o1, g1⟩
    have L5 := L4.new o1 g1
    clear L4 o1 g1
    go_wp2_with fail
    refine (equalInts_same _ _ _ _ _ _ M _ (L5.rd 1 rfl) (L5.rd 0 rfl)).mono ?_
    rintro e w6 ⟨rfl, g1⟩
    have L6 := L5.step g1
    clear L5 g1
    go_wp2
    go_ret
    exact ⟨ret_b (by simp), L6.bel⟩
  have hz' : ((M.length : Int) == 0) = false := by rw [beq_eq_false_iff_ne]; omega
  have hok : okN L = true := by
    cases hk : okN L with
    | true => rfl
    | false =>
      exfalso
      have := HV.out
      rw [sumX_no hk] at this
      subst this
      simp at hz
  have hM := HV.out
  rw [sumX_yes hok] at hM
  have h16 : M.length ≤ 16 := by rw [← hM, sum_len]; exact (okN_iff.1 hok).1
  have HM := Lib.hid hM
  have HK := Lib.hid hok
  have RM := Lib.hid (show Rd w4 1 A2 M.length c2 (ic M) from L4.rd 0 rfl)
  clear hM hok hz
  go_wp2
  go_loopw [5] (fun i wr => ∃ k : Nat, k ≤ M.length ∧ i = .int .i64 k ∧ wr = w4 ∧ Hid (∀ x ∈ M.take k, -100000 ≤ x ∧ x ≤ 100000)) (fun i _ => M.length - (Go.RowKit.intOf i).toNat)
  case atStart => exact ⟨0, Nat.zero_le _, rfl, rfl, fun x hx => by simp at hx⟩
  case round =>
    obtain ⟨k, hk, rfl, hwr, hI⟩ := hrel
    subst hwr
    by_cases hlt : k < M.length
    · obtain ⟨x, hx, hdx⟩ := get_ex (l := M) (i := k) hlt
      obtain ⟨b1, o1, rfl, hc1⟩ := RM.out.cells hlt
      have cx := hc1 _ _ (ic_at hx)
      have hlt' : (k : Int) < (M.length : Int) := by omega
      by_cases b2 : 100000 < x
      · have d2 : decide (100000 < x) = true := by simpa using b2
        clear hc1 hx hdx hI
        go_wp2
        go_ret
        exact ⟨rfl, L4.bel⟩
      have d2 : decide (100000 < x) = false := by simpa using b2
      by_cases b1' : x < -100000
      · have d1 : decide (x < -100000) = true := by simpa using b1'
        clear hc1 hx hdx hI
        go_wp2
        go_ret
        exact ⟨rfl, L4.bel⟩
      have d1 : decide (x < -100000) = false := by simpa using b1'
      have HI : Hid (∀ y ∈ M.take (k + 1), -100000 ≤ y ∧ y ≤ 100000) := mem_snoc (P := fun y => -100000 ≤ y ∧ y ≤ 100000) hx hI.out ⟨by omega, by omega⟩
      clear hc1 hx hdx hI
      go_wp2
      go_roundw
      case rel => exact ⟨k + 1, by omega, by go_num, by first | rfl | trivial, HI⟩
      case measure => simp [Go.RowKit.intOf]; omega
    · have hge : ¬ (k : Int) < (M.length : Int) := by omega
      have hokM : okN M = true := by
        refine okN_iff.2 ⟨h16, fun x hx => hI.out x ?_⟩
        rw [List.take_of_length_le (by omega)]
        exact hx
      have HB := HM.out
      rw [← HB] at hokM
      have hback := sum_fine HK.out hokM
      rw [HB] at hback
      have HS := Lib.hid hback
      clear hback HB hokM hI
      go_wp2_with fail
      refine (deltasI_at _ _ _ M L _ RM.out HS.out).mono ?_
      rintro e w5 ⟨A5, c5, rfl, o1, g1⟩
      have L5 := L4.new o1 g1
      have q5 := g_trans q4 g1
      clear L4 o1 g1 q4
      go_wp2_with fail
      refine (equalInts_same _ _ _ _ _ _ L _ (L5.rd 0 rfl) (RA.out.keptN q5)).mono ?_
      rintro e w6 ⟨rfl, g1⟩
      have L6 := L5.step g1
      clear L5 g1
      go_wp2
      go_ret
      exact ⟨ret_b (by simp), L6.bel⟩
set_option maxRecDepth 100000 in
set_option linter.unusedVariables false in
theorem liftedFnSumsOf (os : Os) (started : os.Started) (H : Type) (enc : TypeId × Value → H) :
    ReturnsInHanded {} Try.checked os 12 .any (Rows.fnSumsOfSpec.pre6 enc Try.prog Try.f12 Rows.fnSumsOfRow.domain false) (Rows.fnSumsOfSpec.post enc Try.prog Try.f12 false true false false) := by
  refine returnsInHanded_of_change (C := Try.checked) own started (by kernel_rfl) Try.func12
    (ChangeSpec.witness6 (enc := enc) (C := Try.checked) false ⟨#[], #[.slice none 0 0], []⟩ 8 (by kernel_rfl) (by kernel_rfl) (by kernel_rfl) (by kernel_rfl)) ?_
  intro W base args ds gs before hval0 hW hcnd _
  have hval : ∀ (j : Nat) t v, Try.f12.params[j]? = some t → args[j]? = some v → Value.okWide Try.prog W .any base t v := hval0
  have hW' := hW
  obtain ⟨p, q, hA0, hV, rfl, hfz, hnd⟩ := hW
  have hA : DataW.TrodAll enc Try.prog W 0 (fun _ => true) true Try.f12.params.toList args.toList ds p := hA0
  rw [Try.params12] at hA hval
  obtain ⟨v0, vs0, d0, ds0, p0, q0, hargs, rfl, rfl, h0, r0⟩ := trodAll_cons hA
  obtain ⟨rfl, rfl, rfl⟩ := trodAll_nil r0
  obtain rfl : args = #[v0] := by cases args; simp_all
  obtain ⟨rfl, rfl⟩ := trodVars_none hV
  obtain ⟨a0, len0, cap0, rfl⟩ := okWide_slice Try.underlying22 (hval 0 22 v0 rfl rfl)
  have k0 := h0
  have lt0 : ∀ x ∈ p0, x.block < W.heap.size := by obtain ⟨m, hm⟩ := k0; exact DataW.trod_lt m _ _ _ hm
  obtain ⟨z0, w0, b0⟩ : ∃ zs : List Int, Rd W 1 a0 len0 cap0 (zs.map (Value.int .u8)) ∧ By zs := by
    obtain ⟨fuel, hf⟩ := h0
    rcases open_ints Try.underlying22 Try.underlying5 (by kernel_rfl) hf with ⟨hcs, _⟩ | ⟨x, l, c, zs, hcs, _, hl, hm, hz, _, hcell, hwz⟩
    · simp [Value.cells] at hcs
      obtain ⟨rfl, rfl, rfl⟩ := hcs
      exact ⟨[], Rd.nil_ _ _, by intro x hx; cases hx⟩
    · simp [Value.cells] at hcs
      obtain ⟨rfl, rfl, rfl⟩ := hcs
      exact ⟨_, rd_of_ints hl hm (by simpa using hz) hcell, by_of_wf hwz⟩
  clear hA0 hval0
  refine (walkFnSumsOf a0 len0 cap0 z0 W w0 b0).mono fun e W' ⟨he, bel⟩ => ?_
  subst he
  exact ⟨_, rfl, _, _, _, [], _, [], hW', trodAll_mk1 (shut_bool Try.underlying4 _), (trodAll_cons_mk (Below.trod laidOut (by kernel_rfl) (of_decide_eq_true (by kernel_rfl)) k0 bel lt0) trodAll_mk0), rfl, bel.frame _, fun h => by cases h⟩

theorem closedFnSumsOf : joinedFacts Try.prog 12 Try.f12 Rows.fnSumsOfSpec Rows.fnSumsOfRow = true := by
  unfold joinedFacts
  refine and_yes (and_yes (and_yes (and_yes (and_yes (and_yes (and_yes ?_ mayIn) ?_) ?_) ?_) ?_) ?_) ?_
  rotate_left
  · rw [liftsIn]; kernel_rfl
  · rw [makeIn]; kernel_rfl
  · kernel_rfl
  · kernel_rfl
  · kernel_rfl
  · kernel_rfl
  · kernel_rfl

theorem overFnSumsOf : Rows.fnSumsOfRow.holds Try.pinned (OpenSpec.ofChange Rows.fnSumsOfSpec) :=
  OpenClaim.holds_of_wide 12 Try.f12 rfl rfl rfl rfl rfl rfl rfl ⟨rfl, rfl, rfl, rfl, rfl⟩ rfl rfl rfl rfl rfl (by kernel_rfl) Try.func12 closedFnSumsOf
    (of_decide_eq_true (by kernel_rfl)) (by unfold Func.isWrapper; first | (rw [if_pos (by decide +kernel)]; kernel_rfl) | (rw [if_neg (by decide +kernel)]; exact ⟨rfl, rfl⟩))
    (fun os started H enc _ => liftedFnSumsOf os started H enc)

/-- the statement -/
theorem provedFnSumsOf : Rows.FnSumsOfSaid := overFnSumsOf
#print axioms provedFnSumsOf
end Go.Proofs.Ytdncjmedglhojaa
