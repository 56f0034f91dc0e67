/- The laws FnTimeSteps and FnTimeStepsBack: for every input the law returns true, and nothing that was there has turned. -/
import Derived.Test.YtcgeagcfhjdpcaaFrame2
import Derived.Test.YtcgeagcfhjdpcaaTim
import Derived.Test.YtcgeagcfhjdpcaaPlainC3
import Derived.Test.YtcgeagcfhjdpcaaEq
import Derived.Test.YtcgeagcfhjdpcaaDrawS
import Derived.Test.YtcgeagcfhjdpcaaLive
import Derived.Test.YtcgeagcfhjdpcaaQuiet
namespace Go.Proofs.Ytcgeagcfhjdpcaa
set_option linter.unusedVariables false
open Go.ChangeShapes Go.WideShapes Go.ChangeAt Go.RowKit

attribute [local irreducible] wpQuiet
set_option maxRecDepth 100000 in
set_option maxHeartbeats 1600000 in
theorem walkFnTimeSteps (A : Option Addr) (n c : Nat) (l : List Int) (W : World) (h : Rd W 1 A n c (bc l)) (hb : By l) : Calls Try.prog 9 #[.slice A n c] W fun e w' => e = .returned (.bool true) ∧ Below W.heap.size W w' := by
  by_cases hbig : (1048576 : Int) < (n : Int)
  · clear h hb
    go_enter Try.func9, Try.ntmps9
    go_wp2
    go_ret
    exact ⟨rfl, Below.refl _ _⟩
  go_enter Try.func9, Try.ntmps9
  go_wp2_with fail
  refine (drawTS_any A n c l _ h hb (by omega)).mono ?_
  rintro e w1 ⟨A1, c1, L, rfl, h1, hm, g1⟩
  have RA := Lib.hid (Rd.own h1)
  have L1 := (Live.zero W).step g1
  have hL17 := hm.1
  obtain ⟨M, hv⟩ : ∃ M, stepsV L = M := ⟨_, rfl⟩
  have HV := Lib.hid hv
  clear hv h hb h1 hm g1
  go_wp2_with fail
  refine (stepsI_at _ _ _ L M _ RA.out HV.out).mono ?_
  rintro e w2 ⟨A2, c2, rfl, o1, g1⟩
  have L2 := L1.new o1 g1
  have q2 := g1
  clear L1 o1 g1
  go_wp2_with fail
  refine (stepsS_at _ _ _ L M _ (RA.out.keptN q2) HV.out).mono ?_
  rintro e w3 ⟨A3, c3, rfl, o1, g1⟩
  have L3 := L2.new o1 g1
  have q3 := g_trans q2 g1
  clear L2 o1 g1 q2
  go_wp2_with fail
  refine (equalInts_same _ _ _ _ _ _ M _ (L3.rd 1 rfl) (L3.rd 0 rfl)).mono ?_
  rintro e w4 ⟨rfl, g1⟩
  have L4 := (L3.step g1).drop
  have q4 := g_trans q3 g1
  clear L3 g1 q3
  by_cases hz : M.length = L.length
  rotate_left
  · have hz' : ((M.length : Int) == (L.length : Int)) = false := by rw [beq_eq_false_iff_ne]; omega
    have hzb : ((M.length : Int) != (L.length : Int)) = true := by rw [bne, hz']; rfl
    have H0 := Lib.hid hz
    clear hz
    go_wp2_with fail
    refine (stepsS_at _ _ _ L M _ (RA.out.keptN q4) HV.out).mono ?_
    rintro e w5 ⟨A5, c5, rfl, o1, g1⟩
    have L5 := L4.new o1 g1
    clear L4 o1 g1
    go_wp2_with fail
    refine (equalInts_same _ _ _ _ _ _ M _ (L5.rd 1 rfl) (L5.rd 0 rfl)).mono ?_
    rintro e w6 ⟨rfl, g1⟩
    have L6 := L5.step g1
    clear L5 g1
    go_wp2
    go_ret
    exact ⟨ret_b (by simp), L6.bel⟩
  have hz' : ((M.length : Int) == (L.length : Int)) = true := by rw [hz]; simp
  have hzb : ((M.length : Int) != (L.length : Int)) = false := by rw [bne, hz']; rfl
  have hok : validL L = true := by
    cases hk : validL L with
    | true => rfl
    | false =>
      exfalso
      have := HV.out
      rw [stepsV_no hk] at this
      subst this
      have e : L = [] := List.eq_nil_of_length_eq_zero hz.symm
      rw [e] at hk
      cases hk
  have hM := HV.out
  rw [stepsV_yes hok] at hM
  have hL16 : L.length ≤ 16 := ((validL_iff L).1 hok).1
  have HM := Lib.hid hM
  have HK := Lib.hid hok
  have HZ := Lib.hid hz
  have HS : Hid (smallP L) := valid_small hok
  have RM := Lib.hid (show Rd w4 1 A2 M.length c2 (ic M) from L4.rd 0 rfl)
  have RL := Lib.hid (RA.out.keptN q4)
  clear hM hok hz
  go_wp2
  go_loopw [5] (fun i wr => ∃ k : Nat, (k + 2 ≤ L.length ∨ k = 0) ∧ i = .int .i64 ((k : Int) + 2) ∧ w4.grownBy wr none) (fun i _ => L.length + 2 - (Go.RowKit.intOf i).toNat)
  case atStart => exact ⟨0, by omega, rfl, g_refl _ _⟩
  case round =>
    obtain ⟨k, hk, rfl, hg⟩ := hrel
    by_cases hlt : k + 2 < L.length
    · obtain ⟨⟨x, u0⟩, hx, -⟩ := get_ex (l := L) (i := k) (by omega)
      obtain ⟨⟨y, u1⟩, hy, -⟩ := get_ex (l := L) (i := k + 1) (by omega)
      obtain ⟨⟨z, u2⟩, hzz, -⟩ := get_ex (l := L) (i := k + 1 + 1) (by omega)
      have hd : M[k + 1 + 1]? = some ((z - y) - (y - x)) := by rw [← HM.out]; exact steps_get hx hy hzz
      have bx := (HS.out _ (List.mem_of_getElem? hx)).1
      have by_ := (HS.out _ (List.mem_of_getElem? hy)).1
      have bz := (HS.out _ (List.mem_of_getElem? hzz)).1
      simp only at bx by_ bz
      obtain ⟨b, o, rfl, hc⟩ := (RL.out.keptN hg).cells (i := k) (by omega)
      obtain ⟨b2, o2, rfl, hc2⟩ := (RM.out.keptN hg).cells (i := k) (by have := HZ.out; omega)
      obtain ⟨m, hm⟩ : ∃ m, m = k + 1 + 1 := ⟨_, rfl⟩
      obtain ⟨j, hj⟩ : ∃ j, j = k + 1 := ⟨_, rfl⟩
      rw [← hj] at hy
      rw [← hm] at hzz hd
      have c0 := hc _ _ (pc_at hx).1
      have c1' := hc _ _ (pc_at hy).1
      have c2' := hc _ _ (pc_at hzz).1
      have c3' := hc2 _ _ (ic_at hd)
      simp only [Nat.add_zero] at c0 c1' c2' c3'
      have d0 := gw_cellW c0
      have d1 := gw_cellW c1'
      have d2 := gw_cellW c2'
      have d3 := gw_cellW c3'
      have hm1 : ((k : Int) + 2) = (m : Int) := by omega
      have hj1 : IntKind.i64.wrap ((m : Int) - 1) = (j : Int) := by rw [show ((m : Int) - 1) = (j : Int) by omega]; exact IntWalk.i64_in _ (by omega)
      have hj2 : IntKind.i64.wrap ((m : Int) - 2) = (k : Int) := by rw [show ((m : Int) - 2) = (k : Int) by omega]; exact IntWalk.i64_in _ (by omega)
      have hw1 : IntKind.i64.wrap (z - y) = z - y := IntWalk.i64_in _ (by omega)
      have hw2 : IntKind.i64.wrap (y - x) = y - x := IntWalk.i64_in _ (by omega)
      have hm2 : (m : Int) < (M.length : Int) := by have := HZ.out; omega
      have hm3 : (m : Int) < (L.length : Int) := by omega
      have hj3 : (j : Int) < (L.length : Int) := by omega
      have hk3 : (k : Int) < (L.length : Int) := by omega
      have hn1 : m < L.length := by omega
      have hn2 : m < M.length := by have := HZ.out; omega
      have hn3 : k < L.length := by omega
      have hn4 : j < L.length := by omega
      have HK2 := Lib.hid (show m = k + 2 by omega)
      clear hc hc2 hx hy hzz hd c0 c1' c2' c3'
      rw [hm1]
      clear hm hj hm1 hlt hk bx by_ bz
      go_wp2_with fail
      refine wp_region_gw (W := wr) (by kernel_rfl) (by kernel_rfl) (g_refl _ _) ?_
      have ht : (z - y - (y - x) == 0) = decide (z - y = y - x) := by rw [Bool.eq_iff_iff]; simp; omega
      by_cases hxy : z - y = y - x
      · have e1 : (z - y - (y - x) == 0) = true := by rw [ht]; simpa using hxy
        have e2 : (z - y == y - x) = true := by simpa using hxy
        clear ht
        clear hxy
        repeat (quiet_step (fail))
        refine wpQuiet_nil ?_
        rintro _ ⟨⟨w5, hg5⟩, rfl⟩
        go_wp2
        go_roundw
        case rel => exact ⟨k + 1, by have := HK2.out; omega, by have := HK2.out; subst this; go_num, g_trans hg hg5⟩
        case measure => have := HK2.out; simp [Go.RowKit.intOf]; omega
      · have e1 : (z - y - (y - x) == 0) = false := by rw [ht]; simpa using hxy
        have e2 : (z - y == y - x) = false := by simpa using hxy
        clear ht
        clear hxy
        repeat (quiet_step (fail))
        refine wpQuiet_nil ?_
        rintro _ ⟨⟨w5, hg5⟩, rfl⟩
        go_wp2
        go_roundw
        case rel => exact ⟨k + 1, by have := HK2.out; omega, by have := HK2.out; subst this; go_num, g_trans hg hg5⟩
        case measure => have := HK2.out; simp [Go.RowKit.intOf]; omega
    · have hge : ¬ (k : Int) + 2 < (L.length : Int) := by omega
      have GB := Lib.hid (g_trans L4.grown hg)
      by_cases hl0 : L.length = 0
      · have e0 : ((L.length : Int) == 0) = true := by rw [hl0]; rfl
        clear hg hlt hk
        go_wp2_with fail
        refine wp_region_gw (W := wr) (by kernel_rfl) (by kernel_rfl) (g_refl _ _) ?_
        repeat (quiet_step (fail))
        refine wpQuiet_nil ?_
        rintro _ ⟨⟨w5, hg5⟩, rfl⟩
        have hbel := g_below (g_trans GB.out hg5) (Nat.le_refl _) (by simp)
        go_wp2
        go_ret
        exact ⟨ret_b (by simp), hbel⟩
      · obtain ⟨⟨t, u⟩, hx, -⟩ := get_ex (l := L) (i := 0) (by omega)
        have hy : M[0]? = some t := by rw [← HM.out]; exact steps_first hx
        obtain ⟨b, o, rfl, hc⟩ := (RL.out.keptN hg).cells (i := 0) (by omega)
        obtain ⟨b2, o2, rfl, hc2⟩ := (RM.out.keptN hg).cells (i := 0) (by have := HZ.out; omega)
        have c0 := hc _ _ (pc_at hx).1
        have c2' := hc2 _ _ (ic_at hy)
        simp only [Nat.add_zero, Nat.zero_mul] at c0 c2'
        have d0 := gw_cellW c0
        have d2 := gw_cellW c2'
        have e1 : (t == t) = true := by simp
        have e0 : ((L.length : Int) == 0) = false := by rw [beq_eq_false_iff_ne]; omega
        have hm2 : (0 : Int) < (M.length : Int) := by have := HZ.out; omega
        have hm3 : (0 : Int) < (L.length : Int) := by omega
        have hn2 : 0 < M.length := by have := HZ.out; omega
        have hn3 : 0 < L.length := by omega
        clear hc hc2 c0 c2' hlt hk hx hy hl0
        go_wp2_with fail
        refine wp_region_gw (W := wr) (by kernel_rfl) (by kernel_rfl) (g_refl _ _) ?_
        repeat (quiet_step (fail))
        refine wpQuiet_nil ?_
        rintro _ ⟨⟨w5, hg5⟩, rfl⟩
        have hbel := g_below (g_trans GB.out hg5) (Nat.le_refl _) (by simp)
        clear hg5 hg
        go_wp2
        go_ret
        exact ⟨ret_b (by simp), hbel⟩
set_option maxRecDepth 100000 in
set_option linter.unusedVariables false in
theorem liftedFnTimeSteps (os : Os) (started : os.Started) (H : Type) (enc : TypeId × Value → H) :
    ReturnsInHanded {} Try.checked os 9 .any (Rows.fnTimeStepsSpec.pre6 enc Try.prog Try.f9 Rows.fnTimeStepsRow.domain false) (Rows.fnTimeStepsSpec.post enc Try.prog Try.f9 false true false false) := by
  refine returnsInHanded_of_change (C := Try.checked) own started (by kernel_rfl) Try.func9
    (ChangeSpec.witness6 (enc := enc) (C := Try.checked) false ⟨#[], #[.slice none 0 0], []⟩ 8 (by kernel_rfl) (by kernel_rfl) (by kernel_rfl) (by kernel_rfl)) ?_
  intro W base args ds gs before hval0 hW hcnd _
  have hval : ∀ (j : Nat) t v, Try.f9.params[j]? = some t → args[j]? = some v → Value.okWide Try.prog W .any base t v := hval0
  have hW' := hW
  obtain ⟨p, q, hA0, hV, rfl, hfz, hnd⟩ := hW
  have hA : DataW.TrodAll enc Try.prog W 0 (fun _ => true) true Try.f9.params.toList args.toList ds p := hA0
  rw [Try.params9] at hA hval
  obtain ⟨v0, vs0, d0, ds0, p0, q0, hargs, rfl, rfl, h0, r0⟩ := trodAll_cons hA
  obtain ⟨rfl, rfl, rfl⟩ := trodAll_nil r0
  obtain rfl : args = #[v0] := by cases args; simp_all
  obtain ⟨rfl, rfl⟩ := trodVars_none hV
  obtain ⟨a0, len0, cap0, rfl⟩ := okWide_slice Try.underlying22 (hval 0 22 v0 rfl rfl)
  have k0 := h0
  have lt0 : ∀ x ∈ p0, x.block < W.heap.size := by obtain ⟨m, hm⟩ := k0; exact DataW.trod_lt m _ _ _ hm
  obtain ⟨z0, w0, b0⟩ : ∃ zs : List Int, Rd W 1 a0 len0 cap0 (zs.map (Value.int .u8)) ∧ By zs := by
    obtain ⟨fuel, hf⟩ := h0
    rcases open_ints Try.underlying22 Try.underlying5 (by kernel_rfl) hf with ⟨hcs, _⟩ | ⟨x, l, c, zs, hcs, _, hl, hm, hz, _, hcell, hwz⟩
    · simp [Value.cells] at hcs
      obtain ⟨rfl, rfl, rfl⟩ := hcs
      exact ⟨[], Rd.nil_ _ _, by intro x hx; cases hx⟩
    · simp [Value.cells] at hcs
      obtain ⟨rfl, rfl, rfl⟩ := hcs
      exact ⟨_, rd_of_ints hl hm (by simpa using hz) hcell, by_of_wf hwz⟩
  clear hA0 hval0
  refine (walkFnTimeSteps a0 len0 cap0 z0 W w0 b0).mono fun e W' ⟨he, bel⟩ => ?_
  subst he
  exact ⟨_, rfl, _, _, _, [], _, [], hW', trodAll_mk1 (shut_bool Try.underlying4 _), (trodAll_cons_mk (Below.trod laidOut (by kernel_rfl) (of_decide_eq_true (by kernel_rfl)) k0 bel lt0) trodAll_mk0), rfl, bel.frame _, fun h => by cases h⟩

theorem closedFnTimeSteps : joinedFacts Try.prog 9 Try.f9 Rows.fnTimeStepsSpec Rows.fnTimeStepsRow = true := by
  unfold joinedFacts
  refine and_yes (and_yes (and_yes (and_yes (and_yes (and_yes (and_yes ?_ mayIn) ?_) ?_) ?_) ?_) ?_) ?_
  rotate_left
  · rw [liftsIn]; kernel_rfl
  · rw [makeIn]; kernel_rfl
  · kernel_rfl
  · kernel_rfl
  · kernel_rfl
  · kernel_rfl
  · kernel_rfl

theorem overFnTimeSteps : Rows.fnTimeStepsRow.holds Try.pinned (OpenSpec.ofChange Rows.fnTimeStepsSpec) :=
  OpenClaim.holds_of_wide 9 Try.f9 rfl rfl rfl rfl rfl rfl rfl ⟨rfl, rfl, rfl, rfl, rfl⟩ rfl rfl rfl rfl rfl (by kernel_rfl) Try.func9 closedFnTimeSteps
    (of_decide_eq_true (by kernel_rfl)) (by unfold Func.isWrapper; first | (rw [if_pos (by decide +kernel)]; kernel_rfl) | (rw [if_neg (by decide +kernel)]; exact ⟨rfl, rfl⟩))
    (fun os started H enc _ => liftedFnTimeSteps os started H enc)

/-- the statement -/
theorem provedFnTimeSteps : Rows.FnTimeStepsSaid := overFnTimeSteps
#print axioms provedFnTimeSteps
set_option maxRecDepth 100000 in
set_option maxHeartbeats 1600000 in
theorem walkFnTimeStepsBack (A : Option Addr) (n c : Nat) (l : List Int) (W : World) (h : Rd W 1 A n c (bc l)) (hb : By l) : Calls Try.prog 11 #[.slice A n c] W fun e w' => e = .returned (.bool true) ∧ Below W.heap.size W w' := by
  by_cases hbig : (1048576 : Int) < (n : Int)
  · clear h hb
    go_enter Try.func11, Try.ntmps11
    go_wp2
    go_ret
    exact ⟨rfl, Below.refl _ _⟩
  go_enter Try.func11, Try.ntmps11
  go_wp2_with fail
  refine (drawTS_any A n c l _ h hb (by omega)).mono ?_
  rintro e w1 ⟨A1, c1, L, rfl, h1, hm, g1⟩
  have RA := Lib.hid (Rd.own h1)
  have L1 := (Live.zero W).step g1
  have hL17 := hm.1
  obtain ⟨M, hv⟩ : ∃ M, stepsV L = M := ⟨_, rfl⟩
  have HV := Lib.hid hv
  clear hv h hb h1 hm g1
  go_wp2_with fail
  refine (stepsI_at _ _ _ L M _ RA.out HV.out).mono ?_
  rintro e w2 ⟨A2, c2, rfl, o1, g1⟩
  have L2 := L1.new o1 g1
  have q2 := g1
  clear L1 o1 g1
  go_wp2_with fail
  refine (stepsS_at _ _ _ L M _ (RA.out.keptN q2) HV.out).mono ?_
  rintro e w3 ⟨A3, c3, rfl, o1, g1⟩
  have L3 := L2.new o1 g1
  have q3 := g_trans q2 g1
  clear L2 o1 g1 q2
  go_wp2_with fail
  refine (equalInts_same _ _ _ _ _ _ M _ (L3.rd 1 rfl) (L3.rd 0 rfl)).mono ?_
  rintro e w4 ⟨rfl, g1⟩
  have L4 := (L3.step g1).drop
  have q4 := g_trans q3 g1
  clear L3 g1 q3
  by_cases hz : M.length = L.length
  rotate_left
  · have hz' : ((M.length : Int) == (L.length : Int)) = false := by rw [beq_eq_false_iff_ne]; omega
    have hzb : ((M.length : Int) != (L.length : Int)) = true := by rw [bne, hz']; rfl
    have H0 := Lib.hid hz
    clear hz
    go_wp2_with fail
    refine (stepsS_at _ _ _ L M _ (RA.out.keptN q4) HV.out).mono ?_
    rintro e w5 ⟨A5, c5, rfl, o1, g1⟩
    have L5 := L4.new o1 g1
    clear L4 o1 g1
    go_wp2_with fail
    refine (equalInts_same _ _ _ _ _ _ M _ (L5.rd 1 rfl) (L5.rd 0 rfl)).mono ?_
    rintro e w6 ⟨rfl, g1⟩
    have L6 := L5.step g1
    clear L5 g1
    go_wp2
    go_ret
    exact ⟨ret_b (by simp), L6.bel⟩
  have hz' : ((M.length : Int) == (L.length : Int)) = true := by rw [hz]; simp
  have hzb : ((M.length : Int) != (L.length : Int)) = false := by rw [bne, hz']; rfl
  have hok : validL L = true := by
    cases hk : validL L with
    | true => rfl
    | false =>
      exfalso
      have := HV.out
      rw [stepsV_no hk] at this
      subst this
      have e : L = [] := List.eq_nil_of_length_eq_zero hz.symm
      rw [e] at hk
      cases hk
  have hM := HV.out
  rw [stepsV_yes hok] at hM
  have hL16 : L.length ≤ 16 := ((validL_iff L).1 hok).1
  have HM := Lib.hid hM
  have HK := Lib.hid hok
  have HZ := Lib.hid hz
  have HS : Hid (smallP L) := valid_small hok
  have RM := Lib.hid (show Rd w4 1 A2 M.length c2 (ic M) from L4.rd 0 rfl)
  have RL := Lib.hid (RA.out.keptN q4)
  clear hM hok hz
  obtain ⟨T1, hT1⟩ : ∃ T1, sumX M = T1 := ⟨_, rfl⟩
  have HT1 := Lib.hid hT1
  have hT2 : sumX T1 = timesL L := by rw [← hT1, ← HM.out]; exact back_times HK.out
  obtain ⟨T, hT⟩ : ∃ T, T = timesL L := ⟨_, rfl⟩
  have HT2 := Lib.hid (show sumX T1 = T by rw [hT]; exact hT2)
  have HTL := Lib.hid (show T.length = L.length by rw [hT]; unfold timesL; rw [List.length_map])
  have HT := Lib.hid hT
  clear hT1 hT2 hT
  go_wp2_with fail
  refine (sumsI_at _ _ _ M T1 _ RM.out HT1.out).mono ?_
  rintro e w5 ⟨A5, c5, rfl, o1, g1⟩
  have R5 := Lib.hid (Rd.own o1)
  have L5 := L4.step g1
  have q5 := g_trans q4 g1
  clear L4 q4 o1 g1
  go_wp2_with fail
  refine (sumsI_at _ _ _ T1 T _ R5.out HT2.out).mono ?_
  rintro e w6 ⟨A6, c6, rfl, o1, g1⟩
  have RT := Lib.hid (Rd.own o1)
  have R6 := Lib.hid (RA.out.keptN (g_trans q5 g1))
  have G6 := Lib.hid (L5.step g1).grown
  clear L5 q5 o1 g1
  go_wp2
  go_loopw [6] (fun i wr => ∃ k : Nat, k ≤ L.length ∧ i = .int .i64 k ∧ w6.grownBy wr none) (fun i _ => L.length - (Go.RowKit.intOf i).toNat)
  case atStart => exact ⟨0, by omega, rfl, g_refl _ _⟩
  case round =>
    obtain ⟨k, hk, rfl, hg⟩ := hrel
    by_cases hlt : k < L.length
    · obtain ⟨⟨x, u0⟩, hx, -⟩ := get_ex (l := L) (i := k) hlt
      have hy : T[k]? = some x := by rw [HT.out]; unfold timesL; rw [List.getElem?_map, hx]; rfl
      have hkt : k < T.length := by have := HTL.out; omega
      obtain ⟨b, o, rfl, hc⟩ := (R6.out.keptN hg).cells hlt
      obtain ⟨b2, o2, rfl, hc2⟩ := (RT.out.keptN hg).cells hkt
      have c0 := hc _ _ (pc_at hx).1
      have c1' := hc2 _ _ (ic_at hy)
      simp only [Nat.add_zero] at c0 c1'
      have d0 := gw_cellW c0
      have d1 := gw_cellW c1'
      have e1 : (x == x) = true := by simp
      have hge : decide ((T.length : Int) ≤ (k : Int)) = false := by simp; omega
      have hk2 : (k : Int) < (L.length : Int) := by omega
      have hk3 : (k : Int) < (T.length : Int) := by omega
      clear hc hc2 hx hy c0 c1'
      go_wp2_with fail
      refine wp_region_gw (W := wr) (by kernel_rfl) (by kernel_rfl) (g_refl _ _) ?_
      repeat (quiet_step (fail))
      refine wpQuiet_nil ?_
      rintro _ ⟨⟨w7, hg7⟩, rfl⟩
      go_wp2
      go_roundw
      case rel => exact ⟨k + 1, by omega, by go_num, g_trans hg hg7⟩
      case measure => simp [Go.RowKit.intOf]; omega
    · have hge : ¬ (k : Int) < (L.length : Int) := by omega
      have hbel := g_below (g_trans G6.out hg) (Nat.le_refl _) (by simp)
      have e2 : ((T.length : Int) == (L.length : Int)) = true := by rw [HTL.out]; simp
      clear hg
      go_wp2
      go_ret
      exact ⟨ret_b (by simp), hbel⟩
set_option maxRecDepth 100000 in
set_option linter.unusedVariables false in
theorem liftedFnTimeStepsBack (os : Os) (started : os.Started) (H : Type) (enc : TypeId × Value → H) :
    ReturnsInHanded {} Try.checked os 11 .any (Rows.fnTimeStepsBackSpec.pre6 enc Try.prog Try.f11 Rows.fnTimeStepsBackRow.domain false) (Rows.fnTimeStepsBackSpec.post enc Try.prog Try.f11 false true false false) := by
  refine returnsInHanded_of_change (C := Try.checked) own started (by kernel_rfl) Try.func11
    (ChangeSpec.witness6 (enc := enc) (C := Try.checked) false ⟨#[], #[.slice none 0 0], []⟩ 8 (by kernel_rfl) (by kernel_rfl) (by kernel_rfl) (by kernel_rfl)) ?_
  intro W base args ds gs before hval0 hW hcnd _
  have hval : ∀ (j : Nat) t v, Try.f11.params[j]? = some t → args[j]? = some v → Value.okWide Try.prog W .any base t v := hval0
  have hW' := hW
  obtain ⟨p, q, hA0, hV, rfl, hfz, hnd⟩ := hW
  have hA : DataW.TrodAll enc Try.prog W 0 (fun _ => true) true Try.f11.params.toList args.toList ds p := hA0
  rw [Try.params11] at hA hval
  obtain ⟨v0, vs0, d0, ds0, p0, q0, hargs, rfl, rfl, h0, r0⟩ := trodAll_cons hA
  obtain ⟨rfl, rfl, rfl⟩ := trodAll_nil r0
  obtain rfl : args = #[v0] := by cases args; simp_all
  obtain ⟨rfl, rfl⟩ := trodVars_none hV
  obtain ⟨a0, len0, cap0, rfl⟩ := okWide_slice Try.underlying22 (hval 0 22 v0 rfl rfl)
  have k0 := h0
  have lt0 : ∀ x ∈ p0, x.block < W.heap.size := by obtain ⟨m, hm⟩ := k0; exact DataW.trod_lt m _ _ _ hm
  obtain ⟨z0, w0, b0⟩ : ∃ zs : List Int, Rd W 1 a0 len0 cap0 (zs.map (Value.int .u8)) ∧ By zs := by
    obtain ⟨fuel, hf⟩ := h0
    rcases open_ints Try.underlying22 Try.underlying5 (by kernel_rfl) hf with ⟨hcs, _⟩ | ⟨x, l, c, zs, hcs, _, hl, hm, hz, _, hcell, hwz⟩
    · simp [Value.cells] at hcs
      obtain ⟨rfl, rfl, rfl⟩ := hcs
      exact ⟨[], Rd.nil_ _ _, by intro x hx; cases hx⟩
    · simp [Value.cells] at hcs
      obtain ⟨rfl, rfl, rfl⟩ := hcs
      exact ⟨_, rd_of_ints hl hm (by simpa using hz) hcell, by_of_wf hwz⟩
  clear hA0 hval0
  refine (walkFnTimeStepsBack a0 len0 cap0 z0 W w0 b0).mono fun e W' ⟨he, bel⟩ => ?_
  subst he
  exact ⟨_, rfl, _, _, _, [], _, [], hW', trodAll_mk1 (shut_bool Try.underlying4 _), (trodAll_cons_mk (Below.trod laidOut (by kernel_rfl) (of_decide_eq_true (by kernel_rfl)) k0 bel lt0) trodAll_mk0), rfl, bel.frame _, fun h => by cases h⟩

theorem closedFnTimeStepsBack : joinedFacts Try.prog 11 Try.f11 Rows.fnTimeStepsBackSpec Rows.fnTimeStepsBackRow = true := by
  unfold joinedFacts
  refine and_yes (and_yes (and_yes (and_yes (and_yes (and_yes (and_yes ?_ mayIn) ?_) ?_) ?_) ?_) ?_) ?_
  rotate_left
  · rw [liftsIn]; kernel_rfl
  · rw [makeIn]; kernel_rfl
  · kernel_rfl
  · kernel_rfl
  · kernel_rfl
  · kernel_rfl
  · kernel_rfl

theorem overFnTimeStepsBack : Rows.fnTimeStepsBackRow.holds Try.pinned (OpenSpec.ofChange Rows.fnTimeStepsBackSpec) :=
  OpenClaim.holds_of_wide 11 Try.f11 rfl rfl rfl rfl rfl rfl rfl ⟨rfl, rfl, rfl, rfl, rfl⟩ rfl rfl rfl rfl rfl (by kernel_rfl) Try.func11 closedFnTimeStepsBack
    (of_decide_eq_true (by kernel_rfl)) (by unfold Func.isWrapper; first | (rw [if_pos (by decide +kernel)]; kernel_rfl) | (rw [if_neg (by decide +kernel)]; exact ⟨rfl, rfl⟩))
    (fun os started H enc _ => liftedFnTimeStepsBack os started H enc)

/-- the statement -/
theorem provedFnTimeStepsBack : Rows.FnTimeStepsBackSaid := overFnTimeStepsBack
#print axioms provedFnTimeStepsBack
end Go.Proofs.Ytcgeagcfhjdpcaa
