/- The laws FnPackSeries and FnUnpackSeriesTorn: for every input the law returns true, and nothing that was there has turned. -/
import Derived.Test.YtcgeagcfhjdpcaaFrame2
import Derived.Test.YtcgeagcfhjdpcaaPackV
import Derived.Test.YtcgeagcfhjdpcaaUnp
import Derived.Test.YtcgeagcfhjdpcaaPMark
import Derived.Test.YtcgeagcfhjdpcaaEq
import Derived.Test.YtcgeagcfhjdpcaaDrawS
import Derived.Test.YtcgeagcfhjdpcaaLive
import Derived.Test.YtcgeagcfhjdpcaaQuiet
namespace Go.Proofs.Ytcgeagcfhjdpcaa
set_option linter.unusedVariables false
open Go.ChangeShapes Go.WideShapes Go.ChangeAt Go.RowKit

attribute [local irreducible] wpQuiet
set_option maxRecDepth 100000 in
set_option maxHeartbeats 1600000 in
theorem walkFnPackSeries (A : Option Addr) (n c : Nat) (l : List Int) (W : World) (h : Rd W 1 A n c (bc l)) (hb : By l) : Calls Try.prog 4 #[.slice A n c] W fun e w' => e = .returned (.bool true) ∧ Below W.heap.size W w' := by
  by_cases hbig : (1048576 : Int) < (n : Int)
  · clear h hb
    go_enter Try.func4, Try.ntmps4
    go_wp2
    go_ret
    exact ⟨rfl, Below.refl _ _⟩
  go_enter Try.func4, Try.ntmps4
  go_wp2_with fail
  refine (drawPS_any A n c l _ h hb (by omega)).mono ?_
  rintro e w1 ⟨A1, c1, L, rfl, h1, hm, g1⟩
  have RA := Lib.hid (Rd.own h1)
  have L1 := (Live.zero W).step g1
  have hL17 := hm.1
  obtain ⟨M, hv⟩ : ∃ M, packV L = M := ⟨_, rfl⟩
  have HV := Lib.hid hv
  clear hv h hb h1 hm g1
  go_wp2_with fail
  refine (packI_at _ _ _ L M _ RA.out HV.out).mono ?_
  rintro e w2 ⟨A2, c2, rfl, o1, g1⟩
  have L2 := L1.new o1 g1
  have q2 := g1
  clear L1 o1 g1
  go_wp2_with fail
  refine (packS_at _ _ _ L M _ (RA.out.keptN q2) HV.out).mono ?_
  rintro e w3 ⟨A3, c3, rfl, o1, g1⟩
  have L3 := L2.new o1 g1
  have q3 := g_trans q2 g1
  clear L2 o1 g1 q2
  go_wp2_with fail
  refine (equalBytes_same _ _ _ _ _ _ M _ (L3.rd 1 rfl) (L3.rd 0 rfl)).mono ?_
  rintro e w4 ⟨rfl, g1⟩
  have L4 := (L3.step g1).drop
  have q4 := g_trans q3 g1
  clear L3 g1 q3
  by_cases hz : M.length = 0
  · have hz' : ((M.length : Int) == 0) = true := by rw [hz]; rfl
    have H0 := Lib.hid hz
    clear hz
    go_wp2_with fail
    refine (packS_at _ _ _ L M _ (RA.out.keptN q4) HV.out).mono ?_
    rintro e w5 ⟨A5, c5, rfl, o1, g1⟩
    have L5 := L4.new o1 g1
    clear L4 o1 g1
    go_wp2_with fail
    refine (equalBytes_same _ _ _ _ _ _ M _ (L5.rd 1 rfl) (L5.rd 0 rfl)).mono ?_
    rintro e w6 ⟨rfl, g1⟩
    have L6 := L5.step g1
    clear L5 g1
    go_wp2
    go_ret
    exact ⟨ret_b (by simp), L6.bel⟩
  have hz' : ((M.length : Int) == 0) = false := by rw [beq_eq_false_iff_ne]; omega
  have hok : validL L = true := by
    cases hk : validL L with
    | true => rfl
    | false =>
      exfalso
      have := HV.out
      rw [packV_no hk] at this
      subst this
      simp at hz
  have hM := HV.out
  rw [packV_yes hok] at hM
  have hL16 : L.length ≤ 16 := ((validL_iff L).1 hok).1
  have hML : 1 + 2 * L.length ≤ M.length ∧ M.length ≤ 1 + 6 * L.length := by rw [← hM]; exact packL_len L
  obtain ⟨hML1, hML2⟩ := hML
  have HBM : Hid (By M) := by show By M; rw [← hM]; exact packL_by (valid_small hok) hL16
  have HU := Lib.hid (show unpV M = (L, true) from unpV_some (by rw [← hM]; exact unp_pack hok))
  have RM := Lib.hid (show Rd w4 1 A2 M.length c2 (bc M) from L4.rd 0 rfl)
  have RL := Lib.hid (RA.out.keptN q4)
  have hw1 : IntKind.i64.wrap (6 * (L.length : Int)) = 6 * (L.length : Int) := IntWalk.i64_in _ (by omega)
  have hw2 : IntKind.i64.wrap (1 + 6 * (L.length : Int)) = 1 + 6 * (L.length : Int) := IntWalk.i64_in _ (by omega)
  have hle : decide ((M.length : Int) ≤ 1 + 6 * (L.length : Int)) = true := by simp; omega
  clear hM hok hz q4 RA
  go_wp2_with fail
  refine (unpI_at _ _ _ M L true _ RM.out HBM.out HU.out).mono ?_
  rintro e w5 ⟨A5, c5, rfl, o1, g1⟩
  have R5 := Lib.hid (Rd.own o1)
  have R6 := Lib.hid (RL.out.keptN g1)
  have L5 := L4.step g1
  clear L4 o1 g1
  go_wp2_with fail
  refine (equalPoints_same _ _ _ _ _ _ L _ R5.out R6.out).mono ?_
  rintro e w6 ⟨rfl, g1⟩
  have hbel := (L5.step g1).bel
  clear L5 g1
  go_wp2
  go_ret
  exact ⟨ret_b (by simp), hbel⟩
set_option maxRecDepth 100000 in
set_option linter.unusedVariables false in
theorem liftedFnPackSeries (os : Os) (started : os.Started) (H : Type) (enc : TypeId × Value → H) :
    ReturnsInHanded {} Try.checked os 4 .any (Rows.fnPackSeriesSpec.pre6 enc Try.prog Try.f4 Rows.fnPackSeriesRow.domain false) (Rows.fnPackSeriesSpec.post enc Try.prog Try.f4 false true false false) := by
  refine returnsInHanded_of_change (C := Try.checked) own started (by kernel_rfl) Try.func4
    (ChangeSpec.witness6 (enc := enc) (C := Try.checked) false ⟨#[], #[.slice none 0 0], []⟩ 8 (by kernel_rfl) (by kernel_rfl) (by kernel_rfl) (by kernel_rfl)) ?_
  intro W base args ds gs before hval0 hW hcnd _
  have hval : ∀ (j : Nat) t v, Try.f4.params[j]? = some t → args[j]? = some v → Value.okWide Try.prog W .any base t v := hval0
  have hW' := hW
  obtain ⟨p, q, hA0, hV, rfl, hfz, hnd⟩ := hW
  have hA : DataW.TrodAll enc Try.prog W 0 (fun _ => true) true Try.f4.params.toList args.toList ds p := hA0
  rw [Try.params4] at hA hval
  obtain ⟨v0, vs0, d0, ds0, p0, q0, hargs, rfl, rfl, h0, r0⟩ := trodAll_cons hA
  obtain ⟨rfl, rfl, rfl⟩ := trodAll_nil r0
  obtain rfl : args = #[v0] := by cases args; simp_all
  obtain ⟨rfl, rfl⟩ := trodVars_none hV
  obtain ⟨a0, len0, cap0, rfl⟩ := okWide_slice Try.underlying22 (hval 0 22 v0 rfl rfl)
  have k0 := h0
  have lt0 : ∀ x ∈ p0, x.block < W.heap.size := by obtain ⟨m, hm⟩ := k0; exact DataW.trod_lt m _ _ _ hm
  obtain ⟨z0, w0, b0⟩ : ∃ zs : List Int, Rd W 1 a0 len0 cap0 (zs.map (Value.int .u8)) ∧ By zs := by
    obtain ⟨fuel, hf⟩ := h0
    rcases open_ints Try.underlying22 Try.underlying5 (by kernel_rfl) hf with ⟨hcs, _⟩ | ⟨x, l, c, zs, hcs, _, hl, hm, hz, _, hcell, hwz⟩
    · simp [Value.cells] at hcs
      obtain ⟨rfl, rfl, rfl⟩ := hcs
      exact ⟨[], Rd.nil_ _ _, by intro x hx; cases hx⟩
    · simp [Value.cells] at hcs
      obtain ⟨rfl, rfl, rfl⟩ := hcs
      exact ⟨_, rd_of_ints hl hm (by simpa using hz) hcell, by_of_wf hwz⟩
  clear hA0 hval0
  refine (walkFnPackSeries a0 len0 cap0 z0 W w0 b0).mono fun e W' ⟨he, bel⟩ => ?_
  subst he
  exact ⟨_, rfl, _, _, _, [], _, [], hW', trodAll_mk1 (shut_bool Try.underlying4 _), (trodAll_cons_mk (Below.trod laidOut (by kernel_rfl) (of_decide_eq_true (by kernel_rfl)) k0 bel lt0) trodAll_mk0), rfl, bel.frame _, fun h => by cases h⟩

theorem closedFnPackSeries : joinedFacts Try.prog 4 Try.f4 Rows.fnPackSeriesSpec Rows.fnPackSeriesRow = true := by
  unfold joinedFacts
  refine and_yes (and_yes (and_yes (and_yes (and_yes (and_yes (and_yes ?_ mayIn) ?_) ?_) ?_) ?_) ?_) ?_
  rotate_left
  · rw [liftsIn]; kernel_rfl
  · rw [makeIn]; kernel_rfl
  · kernel_rfl
  · kernel_rfl
  · kernel_rfl
  · kernel_rfl
  · kernel_rfl

theorem overFnPackSeries : Rows.fnPackSeriesRow.holds Try.pinned (OpenSpec.ofChange Rows.fnPackSeriesSpec) :=
  OpenClaim.holds_of_wide 4 Try.f4 rfl rfl rfl rfl rfl rfl rfl ⟨rfl, rfl, rfl, rfl, rfl⟩ rfl rfl rfl rfl rfl (by kernel_rfl) Try.func4 closedFnPackSeries
    (of_decide_eq_true (by kernel_rfl)) (by unfold Func.isWrapper; first | (rw [if_pos (by decide +kernel)]; kernel_rfl) | (rw [if_neg (by decide +kernel)]; exact ⟨rfl, rfl⟩))
    (fun os started H enc _ => liftedFnPackSeries os started H enc)

/-- the statement -/
theorem provedFnPackSeries : Rows.FnPackSeriesSaid := overFnPackSeries
#print axioms provedFnPackSeries
set_option maxRecDepth 100000 in
set_option maxHeartbeats 1600000 in
theorem walkFnUnpackSeriesTorn (A : Option Addr) (n c : Nat) (l : List Int) (W : World) (h : Rd W 1 A n c (bc l)) (hb : By l) : Calls Try.prog 3 #[.slice A n c] W fun e w' => e = .returned (.bool true) ∧ Below W.heap.size W w' := by
  by_cases hbig : (1048576 : Int) < (n : Int)
  · clear h hb
    go_enter Try.func3, Try.ntmps3
    go_wp2
    go_ret
    exact ⟨rfl, Below.refl _ _⟩
  go_enter Try.func3, Try.ntmps3
  go_wp2_with fail
  refine (drawPS_any A n c l _ h hb (by omega)).mono ?_
  rintro e w1 ⟨A1, c1, L, rfl, h1, hm, g1⟩
  have RA := Lib.hid (Rd.own h1)
  have L1 := (Live.zero W).step g1
  have hL17 := hm.1
  obtain ⟨M, hv⟩ : ∃ M, packV L = M := ⟨_, rfl⟩
  have HV := Lib.hid hv
  clear hv h hb h1 hm g1
  go_wp2_with fail
  refine (packI_at _ _ _ L M _ RA.out HV.out).mono ?_
  rintro e w2 ⟨A2, c2, rfl, o1, g1⟩
  have L2 := L1.new o1 g1
  have q2 := g1
  clear L1 o1 g1
  go_wp2_with fail
  refine (packS_at _ _ _ L M _ (RA.out.keptN q2) HV.out).mono ?_
  rintro e w3 ⟨A3, c3, rfl, o1, g1⟩
  have L3 := L2.new o1 g1
  have q3 := g_trans q2 g1
  clear L2 o1 g1 q2
  go_wp2_with fail
  refine (equalBytes_same _ _ _ _ _ _ M _ (L3.rd 1 rfl) (L3.rd 0 rfl)).mono ?_
  rintro e w4 ⟨rfl, g1⟩
  have L4 := (L3.step g1).drop
  have q4 := g_trans q3 g1
  clear L3 g1 q3
  by_cases hz : M.length = 0
  · have hz' : ((M.length : Int) == 0) = true := by rw [hz]; rfl
    have H0 := Lib.hid hz
    clear hz
    go_wp2_with fail
    refine (packS_at _ _ _ L M _ (RA.out.keptN q4) HV.out).mono ?_
    rintro e w5 ⟨A5, c5, rfl, o1, g1⟩
    have L5 := L4.new o1 g1
    clear L4 o1 g1
    go_wp2_with fail
    refine (equalBytes_same _ _ _ _ _ _ M _ (L5.rd 1 rfl) (L5.rd 0 rfl)).mono ?_
    rintro e w6 ⟨rfl, g1⟩
    have L6 := L5.step g1
    clear L5 g1
    go_wp2
    go_ret
    exact ⟨ret_b (by simp), L6.bel⟩
  have hz' : ((M.length : Int) == 0) = false := by rw [beq_eq_false_iff_ne]; omega
  have hok : validL L = true := by
    cases hk : validL L with
    | true => rfl
    | false =>
      exfalso
      have := HV.out
      rw [packV_no hk] at this
      subst this
      simp at hz
  have hM := HV.out
  rw [packV_yes hok] at hM
  have hL16 : L.length ≤ 16 := ((validL_iff L).1 hok).1
  have hML : 1 + 2 * L.length ≤ M.length ∧ M.length ≤ 1 + 6 * L.length := by rw [← hM]; exact packL_len L
  obtain ⟨hML1, hML2⟩ := hML
  have HBM : Hid (By M) := by show By M; rw [← hM]; exact packL_by (valid_small hok) hL16
  obtain ⟨g, hg0⟩ : ∃ g, M.length = g + 1 := ⟨M.length - 1, by omega⟩
  obtain ⟨x, hx, -⟩ := get_ex (l := M) (i := g) (by omega)
  have HU1 := Lib.hid (show unpV (M.take g) = ([], false) from unpV_none (unp_short (x := x) hok (by rw [hM, ← take_get hx, List.take_of_length_le (by omega)])))
  have HU2 := Lib.hid (show unpV (M ++ [0]) = ([], false) from unpV_none (by rw [← hM]; exact unp_long hok 0))
  have HB1 : Hid (By (M.take g)) := fun y hy => HBM.out y (List.mem_of_mem_take hy)
  have HB2 : Hid (By (M ++ [0])) := by
    intro y hy
    rcases List.mem_append.1 hy with hy | hy
    · exact HBM.out y hy
    · simp at hy; omega
  have RM := Lib.hid (show Rd w4 1 A2 M.length c2 (bc M) from L4.rd 0 rfl)
  have hT := RM.out.to_ (k := g) (by omega)
  rw [show (bc M).take (g * 1) = bc (M.take g) by simp [bc, List.map_take]] at hT
  have HT := Lib.hid hT
  have hc2 := RM.out.cap
  have hw : IntKind.i64.wrap ((M.length : Int) - 1) = (g : Int) := by rw [show ((M.length : Int) - 1) = (g : Int) by omega]; exact IntWalk.i64_in _ (by omega)
  have k0 : (0 : Int) ≤ (g : Int) := by omega
  have k1 : (g : Int) ≤ (c2 : Int) := by omega
  have hM100 : M.length ≤ 1000 := by omega
  clear hM hok hz q4 RA hx hT hg0 hc2
  go_wp2_with fail
  refine (unpI_at _ _ _ (M.take g) [] false _ HT.out HB1.out HU1.out).mono ?_
  rintro e w5 ⟨A5, c5, rfl, o1, g1⟩
  have R5 := Lib.hid (RM.out.keptN (g_trans g1 (g_alloc w5 (.cells #[] 5) none)))
  have L5 := L4.step g1
  have HW5 := Lib.hid L5.grown.size
  have O5 := Lib.hid (lit_own w5 w5.heap.size 5 1 [] 0 (Nat.le_refl _) (by omega) rfl)
  have G5 := Lib.hid (L5.step (g_alloc w5 (.cells #[] 5) none)).grown
  clear L4 L5 o1 g1
  go_wp2_with (first
    | (at_builtin; refine apps_by rfl (.tmp 40) (.tmp 41) rfl w5.heap.size [] M _ (some ⟨w5.heap.size, 0, none⟩) A2 0 M.length c2 (by simp [Act.eval]) O5.out (by simp [Act.eval]) R5.out (by simp) (by omega) (by simp) ?_; intro A6 c6 w6 o6 g6 f6; have G6 := Lib.hid (g_new G5.out g6 (fun k e => by have h1 := own_new O5.out k e; have h2 := HW5.out; omega)); have hb6 := Lib.hid (show w5.heap.size ≤ w6.heap.size from by have := g6.size; simp at this; omega); simp only [List.nil_append] at o6)
    | (at_builtin; refine app_by rfl (.tmp 42) (.tmp 43) rfl w5.heap.size M w6 0 A6 c6 (by simp [Act.eval]) o6 (by simp [Act.eval]) (by omega) hb6.out ?_; intro A8 c8 w8 o8 g8 f8; have G8 := Lib.hid (g_new G6.out g8 (fun k e => by have h1 := own_new o6 k e; have h2 := HW5.out; omega))))
  have R8 := Lib.hid (Rd.own o8)
  clear o8 g8 f8 o6 g6 f6
  refine (unpI_at _ _ _ (M ++ [0]) [] false _ (by simpa using R8.out) HB2.out HU2.out).mono ?_
  rintro e w9 ⟨A9, c9, rfl, o9, g9⟩
  have hbel := g_below (g_trans G8.out g9) (Nat.le_refl _) (by simp)
  clear o9 g9
  go_wp2
  go_ret
  exact ⟨ret_b (by simp), hbel⟩
set_option maxRecDepth 100000 in
set_option linter.unusedVariables false in
theorem liftedFnUnpackSeriesTorn (os : Os) (started : os.Started) (H : Type) (enc : TypeId × Value → H) :
    ReturnsInHanded {} Try.checked os 3 .any (Rows.fnUnpackSeriesTornSpec.pre6 enc Try.prog Try.f3 Rows.fnUnpackSeriesTornRow.domain false) (Rows.fnUnpackSeriesTornSpec.post enc Try.prog Try.f3 false true false false) := by
  refine returnsInHanded_of_change (C := Try.checked) own started (by kernel_rfl) Try.func3
    (ChangeSpec.witness6 (enc := enc) (C := Try.checked) false ⟨#[], #[.slice none 0 0], []⟩ 8 (by kernel_rfl) (by kernel_rfl) (by kernel_rfl) (by kernel_rfl)) ?_
  intro W base args ds gs before hval0 hW hcnd _
  have hval : ∀ (j : Nat) t v, Try.f3.params[j]? = some t → args[j]? = some v → Value.okWide Try.prog W .any base t v := hval0
  have hW' := hW
  obtain ⟨p, q, hA0, hV, rfl, hfz, hnd⟩ := hW
  have hA : DataW.TrodAll enc Try.prog W 0 (fun _ => true) true Try.f3.params.toList args.toList ds p := hA0
  rw [Try.params3] at hA hval
  obtain ⟨v0, vs0, d0, ds0, p0, q0, hargs, rfl, rfl, h0, r0⟩ := trodAll_cons hA
  obtain ⟨rfl, rfl, rfl⟩ := trodAll_nil r0
  obtain rfl : args = #[v0] := by cases args; simp_all
  obtain ⟨rfl, rfl⟩ := trodVars_none hV
  obtain ⟨a0, len0, cap0, rfl⟩ := okWide_slice Try.underlying22 (hval 0 22 v0 rfl rfl)
  have k0 := h0
  have lt0 : ∀ x ∈ p0, x.block < W.heap.size := by obtain ⟨m, hm⟩ := k0; exact DataW.trod_lt m _ _ _ hm
  obtain ⟨z0, w0, b0⟩ : ∃ zs : List Int, Rd W 1 a0 len0 cap0 (zs.map (Value.int .u8)) ∧ By zs := by
    obtain ⟨fuel, hf⟩ := h0
    rcases open_ints Try.underlying22 Try.underlying5 (by kernel_rfl) hf with ⟨hcs, _⟩ | ⟨x, l, c, zs, hcs, _, hl, hm, hz, _, hcell, hwz⟩
    · simp [Value.cells] at hcs
      obtain ⟨rfl, rfl, rfl⟩ := hcs
      exact ⟨[], Rd.nil_ _ _, by intro x hx; cases hx⟩
    · simp [Value.cells] at hcs
      obtain ⟨rfl, rfl, rfl⟩ := hcs
      exact ⟨_, rd_of_ints hl hm (by simpa using hz) hcell, by_of_wf hwz⟩
  clear hA0 hval0
  refine (walkFnUnpackSeriesTorn a0 len0 cap0 z0 W w0 b0).mono fun e W' ⟨he, bel⟩ => ?_
  subst he
  exact ⟨_, rfl, _, _, _, [], _, [], hW', trodAll_mk1 (shut_bool Try.underlying4 _), (trodAll_cons_mk (Below.trod laidOut (by kernel_rfl) (of_decide_eq_true (by kernel_rfl)) k0 bel lt0) trodAll_mk0), rfl, bel.frame _, fun h => by cases h⟩

theorem closedFnUnpackSeriesTorn : joinedFacts Try.prog 3 Try.f3 Rows.fnUnpackSeriesTornSpec Rows.fnUnpackSeriesTornRow = true := by
  unfold joinedFacts
  refine and_yes (and_yes (and_yes (and_yes (and_yes (and_yes (and_yes ?_ mayIn) ?_) ?_) ?_) ?_) ?_) ?_
  rotate_left
  · rw [liftsIn]; kernel_rfl
  · rw [makeIn]; kernel_rfl
  · kernel_rfl
  · kernel_rfl
  · kernel_rfl
  · kernel_rfl
  · kernel_rfl

theorem overFnUnpackSeriesTorn : Rows.fnUnpackSeriesTornRow.holds Try.pinned (OpenSpec.ofChange Rows.fnUnpackSeriesTornSpec) :=
  OpenClaim.holds_of_wide 3 Try.f3 rfl rfl rfl rfl rfl rfl rfl ⟨rfl, rfl, rfl, rfl, rfl⟩ rfl rfl rfl rfl rfl (by kernel_rfl) Try.func3 closedFnUnpackSeriesTorn
    (of_decide_eq_true (by kernel_rfl)) (by unfold Func.isWrapper; first | (rw [if_pos (by decide +kernel)]; kernel_rfl) | (rw [if_neg (by decide +kernel)]; exact ⟨rfl, rfl⟩))
    (fun os started H enc _ => liftedFnUnpackSeriesTorn os started H enc)

/-- the statement -/
theorem provedFnUnpackSeriesTorn : Rows.FnUnpackSeriesTornSaid := overFnUnpackSeriesTorn
#print axioms provedFnUnpackSeriesTorn
end Go.Proofs.Ytcgeagcfhjdpcaa
