/- The laws FnPutVar, FnPutVarLength and FnPutVarOrder: for every input the law returns true, and nothing that was there has turned. -/
import Derived.Test.YtfjlcpdljibgaaaFrame
import Derived.Test.YtfjlcpdljibgaaaDrawA
import Derived.Test.YtfjlcpdljibgaaaGet
import Derived.Test.YtfjlcpdljibgaaaEq
namespace Go.Proofs.Ytfjlcpdljibgaaa
set_option linter.unusedVariables false
open Go.ChangeShapes Go.WideShapes Go.ChangeAt Go.RowKit

theorem putVI_at (n : Int) (L : List Int) (w : World) (h : putV n = L) :
    Calls Try.prog 25 #[.int .i64 n] w fun e w' => ∃ A c, e = .returned (.slice A L.length c) ∧ w'.ownsRow w.heap.size 5 1 (.slice A L.length c) L.length (bc L) ∧ w.grownBy w' none := by
  subst h
  exact putVI_any n w
theorem putVS_at (n : Int) (L : List Int) (w : World) (h : putV n = L) :
    Calls Try.prog 24 #[.int .i64 n] w fun e w' => ∃ A c, e = .returned (.slice A L.length c) ∧ w'.ownsRow w.heap.size 5 1 (.slice A L.length c) L.length (bc L) ∧ w.grownBy w' none := by
  subst h
  exact putVS_any n w
theorem getVI_at (A : Option Addr) (n c : Nat) (l : List Int) (a b : Int) (k : Bool) (w : World) (h1 : Rd w 1 A n c (bc l)) (hb : By l) (h : get3 l = (a, b, k)) :
    Calls Try.prog 31 #[.slice A n c] w fun e w' => e = .returned (.tuple #[.int .i64 a, .int .i64 b, .bool k]) ∧ w.grownBy w' none := by
  refine (getVI_any A n c l w h1 hb).mono ?_
  rintro e w' ⟨rfl, hg⟩
  exact ⟨by rw [h]; rfl, hg⟩

theorem get3_put {n : Int} (h0 : 0 ≤ n) (h1 : n ≤ 200000) : get3 (putL n) = (n, ((putL n).length : Int), true) := by
  unfold putL
  split
  · rename_i h
    simp [get3, getV, mk3, h]
  · rename_i h
    split
    · rename_i h2
      simp only [get3, getV]
      rw [if_neg (by omega), if_pos (by omega), if_neg (by omega)]
      unfold mk3
      ext <;> simp <;> omega
    · rename_i h2
      simp only [get3, getV]
      rw [if_neg (by omega), if_neg (by omega), if_pos (by omega), if_neg (by omega)]
      unfold mk3
      ext <;> simp <;> omega
theorem putL_inj {n m : Int} (h0 : 0 ≤ n) (h1 : n ≤ 200000) (k0 : 0 ≤ m) (k1 : m ≤ 200000) (h : putL n = putL m) : n = m := by
  have a := get3_put h0 h1
  have b := get3_put k0 k1
  rw [h, b] at a
  exact (congrArg Prod.fst a).symm
theorem putV_next {n : Int} (h0 : 0 ≤ n) (h1 : n ≤ 200000) : ¬ putV (n + 1) = putL n := by
  by_cases h : n = 200000
  · subst h
    rw [putV_out (by omega)]
    intro e
    have := @putL_len 200000
    rw [← e] at this
    simp at this
  · rw [putV_in (by omega) (by omega)]
    intro e
    have := putL_inj (by omega) (by omega) h0 h1 e
    omega
theorem putL_long {n : Int} : (putL n).length = if n < 128 then 1 else if n < 16384 then 2 else 3 := by
  unfold putL
  split
  · rfl
  · split <;> rfl
theorem putL_hi {n : Int} (h0 : 0 ≤ n) {i : Nat} {x : Int} (hx : (putL n)[i]? = some x) (hi : i + 1 < (putL n).length) : 128 ≤ x := by
  rw [putL_long] at hi
  unfold putL at hx
  split at hx
  · rename_i h; rw [if_pos h] at hi; omega
  · rename_i h
    rw [if_neg h] at hi
    split at hx
    · rename_i h2
      rw [if_pos h2] at hi
      have : i = 0 := by omega
      subst this
      simp at hx
      omega
    · rename_i h2
      rw [if_neg h2] at hi
      have : i = 0 ∨ i = 1 := by omega
      rcases this with rfl | rfl <;> simp at hx <;> omega
theorem putL_lo {n : Int} (h0 : 0 ≤ n) (h1 : n ≤ 200000) {x : Int} (hx : (putL n)[(putL n).length - 1]? = some x) : x < 128 := by
  rw [putL_long] at hx
  unfold putL at hx
  split at hx
  · rename_i h; simp at hx; omega
  · rename_i h
    split at hx
    · rename_i h2; simp at hx; omega
    · rename_i h2; simp at hx; omega


set_option maxHeartbeats 800000 in
theorem walkFnPutVar (A : Option Addr) (n c : Nat) (l : List Int) (W : World) (h : Rd W 1 A n c (bc l)) (hb : By l) : Calls Try.prog 15 #[.slice A n c] W fun e w' => e = .returned (.bool true) ∧ Below W.heap.size W w' := by
  by_cases hbig : 1048576 < n
  · go_enter Try.func15, Try.ntmps15
    go_wp2
    go_ret
    exact ⟨rfl, Below.refl _ _⟩
  go_enter Try.func15, Try.ntmps15
  go_wp2_with fail
  refine (drawPut_any A n c l W h hb (by omega)).mono ?_
  rintro e w1 ⟨x, rfl, x0, x1, hg⟩
  clear h hb
  by_cases c1 : x < 0 ∨ 200000 < x
  · have E := Lib.hid (putV_out c1)
    clear c1
    go_wp2_with fail
    refine (putVI_at x [] _ E.out).mono ?_
    rintro e w2 ⟨A1, d1, rfl, o1, g1⟩
    go_wp2_with fail
    refine (putVS_at x [] _ E.out).mono ?_
    rintro e w3 ⟨A2, d2, rfl, o2, g2⟩
    go_wp2_with fail
    refine (equalBytes_same _ _ _ _ _ _ [] _ ((Rd.own o1).keptN g2) (Rd.own o2)).mono ?_
    rintro e w4 ⟨rfl, g3⟩
    go_wp2_with fail
    refine (putVS_at x [] _ E.out).mono ?_
    rintro e w5 ⟨A3, d3, rfl, o3, g4⟩
    go_wp2_with fail
    refine (equalBytes_same _ _ _ _ _ _ [] _ ((Rd.own o1).keptN (g_trans g2 (g_trans g3 g4))) (Rd.own o3)).mono ?_
    rintro e w6 ⟨rfl, g5⟩
    have hbel := g_below (g_trans hg (g_trans g1 (g_trans g2 (g_trans g3 (g_trans g4 g5))))) (Nat.le_refl _) (by simp)
    clear o1 o2 o3 g1 g2 g3 g4 g5 hg
    go_wp2
    go_ret
    exact ⟨rfl, hbel⟩
  · have y0 : 0 ≤ x := by omega
    have y1 : x ≤ 200000 := by omega
    have hlen := @putL_len x
    have hby := putL_by y0 (by omega)
    have hget := get3_put y0 y1
    have hput := putV_in y0 y1
    generalize putL x = L at *
    have hne : ((L.length : Int) == 0) = false := by rw [beq_eq_false_iff_ne]; omega
    have hle : ((L.length : Int) ≤ 3) := by omega
    have HG := Lib.hid hget
    have HP := Lib.hid hput
    have HB := Lib.hid hby
    clear hget hput hby c1
    go_wp2_with fail
    refine (putVI_at x L _ HP.out).mono ?_
    rintro e w2 ⟨A1, d1, rfl, o1, g1⟩
    go_wp2_with fail
    refine (putVS_at x L _ HP.out).mono ?_
    rintro e w3 ⟨A2, d2, rfl, o2, g2⟩
    go_wp2_with fail
    refine (equalBytes_same _ _ _ _ _ _ L _ ((Rd.own o1).keptN g2) (Rd.own o2)).mono ?_
    rintro e w4 ⟨rfl, g3⟩
    go_wp2_with fail
    refine (getVI_at _ _ _ L x L.length true _ ((Rd.own o1).keptN (g_trans g2 g3)) HB.out HG.out).mono ?_
    rintro e w5 ⟨rfl, g4⟩
    have hbel := g_below (g_trans hg (g_trans g1 (g_trans g2 (g_trans g3 g4)))) (Nat.le_refl _) (by simp)
    clear o1 o2 g1 g2 g3 g4 hg
    go_wp2
    go_ret
    exact ⟨rfl, hbel⟩
set_option maxRecDepth 100000 in
set_option linter.unusedVariables false in
theorem liftedFnPutVar (os : Os) (started : os.Started) (H : Type) (enc : TypeId × Value → H) :
    ReturnsInHanded {} Try.checked os 15 .any (Rows.fnPutVarSpec.pre6 enc Try.prog Try.f15 Rows.fnPutVarRow.domain false) (Rows.fnPutVarSpec.post enc Try.prog Try.f15 false true false false) := by
  refine returnsInHanded_of_change (C := Try.checked) own started (by kernel_rfl) Try.func15
    (ChangeSpec.witness6 (enc := enc) (C := Try.checked) false ⟨#[], #[.slice none 0 0], []⟩ 8 (by kernel_rfl) (by kernel_rfl) (by kernel_rfl) (by kernel_rfl)) ?_
  intro W base args ds gs before hval0 hW hcnd _
  have hval : ∀ (j : Nat) t v, Try.f15.params[j]? = some t → args[j]? = some v → Value.okWide Try.prog W .any base t v := hval0
  have hW' := hW
  obtain ⟨p, q, hA0, hV, rfl, hfz, hnd⟩ := hW
  have hA : DataW.TrodAll enc Try.prog W 0 (fun _ => true) true Try.f15.params.toList args.toList ds p := hA0
  rw [Try.params15] at hA hval
  obtain ⟨v0, vs0, d0, ds0, p0, q0, hargs, rfl, rfl, h0, r0⟩ := trodAll_cons hA
  obtain ⟨rfl, rfl, rfl⟩ := trodAll_nil r0
  obtain rfl : args = #[v0] := by cases args; simp_all
  obtain ⟨rfl, rfl⟩ := trodVars_none hV
  obtain ⟨a0, len0, cap0, rfl⟩ := okWide_slice Try.underlying27 (hval 0 27 v0 rfl rfl)
  have k0 := h0
  have lt0 : ∀ x ∈ p0, x.block < W.heap.size := by obtain ⟨m, hm⟩ := k0; exact DataW.trod_lt m _ _ _ hm
  obtain ⟨z0, w0, b0⟩ : ∃ zs : List Int, Rd W 1 a0 len0 cap0 (zs.map (Value.int .u8)) ∧ By zs := by
    obtain ⟨fuel, hf⟩ := h0
    rcases open_ints Try.underlying27 Try.underlying5 (by kernel_rfl) hf with ⟨hcs, _⟩ | ⟨x, l, c, zs, hcs, _, hl, hm, hz, _, hcell, hwz⟩
    · simp [Value.cells] at hcs
      obtain ⟨rfl, rfl, rfl⟩ := hcs
      exact ⟨[], Rd.nil_ _ _, by intro x hx; cases hx⟩
    · simp [Value.cells] at hcs
      obtain ⟨rfl, rfl, rfl⟩ := hcs
      exact ⟨_, rd_of_ints hl hm (by simpa using hz) hcell, by_of_wf hwz⟩
  clear hA0 hval0
  refine (walkFnPutVar a0 len0 cap0 z0 W w0 b0).mono fun e W' ⟨he, bel⟩ => ?_
  subst he
  exact ⟨_, rfl, _, _, _, [], _, [], hW', trodAll_mk1 (shut_bool Try.underlying4 _), (trodAll_cons_mk (Below.trod laidOut (by kernel_rfl) (of_decide_eq_true (by kernel_rfl)) k0 bel lt0) trodAll_mk0), rfl, bel.frame _, fun h => by cases h⟩

theorem closedFnPutVar : joinedFacts Try.prog 15 Try.f15 Rows.fnPutVarSpec Rows.fnPutVarRow = true := by
  unfold joinedFacts
  refine and_yes (and_yes (and_yes (and_yes (and_yes (and_yes (and_yes ?_ mayIn) ?_) ?_) ?_) ?_) ?_) ?_
  rotate_left
  · rw [liftsIn]; kernel_rfl
  · rw [makeIn]; kernel_rfl
  · kernel_rfl
  · kernel_rfl
  · kernel_rfl
  · kernel_rfl
  · kernel_rfl

theorem overFnPutVar : Rows.fnPutVarRow.holds Try.pinned (OpenSpec.ofChange Rows.fnPutVarSpec) :=
  OpenClaim.holds_of_wide 15 Try.f15 rfl rfl rfl rfl rfl rfl rfl ⟨rfl, rfl, rfl, rfl, rfl⟩ rfl rfl rfl rfl rfl (by kernel_rfl) Try.func15 closedFnPutVar
    (of_decide_eq_true (by kernel_rfl)) (by unfold Func.isWrapper; first | (rw [if_pos (by decide +kernel)]; kernel_rfl) | (rw [if_neg (by decide +kernel)]; exact ⟨rfl, rfl⟩))
    (fun os started H enc _ => liftedFnPutVar os started H enc)

/-- the statement -/
theorem provedFnPutVar : Rows.FnPutVarSaid := overFnPutVar
#print axioms provedFnPutVar

set_option maxHeartbeats 800000 in
theorem walkFnPutVarLength (A : Option Addr) (n c : Nat) (l : List Int) (W : World) (h : Rd W 1 A n c (bc l)) (hb : By l) : Calls Try.prog 12 #[.slice A n c] W fun e w' => e = .returned (.bool true) ∧ Below W.heap.size W w' := by
  by_cases hbig : 1048576 < n
  · go_enter Try.func12, Try.ntmps12
    go_wp2
    go_ret
    exact ⟨rfl, Below.refl _ _⟩
  go_enter Try.func12, Try.ntmps12
  go_wp2_with fail
  refine (drawPut_any A n c l W h hb (by omega)).mono ?_
  rintro e w1 ⟨x, rfl, x0, x1, hg⟩
  clear h hb
  by_cases c1 : x < 0 ∨ 200000 < x
  · have E := Lib.hid (putV_out c1)
    clear c1
    go_wp2_with fail
    refine (putVI_at x [] _ E.out).mono ?_
    rintro e w2 ⟨A1, d1, rfl, o1, g1⟩
    go_wp2_with fail
    refine (putVS_at x [] _ E.out).mono ?_
    rintro e w3 ⟨A2, d2, rfl, o2, g2⟩
    go_wp2_with fail
    refine (equalBytes_same _ _ _ _ _ _ [] _ ((Rd.own o1).keptN g2) (Rd.own o2)).mono ?_
    rintro e w4 ⟨rfl, g3⟩
    go_wp2_with fail
    refine (putVS_at x [] _ E.out).mono ?_
    rintro e w5 ⟨A3, d3, rfl, o3, g4⟩
    go_wp2_with fail
    refine (equalBytes_same _ _ _ _ _ _ [] _ ((Rd.own o1).keptN (g_trans g2 (g_trans g3 g4))) (Rd.own o3)).mono ?_
    rintro e w6 ⟨rfl, g5⟩
    have hbel := g_below (g_trans hg (g_trans g1 (g_trans g2 (g_trans g3 (g_trans g4 g5))))) (Nat.le_refl _) (by simp)
    clear o1 o2 o3 g1 g2 g3 g4 g5 hg
    go_wp2
    go_ret
    exact ⟨rfl, hbel⟩
  · have y0 : 0 ≤ x := by omega
    have y1 : x ≤ 200000 := by omega
    have hlen := @putL_len x
    have hlong := @putL_long x
    have hput := putV_in y0 y1
    have hnext : (putV (x + 1)).length = 0 ∨ (putL x).length ≤ (putV (x + 1)).length ∧ 1 ≤ (putV (x + 1)).length := by
      by_cases hz : x = 200000
      · left; rw [putV_out (by omega)]; rfl
      · right
        rw [putV_in (by omega) (by omega), putL_long, putL_long]
        split <;> split <;> (try split) <;> (try split) <;> omega
    generalize putL x = L at *
    generalize hM : putV (x + 1) = M at *
    have hne : ((L.length : Int) == 0) = false := by rw [beq_eq_false_iff_ne]; omega
    have hb1 : (((L.length : Int) == 1) == decide (x < 128)) = true := by
      by_cases hx : x < 128
      · rw [if_pos hx] at hlong
        simp [hlong, hx]
      · rw [if_neg hx] at hlong
        have : ¬ (L.length : Int) = 1 := by split at hlong <;> omega
        simp [this, hx]
    have HP := Lib.hid hput
    have HM := Lib.hid hM
    clear hput hM c1 hlong
    go_wp2_with fail
    refine (putVI_at x L _ HP.out).mono ?_
    rintro e w2 ⟨A1, d1, rfl, o1, g1⟩
    go_wp2_with fail
    refine (putVS_at x L _ HP.out).mono ?_
    rintro e w3 ⟨A2, d2, rfl, o2, g2⟩
    go_wp2_with fail
    refine (equalBytes_same _ _ _ _ _ _ L _ ((Rd.own o1).keptN g2) (Rd.own o2)).mono ?_
    rintro e w4 ⟨rfl, g3⟩
    go_wp2_with fail
    refine (putVI_at (x + 1) M _ HM.out).mono ?_
    rintro e w5 ⟨A3, d3, rfl, o3, g4⟩
    have hbel := g_below (g_trans hg (g_trans g1 (g_trans g2 (g_trans g3 g4)))) (Nat.le_refl _) (by simp)
    clear o1 o2 o3 g1 g2 g3 g4 hg
    rcases hnext with hz | ⟨hz, hz1⟩
    · have hz' : ((M.length : Int) == 0) = true := by rw [beq_iff_eq]; omega
      clear hz
      go_wp2
      go_ret
      exact ⟨rfl, hbel⟩
    · have hz' : ((M.length : Int) == 0) = false := by rw [beq_eq_false_iff_ne]; omega
      have hz2 : decide ((L.length : Int) ≤ (M.length : Int)) = true := by simpa using hz
      go_wp2
      go_ret
      exact ⟨rfl, hbel⟩
set_option maxRecDepth 100000 in
set_option linter.unusedVariables false in
theorem liftedFnPutVarLength (os : Os) (started : os.Started) (H : Type) (enc : TypeId × Value → H) :
    ReturnsInHanded {} Try.checked os 12 .any (Rows.fnPutVarLengthSpec.pre6 enc Try.prog Try.f12 Rows.fnPutVarLengthRow.domain false) (Rows.fnPutVarLengthSpec.post enc Try.prog Try.f12 false true false false) := by
  refine returnsInHanded_of_change (C := Try.checked) own started (by kernel_rfl) Try.func12
    (ChangeSpec.witness6 (enc := enc) (C := Try.checked) false ⟨#[], #[.slice none 0 0], []⟩ 8 (by kernel_rfl) (by kernel_rfl) (by kernel_rfl) (by kernel_rfl)) ?_
  intro W base args ds gs before hval0 hW hcnd _
  have hval : ∀ (j : Nat) t v, Try.f12.params[j]? = some t → args[j]? = some v → Value.okWide Try.prog W .any base t v := hval0
  have hW' := hW
  obtain ⟨p, q, hA0, hV, rfl, hfz, hnd⟩ := hW
  have hA : DataW.TrodAll enc Try.prog W 0 (fun _ => true) true Try.f12.params.toList args.toList ds p := hA0
  rw [Try.params12] at hA hval
  obtain ⟨v0, vs0, d0, ds0, p0, q0, hargs, rfl, rfl, h0, r0⟩ := trodAll_cons hA
  obtain ⟨rfl, rfl, rfl⟩ := trodAll_nil r0
  obtain rfl : args = #[v0] := by cases args; simp_all
  obtain ⟨rfl, rfl⟩ := trodVars_none hV
  obtain ⟨a0, len0, cap0, rfl⟩ := okWide_slice Try.underlying27 (hval 0 27 v0 rfl rfl)
  have k0 := h0
  have lt0 : ∀ x ∈ p0, x.block < W.heap.size := by obtain ⟨m, hm⟩ := k0; exact DataW.trod_lt m _ _ _ hm
  obtain ⟨z0, w0, b0⟩ : ∃ zs : List Int, Rd W 1 a0 len0 cap0 (zs.map (Value.int .u8)) ∧ By zs := by
    obtain ⟨fuel, hf⟩ := h0
    rcases open_ints Try.underlying27 Try.underlying5 (by kernel_rfl) hf with ⟨hcs, _⟩ | ⟨x, l, c, zs, hcs, _, hl, hm, hz, _, hcell, hwz⟩
    · simp [Value.cells] at hcs
      obtain ⟨rfl, rfl, rfl⟩ := hcs
      exact ⟨[], Rd.nil_ _ _, by intro x hx; cases hx⟩
    · simp [Value.cells] at hcs
      obtain ⟨rfl, rfl, rfl⟩ := hcs
      exact ⟨_, rd_of_ints hl hm (by simpa using hz) hcell, by_of_wf hwz⟩
  clear hA0 hval0
  refine (walkFnPutVarLength a0 len0 cap0 z0 W w0 b0).mono fun e W' ⟨he, bel⟩ => ?_
  subst he
  exact ⟨_, rfl, _, _, _, [], _, [], hW', trodAll_mk1 (shut_bool Try.underlying4 _), (trodAll_cons_mk (Below.trod laidOut (by kernel_rfl) (of_decide_eq_true (by kernel_rfl)) k0 bel lt0) trodAll_mk0), rfl, bel.frame _, fun h => by cases h⟩

theorem closedFnPutVarLength : joinedFacts Try.prog 12 Try.f12 Rows.fnPutVarLengthSpec Rows.fnPutVarLengthRow = true := by
  unfold joinedFacts
  refine and_yes (and_yes (and_yes (and_yes (and_yes (and_yes (and_yes ?_ mayIn) ?_) ?_) ?_) ?_) ?_) ?_
  rotate_left
  · rw [liftsIn]; kernel_rfl
  · rw [makeIn]; kernel_rfl
  · kernel_rfl
  · kernel_rfl
  · kernel_rfl
  · kernel_rfl
  · kernel_rfl

theorem overFnPutVarLength : Rows.fnPutVarLengthRow.holds Try.pinned (OpenSpec.ofChange Rows.fnPutVarLengthSpec) :=
  OpenClaim.holds_of_wide 12 Try.f12 rfl rfl rfl rfl rfl rfl rfl ⟨rfl, rfl, rfl, rfl, rfl⟩ rfl rfl rfl rfl rfl (by kernel_rfl) Try.func12 closedFnPutVarLength
    (of_decide_eq_true (by kernel_rfl)) (by unfold Func.isWrapper; first | (rw [if_pos (by decide +kernel)]; kernel_rfl) | (rw [if_neg (by decide +kernel)]; exact ⟨rfl, rfl⟩))
    (fun os started H enc _ => liftedFnPutVarLength os started H enc)

/-- the statement -/
theorem provedFnPutVarLength : Rows.FnPutVarLengthSaid := overFnPutVarLength
#print axioms provedFnPutVarLength
end Go.Proofs.Ytfjlcpdljibgaaa
