/- The law FnPutVarOrder: for every input the law returns true, and nothing that was there has turned. -/
import Derived.Test.YtfjlcpdljibgaaaLawA4
import Derived.Test.YtfjlcpdljibgaaaDrawB
import Derived.Test.YtfjlcpdljibgaaaFrame
import Derived.Test.YtfjlcpdljibgaaaEq
import Derived.Deep.RegionHeld3
namespace Go.Proofs.Ytfjlcpdljibgaaa
set_option linter.unusedVariables false
open Go.ChangeShapes Go.WideShapes Go.ChangeAt Go.RowKit

set_option maxHeartbeats 800000 in
theorem walkFnPutVarOrder (A : Option Addr) (n c : Nat) (l : List Int) (W : World) (h : Rd W 1 A n c (bc l)) (hb : By l) : Calls Try.prog 13 #[.slice A n c] W fun e w' => e = .returned (.bool true) ∧ Below W.heap.size W w' := by
  by_cases hbig : 1048576 < n
  · go_enter Try.func13, Try.ntmps13
    go_wp2
    go_ret
    exact ⟨rfl, Below.refl _ _⟩
  go_enter Try.func13, Try.ntmps13
  go_wp2_with fail
  refine (drawPut_any A n c l W h hb (by omega)).mono ?_
  rintro e w1 ⟨x, rfl, x0, x1, hg⟩
  clear h hb
  by_cases c1 : x < 0 ∨ 200000 < x
  · have E := Lib.hid (putV_out c1)
    clear c1
    go_wp2_with fail
    refine (putVI_at x [] _ E.out).mono ?_
    rintro e w2 ⟨A1, d1, rfl, o1, g1⟩
    go_wp2_with fail
    refine (putVS_at x [] _ E.out).mono ?_
    rintro e w3 ⟨A2, d2, rfl, o2, g2⟩
    go_wp2_with fail
    refine (equalBytes_same _ _ _ _ _ _ [] _ ((Rd.own o1).keptN g2) (Rd.own o2)).mono ?_
    rintro e w4 ⟨rfl, g3⟩
    go_wp2_with fail
    refine (putVS_at x [] _ E.out).mono ?_
    rintro e w5 ⟨A3, d3, rfl, o3, g4⟩
    go_wp2_with fail
    refine (equalBytes_same _ _ _ _ _ _ [] _ ((Rd.own o1).keptN (g_trans g2 (g_trans g3 g4))) (Rd.own o3)).mono ?_
    rintro e w6 ⟨rfl, g5⟩
    have hbel := g_below (g_trans hg (g_trans g1 (g_trans g2 (g_trans g3 (g_trans g4 g5))))) (Nat.le_refl _) (by simp)
    clear o1 o2 o3 g1 g2 g3 g4 g5 hg
    go_wp2
    go_ret
    exact ⟨rfl, hbel⟩
  · have y0 : 0 ≤ x := by omega
    have y1 : x ≤ 200000 := by omega
    have hlen := @putL_len x
    have hput := putV_in y0 y1
    have hnext := putV_next y0 y1
    have hhi := fun i v => @putL_hi x y0 i v
    have hlo := fun v => @putL_lo x y0 y1 v
    have hby := putL_by y0 (by omega)
    generalize putL x = L at *
    obtain ⟨M, hM⟩ : ∃ M, putV (x + 1) = M := ⟨_, rfl⟩
    rw [hM] at hnext
    have hne : ((L.length : Int) == 0) = false := by rw [beq_eq_false_iff_ne]; omega
    have HP := Lib.hid (And.intro hput (And.intro hM hnext))
    have HL := Lib.hid (And.intro hhi (And.intro hlo hby))
    clear hput hM hnext hhi hlo hby c1
    go_wp2_with fail
    refine (putVI_at x L _ HP.out.1).mono ?_
    rintro e w2 ⟨A1, d1, rfl, o1, g1⟩
    go_wp2_with fail
    refine (putVS_at x L _ HP.out.1).mono ?_
    rintro e w3 ⟨A2, d2, rfl, o2, g2⟩
    go_wp2_with fail
    refine (equalBytes_same _ _ _ _ _ _ L _ ((Rd.own o1).keptN g2) (Rd.own o2)).mono ?_
    rintro e w4 ⟨rfl, g3⟩
    have h4 := (Rd.own o1).keptN (g_trans g2 g3)
    have hbel := g_below (g_trans hg (g_trans g1 (g_trans g2 g3))) (Nat.le_refl _) (by simp)
    obtain ⟨b, o, rfl, hcell⟩ := h4.at_ (by omega)
    have H4 := Lib.hid (And.intro h4 hcell)
    clear o1 o2 g1 g2 g3 hg h4 hcell
    go_wp2
    go_loopw [5] (fun i wr => ∃ k : Nat, k < L.length ∧ i = .int .i64 k ∧ Hid (w4 = wr)) (fun i _ => L.length - (intOf i).toNat)
    case atStart => exact ⟨0, by omega, rfl, rfl⟩
    case round =>
      obtain ⟨k, hk, rfl, hw⟩ := hrel
      obtain rfl := hw.out
      clear hw
      obtain ⟨v, hv, _⟩ := get_ex hk
      have cv := H4.out.2 k _ (bc_at hv)
      by_cases hlt : k + 1 < L.length
      · have hge : 128 ≤ v := HL.out.1 k v hv hlt
        have hlt' : (k : Int) + 1 < (L.length : Int) := by omega
        clear hv
        go_wp2
        go_roundw
        case rel => exact ⟨k + 1, by omega, by go_num, by first | exact Lib.hid rfl | exact Lib.hid trivial⟩
        case measure => simp [intOf]; omega
      · have hge : ¬ (k : Int) + 1 < (L.length : Int) := by omega
        have hk1 : L.length - 1 = k := by omega
        have hvlt : v < 128 := HL.out.2.1 v (by rw [hk1]; exact hv)
        have hi1 : (L.length : Int) - 1 = (k : Int) := by omega
        clear hv hk1
        go_wp2_with fail
        refine (putVI_at (x + 1) M _ HP.out.2.1).mono ?_
        rintro e w5 ⟨A5, d5, rfl, o5, g5⟩
        go_wp2_with fail
        refine (equalBytes_diff _ _ _ _ _ _ M L _ (Rd.own o5) (H4.out.1.keptN g5) HP.out.2.2).mono ?_
        rintro e w6 ⟨rfl, g6⟩
        have hbel2 := hbel.trans (g_below (g_trans g5 g6) (by have := hbel.size; omega) (by simp))
        clear o5 g5 g6
        go_wp2
        go_ret
        exact ⟨rfl, hbel2⟩
set_option maxRecDepth 100000 in
set_option linter.unusedVariables false in
theorem liftedFnPutVarOrder (os : Os) (started : os.Started) (H : Type) (enc : TypeId × Value → H) :
    ReturnsInHanded {} Try.checked os 13 .any (Rows.fnPutVarOrderSpec.pre6 enc Try.prog Try.f13 Rows.fnPutVarOrderRow.domain false) (Rows.fnPutVarOrderSpec.post enc Try.prog Try.f13 false true false false) := by
  refine returnsInHanded_of_change (C := Try.checked) own started (by kernel_rfl) Try.func13
    (ChangeSpec.witness6 (enc := enc) (C := Try.checked) false ⟨#[], #[.slice none 0 0], []⟩ 8 (by kernel_rfl) (by kernel_rfl) (by kernel_rfl) (by kernel_rfl)) ?_
  intro W base args ds gs before hval0 hW hcnd _
  have hval : ∀ (j : Nat) t v, Try.f13.params[j]? = some t → args[j]? = some v → Value.okWide Try.prog W .any base t v := hval0
  have hW' := hW
  obtain ⟨p, q, hA0, hV, rfl, hfz, hnd⟩ := hW
  have hA : DataW.TrodAll enc Try.prog W 0 (fun _ => true) true Try.f13.params.toList args.toList ds p := hA0
  rw [Try.params13] at hA hval
  obtain ⟨v0, vs0, d0, ds0, p0, q0, hargs, rfl, rfl, h0, r0⟩ := trodAll_cons hA
  obtain ⟨rfl, rfl, rfl⟩ := trodAll_nil r0
  obtain rfl : args = #[v0] := by cases args; simp_all
  obtain ⟨rfl, rfl⟩ := trodVars_none hV
  obtain ⟨a0, len0, cap0, rfl⟩ := okWide_slice Try.underlying27 (hval 0 27 v0 rfl rfl)
  have k0 := h0
  have lt0 : ∀ x ∈ p0, x.block < W.heap.size := by obtain ⟨m, hm⟩ := k0; exact DataW.trod_lt m _ _ _ hm
  obtain ⟨z0, w0, b0⟩ : ∃ zs : List Int, Rd W 1 a0 len0 cap0 (zs.map (Value.int .u8)) ∧ By zs := by
    obtain ⟨fuel, hf⟩ := h0
    rcases open_ints Try.underlying27 Try.underlying5 (by kernel_rfl) hf with ⟨hcs, _⟩ | ⟨x, l, c, zs, hcs, _, hl, hm, hz, _, hcell, hwz⟩
    · simp [Value.cells] at hcs
      obtain ⟨rfl, rfl, rfl⟩ := hcs
      exact ⟨[], Rd.nil_ _ _, by intro x hx; cases hx⟩
    · simp [Value.cells] at hcs
      obtain ⟨rfl, rfl, rfl⟩ := hcs
      exact ⟨_, rd_of_ints hl hm (by simpa using hz) hcell, by_of_wf hwz⟩
  clear hA0 hval0
  refine (walkFnPutVarOrder a0 len0 cap0 z0 W w0 b0).mono fun e W' ⟨he, bel⟩ => ?_
  subst he
  exact ⟨_, rfl, _, _, _, [], _, [], hW', trodAll_mk1 (shut_bool Try.underlying4 _), (trodAll_cons_mk (Below.trod laidOut (by kernel_rfl) (of_decide_eq_true (by kernel_rfl)) k0 bel lt0) trodAll_mk0), rfl, bel.frame _, fun h => by cases h⟩

theorem closedFnPutVarOrder : joinedFacts Try.prog 13 Try.f13 Rows.fnPutVarOrderSpec Rows.fnPutVarOrderRow = true := by
  unfold joinedFacts
  refine and_yes (and_yes (and_yes (and_yes (and_yes (and_yes (and_yes ?_ mayIn) ?_) ?_) ?_) ?_) ?_) ?_
  rotate_left
  · rw [liftsIn]; kernel_rfl
  · rw [makeIn]; kernel_rfl
  · kernel_rfl
  · kernel_rfl
  · kernel_rfl
  · kernel_rfl
  · kernel_rfl

theorem overFnPutVarOrder : Rows.fnPutVarOrderRow.holds Try.pinned (OpenSpec.ofChange Rows.fnPutVarOrderSpec) :=
  OpenClaim.holds_of_wide 13 Try.f13 rfl rfl rfl rfl rfl rfl rfl ⟨rfl, rfl, rfl, rfl, rfl⟩ rfl rfl rfl rfl rfl (by kernel_rfl) Try.func13 closedFnPutVarOrder
    (of_decide_eq_true (by kernel_rfl)) (by unfold Func.isWrapper; first | (rw [if_pos (by decide +kernel)]; kernel_rfl) | (rw [if_neg (by decide +kernel)]; exact ⟨rfl, rfl⟩))
    (fun os started H enc _ => liftedFnPutVarOrder os started H enc)

/-- the statement -/
theorem provedFnPutVarOrder : Rows.FnPutVarOrderSaid := overFnPutVarOrder
#print axioms provedFnPutVarOrder
end Go.Proofs.Ytfjlcpdljibgaaa
