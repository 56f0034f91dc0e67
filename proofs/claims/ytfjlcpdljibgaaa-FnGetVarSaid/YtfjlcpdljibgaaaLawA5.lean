/- The laws FnPutVarOrder, FnExactGetVar, FnGetVar and FnGetVarMore: for every input the law returns true, and nothing that was there has turned. -/
import Derived.Test.YtfjlcpdljibgaaaFrame
import Derived.Test.YtfjlcpdljibgaaaDrawB
import Derived.Test.YtfjlcpdljibgaaaGet
import Derived.Test.YtfjlcpdljibgaaaEq
import Derived.Test.YtfjlcpdljibgaaaLawA4
import Derived.Deep.RegionHeld3
namespace Go.Proofs.Ytfjlcpdljibgaaa
set_option linter.unusedVariables false
open Go.ChangeShapes Go.WideShapes Go.ChangeAt Go.RowKit

theorem getVS2_at (A : Option Addr) (n c : Nat) (l : List Int) (a b : Int) (k : Bool) (w : World) (h1 : Rd w 1 A n c (bc l)) (hb : By l) (h : get3 l = (a, b, k)) :
    Calls Try.prog 29 #[.slice A n c] w fun e w' => e = .returned (.tuple #[.int .i64 a, .int .i64 b, .bool k]) ∧ w.grownBy w' none := by
  refine (getV2_any A n c l w h1 hb).mono ?_
  rintro e w' ⟨rfl, hg⟩
  exact ⟨by rw [h]; rfl, hg⟩

/-- where there is a number, its bytes are the beginning, and what follows does not matter -/
theorem getV_yes {l : List Int} (hb : By l) (h : 0 < (getV l).2) : ∃ k : Nat, (getV l).2 = k ∧ 1 ≤ k ∧ k ≤ 3 ∧ k ≤ l.length ∧ 0 ≤ (getV l).1 ∧ (getV l).1 ≤ 200000 ∧ putL (getV l).1 = l.take k ∧ ∀ m, getV (l.take k ++ m) = getV l := by
  match l with
  | [] => simp [getV] at h
  | a :: r =>
    have ha := hb a (by simp)
    by_cases h1 : a < 128
    · have e : getV (a :: r) = (a, 1) := by simp only [getV]; rw [if_pos h1]
      rw [e]
      refine ⟨1, rfl, by omega, by omega, by simp, ha.1, by simp; omega, ?_, fun m => ?_⟩
      · rw [putL_small h1]; rfl
      · show getV (a :: m) = _
        simp only [getV]; rw [if_pos h1]
    · match r with
      | [] => simp [getV, h1] at h
      | b :: r =>
        have hb2 := hb b (by simp)
        by_cases h2 : b < 128
        · by_cases h3 : b = 0
          · simp [getV, h1, h3] at h
          · have e : ∀ q, getV (a :: b :: q) = (a - 128 + 128 * b, 2) := fun q => by simp only [getV]; rw [if_neg h1, if_pos h2, if_neg h3]
            rw [e]
            refine ⟨2, rfl, by omega, by omega, by simp, by simp; omega, by simp; omega, ?_, fun m => e m⟩
            show putL (a - 128 + 128 * b) = [a, b]
            rw [putL_step (by omega) (by omega), putL_small (by omega)]
            have e1 : (a - 128 + 128 * b) % 128 + 128 = a := by omega
            have e2 : (a - 128 + 128 * b) / 128 = b := by omega
            rw [e1, e2]
        · match r with
          | [] => simp [getV, h1, h2] at h
          | c :: r =>
            have hb3 := hb c (by simp)
            by_cases h3 : c < 128
            · by_cases h4 : c = 0 ∨ 200000 < a - 128 + 128 * (b - 128) + 16384 * c
              · simp [getV, h1, h2, h3, h4] at h
              · have e : ∀ q, getV (a :: b :: c :: q) = (a - 128 + 128 * (b - 128) + 16384 * c, 3) := fun q => by simp only [getV]; rw [if_neg h1, if_neg h2, if_pos h3, if_neg h4]
                rw [e]
                refine ⟨3, rfl, by omega, by omega, by simp, by simp; omega, by simp; omega, ?_, fun m => e m⟩
                show putL (a - 128 + 128 * (b - 128) + 16384 * c) = [a, b, c]
                rw [putL_step (by omega) (by omega), putL_step (by omega) (by omega), putL_small (by omega)]
                have e1 : (a - 128 + 128 * (b - 128) + 16384 * c) % 128 + 128 = a := by omega
                have e2 : (a - 128 + 128 * (b - 128) + 16384 * c) / 128 % 128 + 128 = b := by omega
                have e3 : (a - 128 + 128 * (b - 128) + 16384 * c) / 128 / 128 = c := by omega
                rw [e1, e2, e3]
            · simp [getV, h1, h2, h3] at h

theorem get3_cases {l : List Int} (hb : By l) : get3 l = (0, 0, false) ∨ ∃ (v : Int) (k : Nat), get3 l = (v, (k : Int), true) ∧ 1 ≤ k ∧ k ≤ 3 ∧ k ≤ l.length ∧ 0 ≤ v ∧ v ≤ 200000 ∧ putL v = l.take k ∧ ∀ m, get3 (l.take k ++ m) = (v, (k : Int), true) := by
  by_cases h : 0 < (getV l).2
  · right
    obtain ⟨k, hk, h1, h2, h3, h4, h5, h6, h7⟩ := getV_yes hb h
    refine ⟨(getV l).1, k, ?_, h1, h2, h3, h4, h5, h6, fun m => ?_⟩
    · unfold get3 mk3
      rw [← hk]
      simp [h]
    · unfold get3 mk3
      rw [h7, ← hk]
      simp [h]
  · left
    unfold get3 mk3
    have e : getV l = (0, 0) := by
      match l with
      | [] => rfl
      | a :: r =>
        by_cases h1 : a < 128
        · simp [getV, h1] at h
        · match r with
          | [] => simp [getV, h1]
          | b :: r =>
            by_cases h2 : b < 128
            · by_cases h3 : b = 0
              · simp [getV, h1, h3]
              · simp [getV, h1, h2, h3] at h
            · match r with
              | [] => simp [getV, h1, h2]
              | c :: r =>
                by_cases h3 : c < 128
                · by_cases h4 : c = 0 ∨ 200000 < a - 128 + 128 * (b - 128) + 16384 * c
                  · simp only [getV]; rw [if_neg h1, if_neg h2, if_pos h3, if_pos h4]
                  · exfalso
                    apply h
                    simp only [getV]; rw [if_neg h1, if_neg h2, if_pos h3, if_neg h4]
                    simp
                · simp [getV, h1, h2, h3]
    rw [e]
    simp

set_option maxHeartbeats 800000 in
theorem walkFnExactGetVar (A : Option Addr) (n c : Nat) (l : List Int) (W : World) (h : Rd W 1 A n c (bc l)) (hb : By l) : Calls Try.prog 9 #[.slice A n c] W fun e w' => e = .returned (.bool true) ∧ Below W.heap.size W w' := by
  by_cases hbig : 1048576 < n
  · go_enter Try.func9, Try.ntmps9
    go_wp2
    go_ret
    exact ⟨rfl, Below.refl _ _⟩
  obtain ⟨⟨a, b, k⟩, hr⟩ : ∃ r, get3 l = r := ⟨_, rfl⟩
  have H := Lib.hid (And.intro h (And.intro hb hr))
  clear h hb hr
  go_enter Try.func9, Try.ntmps9
  go_wp2_with fail
  refine (toByteS_any A n c l _ H.out.1 (by omega)).mono ?_
  rintro e w1 ⟨A1, c1, rfl, o1, g1⟩
  go_wp2_with fail
  refine (getVS2_at _ _ _ l a b k _ (Rd.own o1) H.out.2.1 H.out.2.2).mono ?_
  rintro e w2 ⟨rfl, g2⟩
  go_wp2_with fail
  refine (toByteS_any A n c l _ (H.out.1.keptN (g_trans g1 g2)) (by omega)).mono ?_
  rintro e w3 ⟨A2, c2, rfl, o2, g3⟩
  go_wp2_with fail
  refine (getVI_at _ _ _ l a b k _ (Rd.own o2) H.out.2.1 H.out.2.2).mono ?_
  rintro e w4 ⟨rfl, g4⟩
  go_wp2_with fail
  refine (toByteS_any A n c l _ (H.out.1.keptN (g_trans g1 (g_trans g2 (g_trans g3 g4)))) (by omega)).mono ?_
  rintro e w5 ⟨A3, c3, rfl, o3, g5⟩
  go_wp2_with fail
  refine (eqByteS_same _ _ _ _ _ _ l _ ((Rd.own o2).keptN (g_trans g4 g5)) (Rd.own o3)).mono ?_
  rintro e w6 ⟨rfl, g6⟩
  have hbel := g_below (g_trans g1 (g_trans g2 (g_trans g3 (g_trans g4 (g_trans g5 g6))))) (Nat.le_refl _) (by simp)
  clear o1 o2 o3 g1 g2 g3 g4 g5 g6
  go_wp2
  go_ret
  exact ⟨rfl, hbel⟩
set_option maxRecDepth 100000 in
set_option linter.unusedVariables false in
theorem liftedFnExactGetVar (os : Os) (started : os.Started) (H : Type) (enc : TypeId × Value → H) :
    ReturnsInHanded {} Try.checked os 9 .any (Rows.fnExactGetVarSpec.pre6 enc Try.prog Try.f9 Rows.fnExactGetVarRow.domain false) (Rows.fnExactGetVarSpec.post enc Try.prog Try.f9 false true false false) := by
  refine returnsInHanded_of_change (C := Try.checked) own started (by kernel_rfl) Try.func9
    (ChangeSpec.witness6 (enc := enc) (C := Try.checked) false ⟨#[], #[.slice none 0 0], []⟩ 8 (by kernel_rfl) (by kernel_rfl) (by kernel_rfl) (by kernel_rfl)) ?_
  intro W base args ds gs before hval0 hW hcnd _
  have hval : ∀ (j : Nat) t v, Try.f9.params[j]? = some t → args[j]? = some v → Value.okWide Try.prog W .any base t v := hval0
  have hW' := hW
  obtain ⟨p, q, hA0, hV, rfl, hfz, hnd⟩ := hW
  have hA : DataW.TrodAll enc Try.prog W 0 (fun _ => true) true Try.f9.params.toList args.toList ds p := hA0
  rw [Try.params9] at hA hval
  obtain ⟨v0, vs0, d0, ds0, p0, q0, hargs, rfl, rfl, h0, r0⟩ := trodAll_cons hA
  obtain ⟨rfl, rfl, rfl⟩ := trodAll_nil r0
  obtain rfl : args = #[v0] := by cases args; simp_all
  obtain ⟨rfl, rfl⟩ := trodVars_none hV
  obtain ⟨a0, len0, cap0, rfl⟩ := okWide_slice Try.underlying27 (hval 0 27 v0 rfl rfl)
  have k0 := h0
  have lt0 : ∀ x ∈ p0, x.block < W.heap.size := by obtain ⟨m, hm⟩ := k0; exact DataW.trod_lt m _ _ _ hm
  obtain ⟨z0, w0, b0⟩ : ∃ zs : List Int, Rd W 1 a0 len0 cap0 (zs.map (Value.int .u8)) ∧ By zs := by
    obtain ⟨fuel, hf⟩ := h0
    rcases open_ints Try.underlying27 Try.underlying5 (by kernel_rfl) hf with ⟨hcs, _⟩ | ⟨x, l, c, zs, hcs, _, hl, hm, hz, _, hcell, hwz⟩
    · simp [Value.cells] at hcs
      obtain ⟨rfl, rfl, rfl⟩ := hcs
      exact ⟨[], Rd.nil_ _ _, by intro x hx; cases hx⟩
    · simp [Value.cells] at hcs
      obtain ⟨rfl, rfl, rfl⟩ := hcs
      exact ⟨_, rd_of_ints hl hm (by simpa using hz) hcell, by_of_wf hwz⟩
  clear hA0 hval0
  refine (walkFnExactGetVar a0 len0 cap0 z0 W w0 b0).mono fun e W' ⟨he, bel⟩ => ?_
  subst he
  exact ⟨_, rfl, _, _, _, [], _, [], hW', trodAll_mk1 (shut_bool Try.underlying4 _), (trodAll_cons_mk (Below.trod laidOut (by kernel_rfl) (of_decide_eq_true (by kernel_rfl)) k0 bel lt0) trodAll_mk0), rfl, bel.frame _, fun h => by cases h⟩

theorem closedFnExactGetVar : joinedFacts Try.prog 9 Try.f9 Rows.fnExactGetVarSpec Rows.fnExactGetVarRow = true := by
  unfold joinedFacts
  refine and_yes (and_yes (and_yes (and_yes (and_yes (and_yes (and_yes ?_ mayIn) ?_) ?_) ?_) ?_) ?_) ?_
  rotate_left
  · rw [liftsIn]; kernel_rfl
  · rw [makeIn]; kernel_rfl
  · kernel_rfl
  · kernel_rfl
  · kernel_rfl
  · kernel_rfl
  · kernel_rfl

theorem overFnExactGetVar : Rows.fnExactGetVarRow.holds Try.pinned (OpenSpec.ofChange Rows.fnExactGetVarSpec) :=
  OpenClaim.holds_of_wide 9 Try.f9 rfl rfl rfl rfl rfl rfl rfl ⟨rfl, rfl, rfl, rfl, rfl⟩ rfl rfl rfl rfl rfl (by kernel_rfl) Try.func9 closedFnExactGetVar
    (of_decide_eq_true (by kernel_rfl)) (by unfold Func.isWrapper; first | (rw [if_pos (by decide +kernel)]; kernel_rfl) | (rw [if_neg (by decide +kernel)]; exact ⟨rfl, rfl⟩))
    (fun os started H enc _ => liftedFnExactGetVar os started H enc)

/-- the statement -/
theorem provedFnExactGetVar : Rows.FnExactGetVarSaid := overFnExactGetVar
#print axioms provedFnExactGetVar
end Go.Proofs.Ytfjlcpdljibgaaa
