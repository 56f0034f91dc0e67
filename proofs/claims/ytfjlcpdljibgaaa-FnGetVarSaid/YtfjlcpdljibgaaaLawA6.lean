/- The law FnGetVar: for every input the law returns true, and nothing that was there has turned. -/
import Derived.Test.YtfjlcpdljibgaaaLawA5
import Derived.Deep.RegionHeld3
namespace Go.Proofs.Ytfjlcpdljibgaaa
set_option linter.unusedVariables false
open Go.ChangeShapes Go.WideShapes Go.ChangeAt Go.RowKit

set_option maxHeartbeats 800000 in
theorem walkFnGetVar (A : Option Addr) (n c : Nat) (l : List Int) (W : World) (h : Rd W 1 A n c (bc l)) (hb : By l) : Calls Try.prog 18 #[.slice A n c] W fun e w' => e = .returned (.bool true) ∧ Below W.heap.size W w' := by
  by_cases hbig : 1048576 < n
  · go_enter Try.func18, Try.ntmps18
    go_wp2
    go_ret
    exact ⟨rfl, Below.refl _ _⟩
  go_enter Try.func18, Try.ntmps18
  go_wp2_with fail
  refine (drawGet_any A n c l W h hb (by omega)).mono ?_
  rintro e w1 ⟨A1, n1, c1, l1, rfl, h1, hb1, hn1, hg⟩
  have hl1 : l1.length = n1 := by have := h1.len; rw [bc_len] at this; omega
  have H1 := Lib.hid (And.intro h1 (And.intro hb1 hl1))
  have hcap := h1.cap
  clear h hb
  rcases get3_cases hb1 with e0 | ⟨v, k, e0, k1, k3, kl, v0, v1, hp, -⟩
  · have E := Lib.hid e0
    clear e0 h1 hb1 hl1 hcap
    go_wp2_with fail
    refine (getVI_at _ _ _ l1 0 0 false _ H1.out.1 H1.out.2.1 E.out).mono ?_
    rintro e w2 ⟨rfl, g2⟩
    go_wp2_with fail
    refine (getVS2_at _ _ _ l1 0 0 false _ (H1.out.1.keptN g2) H1.out.2.1 E.out).mono ?_
    rintro e w3 ⟨rfl, g3⟩
    have hbel := g_below (g_trans hg (g_trans g2 g3)) (Nat.le_refl _) (by simp)
    clear g2 g3 hg
    go_wp2
    go_ret
    exact ⟨rfl, hbel⟩
  · have E := Lib.hid (And.intro e0 (show putV v = l1.take k from (putV_in v0 v1).trans hp))
    have kn : k ≤ n1 := by omega
    have hT := Lib.hid ((bc_take l1 k) ▸ h1.to_ kn)
    have kn' : (k : Int) ≤ (n1 : Int) := by omega
    have HK := Lib.hid (show (l1.take k).length = k by rw [List.length_take]; omega)
    have kc' : (k : Int) ≤ (c1 : Int) := by omega
    clear e0 h1 hb1 hp kl
    go_wp2_with fail
    refine (getVI_at _ _ _ l1 v k true _ H1.out.1 H1.out.2.1 E.out.1).mono ?_
    rintro e w2 ⟨rfl, g2⟩
    go_wp2_with fail
    refine (getVS2_at _ _ _ l1 v k true _ (H1.out.1.keptN g2) H1.out.2.1 E.out.1).mono ?_
    rintro e w3 ⟨rfl, g3⟩
    have GG := g_trans hg (g_trans g2 g3)
    have hR := hT.out.keptN (g_trans g2 g3)
    clear g2 g3 hg
    go_wp2_with fail
    go_region_held3 (fun w' => w3.grownBy w' none) (first | exact g_refl _ _ | exact g_drew _ _ | assumption | exact g_trans (by assumption : w3.grownBy _ none) g4 | exact g_trans (by assumption : w3.grownBy _ none) g5) (first
      | (go_at_call 25; refine (putVI_at v (l1.take k) _ E.out.2).mono ?_; rintro e w4 ⟨A4, c4, rfl, o4, g4⟩)
      | (go_at_call 37; have r4 := Rd.own o4; (try rw [HK.out] at r4); refine (equalBytes_same _ _ _ _ _ _ (l1.take k) _ r4 (hR.keptN (by assumption))).mono ?_; rintro e w5 ⟨rfl, g5⟩))
    all_goals (go_wp2; go_ret; exact ⟨rfl, g_below (g_trans GG (by first | assumption | exact g_trans (by assumption) g5 | exact g_trans (g_trans (by assumption) g4) g5 | exact g_trans g4 g5)) (Nat.le_refl _) (by simp)⟩)
set_option maxRecDepth 100000 in
set_option linter.unusedVariables false in
theorem liftedFnGetVar (os : Os) (started : os.Started) (H : Type) (enc : TypeId × Value → H) :
    ReturnsInHanded {} Try.checked os 18 .any (Rows.fnGetVarSpec.pre6 enc Try.prog Try.f18 Rows.fnGetVarRow.domain false) (Rows.fnGetVarSpec.post enc Try.prog Try.f18 false true false false) := by
  refine returnsInHanded_of_change (C := Try.checked) own started (by kernel_rfl) Try.func18
    (ChangeSpec.witness6 (enc := enc) (C := Try.checked) false ⟨#[], #[.slice none 0 0], []⟩ 8 (by kernel_rfl) (by kernel_rfl) (by kernel_rfl) (by kernel_rfl)) ?_
  intro W base args ds gs before hval0 hW hcnd _
  have hval : ∀ (j : Nat) t v, Try.f18.params[j]? = some t → args[j]? = some v → Value.okWide Try.prog W .any base t v := hval0
  have hW' := hW
  obtain ⟨p, q, hA0, hV, rfl, hfz, hnd⟩ := hW
  have hA : DataW.TrodAll enc Try.prog W 0 (fun _ => true) true Try.f18.params.toList args.toList ds p := hA0
  rw [Try.params18] at hA hval
  obtain ⟨v0, vs0, d0, ds0, p0, q0, hargs, rfl, rfl, h0, r0⟩ := trodAll_cons hA
  obtain ⟨rfl, rfl, rfl⟩ := trodAll_nil r0
  obtain rfl : args = #[v0] := by cases args; simp_all
  obtain ⟨rfl, rfl⟩ := trodVars_none hV
  obtain ⟨a0, len0, cap0, rfl⟩ := okWide_slice Try.underlying27 (hval 0 27 v0 rfl rfl)
  have k0 := h0
  have lt0 : ∀ x ∈ p0, x.block < W.heap.size := by obtain ⟨m, hm⟩ := k0; exact DataW.trod_lt m _ _ _ hm
  obtain ⟨z0, w0, b0⟩ : ∃ zs : List Int, Rd W 1 a0 len0 cap0 (zs.map (Value.int .u8)) ∧ By zs := by
    obtain ⟨fuel, hf⟩ := h0
    rcases open_ints Try.underlying27 Try.underlying5 (by kernel_rfl) hf with ⟨hcs, _⟩ | ⟨x, l, c, zs, hcs, _, hl, hm, hz, _, hcell, hwz⟩
    · simp [Value.cells] at hcs
      obtain ⟨rfl, rfl, rfl⟩ := hcs
      exact ⟨[], Rd.nil_ _ _, by intro x hx; cases hx⟩
    · simp [Value.cells] at hcs
      obtain ⟨rfl, rfl, rfl⟩ := hcs
      exact ⟨_, rd_of_ints hl hm (by simpa using hz) hcell, by_of_wf hwz⟩
  clear hA0 hval0
  refine (walkFnGetVar a0 len0 cap0 z0 W w0 b0).mono fun e W' ⟨he, bel⟩ => ?_
  subst he
  exact ⟨_, rfl, _, _, _, [], _, [], hW', trodAll_mk1 (shut_bool Try.underlying4 _), (trodAll_cons_mk (Below.trod laidOut (by kernel_rfl) (of_decide_eq_true (by kernel_rfl)) k0 bel lt0) trodAll_mk0), rfl, bel.frame _, fun h => by cases h⟩

theorem closedFnGetVar : joinedFacts Try.prog 18 Try.f18 Rows.fnGetVarSpec Rows.fnGetVarRow = true := by
  unfold joinedFacts
  refine and_yes (and_yes (and_yes (and_yes (and_yes (and_yes (and_yes ?_ mayIn) ?_) ?_) ?_) ?_) ?_) ?_
  rotate_left
  · rw [liftsIn]; kernel_rfl
  · rw [makeIn]; kernel_rfl
  · kernel_rfl
  · kernel_rfl
  · kernel_rfl
  · kernel_rfl
  · kernel_rfl

theorem overFnGetVar : Rows.fnGetVarRow.holds Try.pinned (OpenSpec.ofChange Rows.fnGetVarSpec) :=
  OpenClaim.holds_of_wide 18 Try.f18 rfl rfl rfl rfl rfl rfl rfl ⟨rfl, rfl, rfl, rfl, rfl⟩ rfl rfl rfl rfl rfl (by kernel_rfl) Try.func18 closedFnGetVar
    (of_decide_eq_true (by kernel_rfl)) (by unfold Func.isWrapper; first | (rw [if_pos (by decide +kernel)]; kernel_rfl) | (rw [if_neg (by decide +kernel)]; exact ⟨rfl, rfl⟩))
    (fun os started H enc _ => liftedFnGetVar os started H enc)

/-- the statement -/
theorem provedFnGetVar : Rows.FnGetVarSaid := overFnGetVar
#print axioms provedFnGetVar
end Go.Proofs.Ytfjlcpdljibgaaa
