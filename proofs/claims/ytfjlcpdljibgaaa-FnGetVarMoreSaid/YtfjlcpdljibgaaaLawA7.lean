/- The law FnGetVarMore: for every input the law returns true, and nothing that was there has turned. -/
import Derived.Test.YtfjlcpdljibgaaaLawA5
import Derived.Deep.RegionHeld3
namespace Go.Proofs.Ytfjlcpdljibgaaa
set_option linter.unusedVariables false
open Go.ChangeShapes Go.WideShapes Go.ChangeAt Go.RowKit

set_option maxHeartbeats 800000 in
theorem walkFnGetVarMore (A : Option Addr) (n c : Nat) (l : List Int) (W : World) (h : Rd W 1 A n c (bc l)) (hb : By l) : Calls Try.prog 14 #[.slice A n c] W fun e w' => e = .returned (.bool true) ∧ Below W.heap.size W w' := by
  by_cases hbig : 1048576 < n
  · go_enter Try.func14, Try.ntmps14
    go_wp2
    go_ret
    exact ⟨rfl, Below.refl _ _⟩
  obtain ⟨i0, hi, hz0, hz1, hz2⟩ := info_parts infoU8
  go_enter Try.func14, Try.ntmps14
  go_wp2_with fail
  refine (drawGet_any A n c l W h hb (by omega)).mono ?_
  rintro e w1 ⟨A1, n1, c1, l1, rfl, h1, hb1, hn1, hg⟩
  have hl1 : l1.length = n1 := by have := h1.len; rw [bc_len] at this; omega
  have H1 := Lib.hid (And.intro h1 (And.intro hb1 hl1))
  have hcap := h1.cap
  clear h hb
  rcases get3_cases hb1 with e0 | ⟨v, k, e0, k1, k3, kl, v0, v1, hp, hm⟩
  · have E := Lib.hid e0
    clear e0 h1 hb1 hl1 hcap
    go_wp2_with fail
    refine (getVI_at _ _ _ l1 0 0 false _ H1.out.1 H1.out.2.1 E.out).mono ?_
    rintro e w2 ⟨rfl, g2⟩
    go_wp2_with fail
    refine (getVS2_at _ _ _ l1 0 0 false _ (H1.out.1.keptN g2) H1.out.2.1 E.out).mono ?_
    rintro e w3 ⟨rfl, g3⟩
    have hbel := g_below (g_trans hg (g_trans g2 g3)) (Nat.le_refl _) (by simp)
    clear g2 g3 hg
    go_wp2
    go_ret
    exact ⟨rfl, hbel⟩
  · have E := Lib.hid (And.intro e0 (hm [200, 7]))
    have kn : k ≤ n1 := by omega
    have hT := (bc_take l1 k) ▸ h1.to_ kn
    obtain ⟨b, o, rfl, hcell⟩ := hT.at_ (by omega)
    have hlT : (l1.take k).length = k := by rw [List.length_take]; omega
    have HT := Lib.hid (And.intro hcell hlT)
    have kn' : (k : Int) ≤ (n1 : Int) := by omega
    have kc' : (k : Int) ≤ (c1 : Int) := by omega
    have kn2 : ¬ (n1 : Int) < (k : Int) := by omega
    clear e0 h1 hb1 hp kl hm hT hcell hlT
    go_wp2_with fail
    refine (getVI_at _ _ _ l1 v k true _ H1.out.1 H1.out.2.1 E.out.1).mono ?_
    rintro e w2 ⟨rfl, g2⟩
    go_wp2_with fail
    refine (getVS2_at _ _ _ l1 v k true _ (H1.out.1.keptN g2) H1.out.2.1 E.out.1).mono ?_
    rintro e w3 ⟨rfl, g3⟩
    have GT := g_trans hg (g_trans g2 g3)
    have hsz := GT.size
    have g23 := Lib.hid (g_trans g2 g3)
    clear g2 g3 hg
    go_wp2_with (first
      | (at_builtin; refine wpList_append_own _ rfl (.tmp 67) (.tmp 70) 27 rfl W.heap.size 5 i0 _ 1 1 Try.underlying27 hi hz0 hz1 hz2 rfl (by decide) (.slice (some ⟨w3.heap.size, 0, none⟩) 0 0) 0 [] rfl (own_lit w3 W.heap.size _ 1 [] 0 hsz (by omega) rfl) ⟨b, o, none⟩ k c1 (bc (l1.take k)) rfl (by rw [bc_len, HT.out.2]) (fun j u hu => by rw [add_lit']; exact (g_trans g23.out (g_alloc _ _ _)).cell (HT.out.1 j u hu) (by simp)) (bc_one _) (by simp only [maxLen]; omega) (by omega) (by simp; omega) ?_; intro v1 w4 hown4 hgrow4 _; simp only [Nat.zero_add, List.nil_append] at hown4; obtain ⟨A4, c4, rfl⟩ := own_form hown4; have GT4 := g_new (g_trans GT (g_alloc _ _ _)) hgrow4 (by simp [Value.ownBlock]; omega); have hsz4 := GT4.size; clear hgrow4 GT)
      | (at_builtin; refine wpList_append_own _ rfl (.tmp 71) (.tmp 72) 27 rfl W.heap.size 5 i0 _ 1 1 Try.underlying27 hi hz0 hz1 hz2 rfl (by decide) (.slice A4 k c4) k (bc (l1.take k)) rfl (hown4.alloc _) ⟨w4.heap.size, 0, none⟩ 2 2 (bc [200, 7]) rfl rfl (fun j u hu => (own_lit w4 0 _ 1 (bc [200, 7]) 2 (Nat.zero_le _) (by omega) rfl).cells rfl j u hu) (bc_one _) (by simp only [maxLen]; omega) (by omega) (by simp; omega) ?_; intro v2 w5 hown5 hgrow5 _; obtain ⟨A5, c5, rfl⟩ := own_form hown5; have GT5 := g_new (g_trans GT4 (g_alloc _ _ _)) hgrow5 (own_new hown4); clear hgrow5 GT4))
    rw [← bc_app] at hown5
    have H5 := Lib.hid (Rd.own hown5)
    clear hown4 hown5
    go_wp2_with fail
    refine (getVI_at _ _ _ (l1.take k ++ [200, 7]) v k true _ H5.out (By.app (H1.out.2.1.take k) (by intro a ha; simp at ha; omega)) E.out.2).mono ?_
    rintro e w6 ⟨rfl, g6⟩
    have hbel := g_below (g_trans GT5 g6) (Nat.le_refl _) (by simp)
    clear GT5 g6
    go_wp2
    go_ret
    exact ⟨rfl, hbel⟩
set_option maxRecDepth 100000 in
set_option linter.unusedVariables false in
theorem liftedFnGetVarMore (os : Os) (started : os.Started) (H : Type) (enc : TypeId × Value → H) :
    ReturnsInHanded {} Try.checked os 14 .any (Rows.fnGetVarMoreSpec.pre6 enc Try.prog Try.f14 Rows.fnGetVarMoreRow.domain false) (Rows.fnGetVarMoreSpec.post enc Try.prog Try.f14 false true false false) := by
  refine returnsInHanded_of_change (C := Try.checked) own started (by kernel_rfl) Try.func14
    (ChangeSpec.witness6 (enc := enc) (C := Try.checked) false ⟨#[], #[.slice none 0 0], []⟩ 8 (by kernel_rfl) (by kernel_rfl) (by kernel_rfl) (by kernel_rfl)) ?_
  intro W base args ds gs before hval0 hW hcnd _
  have hval : ∀ (j : Nat) t v, Try.f14.params[j]? = some t → args[j]? = some v → Value.okWide Try.prog W .any base t v := hval0
  have hW' := hW
  obtain ⟨p, q, hA0, hV, rfl, hfz, hnd⟩ := hW
  have hA : DataW.TrodAll enc Try.prog W 0 (fun _ => true) true Try.f14.params.toList args.toList ds p := hA0
  rw [Try.params14] at hA hval
  obtain ⟨v0, vs0, d0, ds0, p0, q0, hargs, rfl, rfl, h0, r0⟩ := trodAll_cons hA
  obtain ⟨rfl, rfl, rfl⟩ := trodAll_nil r0
  obtain rfl : args = #[v0] := by cases args; simp_all
  obtain ⟨rfl, rfl⟩ := trodVars_none hV
  obtain ⟨a0, len0, cap0, rfl⟩ := okWide_slice Try.underlying27 (hval 0 27 v0 rfl rfl)
  have k0 := h0
  have lt0 : ∀ x ∈ p0, x.block < W.heap.size := by obtain ⟨m, hm⟩ := k0; exact DataW.trod_lt m _ _ _ hm
  obtain ⟨z0, w0, b0⟩ : ∃ zs : List Int, Rd W 1 a0 len0 cap0 (zs.map (Value.int .u8)) ∧ By zs := by
    obtain ⟨fuel, hf⟩ := h0
    rcases open_ints Try.underlying27 Try.underlying5 (by kernel_rfl) hf with ⟨hcs, _⟩ | ⟨x, l, c, zs, hcs, _, hl, hm, hz, _, hcell, hwz⟩
    · simp [Value.cells] at hcs
      obtain ⟨rfl, rfl, rfl⟩ := hcs
      exact ⟨[], Rd.nil_ _ _, by intro x hx; cases hx⟩
    · simp [Value.cells] at hcs
      obtain ⟨rfl, rfl, rfl⟩ := hcs
      exact ⟨_, rd_of_ints hl hm (by simpa using hz) hcell, by_of_wf hwz⟩
  clear hA0 hval0
  refine (walkFnGetVarMore a0 len0 cap0 z0 W w0 b0).mono fun e W' ⟨he, bel⟩ => ?_
  subst he
  exact ⟨_, rfl, _, _, _, [], _, [], hW', trodAll_mk1 (shut_bool Try.underlying4 _), (trodAll_cons_mk (Below.trod laidOut (by kernel_rfl) (of_decide_eq_true (by kernel_rfl)) k0 bel lt0) trodAll_mk0), rfl, bel.frame _, fun h => by cases h⟩

theorem closedFnGetVarMore : joinedFacts Try.prog 14 Try.f14 Rows.fnGetVarMoreSpec Rows.fnGetVarMoreRow = true := by
  unfold joinedFacts
  refine and_yes (and_yes (and_yes (and_yes (and_yes (and_yes (and_yes ?_ mayIn) ?_) ?_) ?_) ?_) ?_) ?_
  rotate_left
  · rw [liftsIn]; kernel_rfl
  · rw [makeIn]; kernel_rfl
  · kernel_rfl
  · kernel_rfl
  · kernel_rfl
  · kernel_rfl
  · kernel_rfl

theorem overFnGetVarMore : Rows.fnGetVarMoreRow.holds Try.pinned (OpenSpec.ofChange Rows.fnGetVarMoreSpec) :=
  OpenClaim.holds_of_wide 14 Try.f14 rfl rfl rfl rfl rfl rfl rfl ⟨rfl, rfl, rfl, rfl, rfl⟩ rfl rfl rfl rfl rfl (by kernel_rfl) Try.func14 closedFnGetVarMore
    (of_decide_eq_true (by kernel_rfl)) (by unfold Func.isWrapper; first | (rw [if_pos (by decide +kernel)]; kernel_rfl) | (rw [if_neg (by decide +kernel)]; exact ⟨rfl, rfl⟩))
    (fun os started H enc _ => liftedFnGetVarMore os started H enc)

/-- the statement -/
theorem provedFnGetVarMore : Rows.FnGetVarMoreSaid := overFnGetVarMore
#print axioms provedFnGetVarMore
end Go.Proofs.Ytfjlcpdljibgaaa
