/- Plain laws of buckets: no program is named here, but for the readers. -/
import Derived.Test.YtoncefhcabgaaaaGrp
import Derived.Test.YtoncefhcabgaaaaBvl
import Derived.Test.YtoncefhcabgaaaaBkv
import Derived.Test.YtoncefhcabgaaaaRoll
namespace Go.Proofs.Ytoncefhcabgaaaa
set_option linter.unusedVariables false
open Go.RowKit

theorem okW_take {W : Int} {l : List Bk} (k : Nat) (h : okW W l = true) : okW W (l.take k) = true := by
  obtain ⟨h1, h2⟩ := okW_iff.1 h
  obtain ⟨h3, h4, h5⟩ := okBs_iff.1 h2
  refine okW_iff.2 ⟨h1, okBs_iff.2 ⟨?_, fun b hb => h4 b (List.mem_of_mem_take hb), List.Pairwise.sublist (List.take_sublist _ _) h5⟩⟩
  rw [List.length_take]
  omega
theorem okW_one {W : Int} {l : List Bk} (h : okW W l = true) : okW 1 l = true := by
  obtain ⟨h1, h2⟩ := okW_iff.1 h
  obtain ⟨h3, h4, h5⟩ := okBs_iff.1 h2
  refine okW_iff.2 ⟨by omega, okBs_iff.2 ⟨h3, fun b hb => ?_, h5⟩⟩
  obtain ⟨a1, a2, a3, a⟩ := okB1_iff.1 (h4 b hb)
  exact okB1_iff.2 ⟨a1, a2, by omega, a⟩
theorem re_self {W : Int} {l : List Bk} (h : ∀ b ∈ l, b.1 % W = 0) : l.map (reB (flr W)) = l := by
  induction l with
  | nil => rfl
  | cons b l ih =>
    rw [List.map_cons, ih (fun x hx => h x (List.mem_cons_of_mem _ hx))]
    have := h b List.mem_cons_self
    unfold reB flr
    rw [this]
    simp
theorem coar_one {W : Int} {l : List Bk} (h : okW W l = true) : coarV W 1 l = (l, true) := by
  obtain ⟨h1, h2⟩ := okW_iff.1 h
  obtain ⟨h3, h4, h5⟩ := okBs_iff.1 h2
  have hc : coarC W 1 l = true := coarC_iff.2 ⟨⟨h1, h2⟩, by omega, by omega⟩
  have hg : coarG (W * 1) l = l := by
    unfold coarG
    rw [Int.mul_one, re_self (fun b hb => (okB1_iff.1 (h4 b hb)).2.2.1), grp_self h5]
  rw [coarV_yes hc, hg, if_pos]
  exact cntOk_iff.2 fun b hb => (okB1_iff.1 (h4 b hb)).2.2.2.2.1
theorem mrg_none {W : Int} {l : List Bk} (h : okW W l = true) : mrgV W l [] = (l, true) ∧ mrgV W [] l = (l, true) := by
  obtain ⟨h1, h2⟩ := okW_iff.1 h
  obtain ⟨h3, h4, h5⟩ := okBs_iff.1 h2
  have hn : okW W [] = true := by
    have := okW_take 0 h
    simpa using this
  constructor
  · rw [mrgV_yes (by rw [h, hn]; rfl), mrgL_nil_r, grp_self h5, if_pos h]
  · rw [mrgV_yes (by rw [h, hn]; rfl), mrgL_nil_l, grp_self h5, if_pos h]
/-- a merge that is told to be fine: counts, both orders, and a valid outcome -/
theorem mrg_fine {W : Int} {a b L : List Bk} (h : mrgV W a b = (L, true)) : cntB L = cntB a + cntB b ∧ mrgV W b a = (L, true) ∧ okW W L = true := by
  cases hab : (okW W a && okW W b) with
  | false => rw [mrgV_no hab] at h; simp at h
  | true =>
    rw [mrgV_yes hab] at h
    by_cases hg : okW W (grp (mrgL a b)) = true
    · rw [if_pos hg] at h
      injection h with h _
      subst h
      obtain ⟨ha, hb⟩ := Bool.and_eq_true _ _ ▸ hab
      have hA := (okBs_iff.1 (okW_iff.1 ha).2).2.2
      have hB := (okBs_iff.1 (okW_iff.1 hb).2).2.2
      refine ⟨by rw [cntB_grp, cntB_mrg], ?_, hg⟩
      rw [mrgV_yes (by rw [ha, hb]; rfl), ← grp_mrg_comm hA hB, if_pos hg]
    · rw [if_neg hg] at h
      simp at h
/-- coarser buckets that are told to be fine -/
theorem coar_fine {W T : Int} {l L : List Bk} (h : coarV W T l = (L, true)) : cntB L = cntB l ∧ sumB L = sumB l ∧ L.length ≤ l.length ∧ okW (W * T) L = true := by
  cases hc : coarC W T l with
  | false => rw [coarV_no hc] at h; simp at h
  | true =>
    rw [coarV_yes hc] at h
    obtain ⟨⟨h1, h2⟩, h3, h4⟩ := coarC_iff.1 hc
    have hV : 1 ≤ W * T := mul_ge h1.1 h3.1
    by_cases hk : cntOk (coarG (W * T) l) = true
    · rw [if_pos hk] at h
      injection h with h _
      subst h
      have hcm : ∀ l : List Bk, cntB (l.map (reB (flr (W * T)))) = cntB l := by
        intro l
        induction l with
        | nil => rfl
        | cons b l ih => simp only [List.map_cons, cntB, ih]; rfl
      have hsm : ∀ l : List Bk, sumB (l.map (reB (flr (W * T)))) = sumB l := by
        intro l
        induction l with
        | nil => rfl
        | cons b l ih => simp only [List.map_cons, sumB, ih]; rfl
      refine ⟨by unfold coarG; rw [cntB_grp, hcm], by unfold coarG; rw [sumB_grp, hsm], ?_, okW_iff.2 ⟨⟨hV, h4⟩, by rw [coar_ok hV h2]; exact hk⟩⟩
      have := grp_len (l.map (reB (flr (W * T))))
      rw [List.length_map] at this
      exact this
    · rw [if_neg hk] at h
      simp at h
end Go.Proofs.Ytoncefhcabgaaaa
