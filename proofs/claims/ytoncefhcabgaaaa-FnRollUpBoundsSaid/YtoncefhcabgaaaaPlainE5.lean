/- Plain laws: a bucket of a rolled-up series tells of the points in its range. -/
import Derived.Test.YtoncefhcabgaaaaPlainE
import Derived.Test.YtoncefhcabgaaaaPlainE2
namespace Go.Proofs.Ytoncefhcabgaaaa
set_option linter.unusedVariables false
open Go.RowKit

theorem allB_cnt (q : Bk) (r : List Bk) : (allB q r).2.1 = cntB (q :: r) ∧ (allB q r).2.2.1 = sumB (q :: r) := by
  induction r generalizing q with
  | nil => simp [allB, cntB, sumB]
  | cons x r ih =>
    have h := ih (joinB q x)
    have e : allB q (x :: r) = allB (joinB q x) r := rfl
    rw [e, h.1, h.2]
    simp only [cntB, sumB, joinB]
    omega
theorem allB_lo (q : Bk) (r : List Bk) : (∀ x ∈ q :: r, (allB q r).2.2.2.1 ≤ x.2.2.2.1) ∧ ∃ x ∈ q :: r, x.2.2.2.1 = (allB q r).2.2.2.1 := by
  induction r generalizing q with
  | nil => simp [allB]
  | cons y r ih =>
    obtain ⟨h1, x, hx, hx2⟩ := ih (joinB q y)
    have e : allB q (y :: r) = allB (joinB q y) r := rfl
    rw [e]
    have h0 := h1 (joinB q y) List.mem_cons_self
    have hj : (joinB q y).2.2.2.1 = min q.2.2.2.1 y.2.2.2.1 := rfl
    refine ⟨fun z hz => ?_, ?_⟩
    · rcases List.mem_cons.1 hz with rfl | hz
      · omega
      · rcases List.mem_cons.1 hz with rfl | hz
        · omega
        · exact h1 z (List.mem_cons_of_mem _ hz)
    · rcases List.mem_cons.1 hx with rfl | hx
      · by_cases h : q.2.2.2.1 ≤ y.2.2.2.1
        · exact ⟨q, by simp, by omega⟩
        · exact ⟨y, by simp, by omega⟩
      · exact ⟨x, by simp [hx], hx2⟩
theorem allB_hi (q : Bk) (r : List Bk) : (∀ x ∈ q :: r, x.2.2.2.2 ≤ (allB q r).2.2.2.2) ∧ ∃ x ∈ q :: r, x.2.2.2.2 = (allB q r).2.2.2.2 := by
  induction r generalizing q with
  | nil => simp [allB]
  | cons y r ih =>
    obtain ⟨h1, x, hx, hx2⟩ := ih (joinB q y)
    have e : allB q (y :: r) = allB (joinB q y) r := rfl
    rw [e]
    have h0 := h1 (joinB q y) List.mem_cons_self
    have hj : (joinB q y).2.2.2.2 = max q.2.2.2.2 y.2.2.2.2 := rfl
    refine ⟨fun z hz => ?_, ?_⟩
    · rcases List.mem_cons.1 hz with rfl | hz
      · omega
      · rcases List.mem_cons.1 hz with rfl | hz
        · omega
        · exact h1 z (List.mem_cons_of_mem _ hz)
    · rcases List.mem_cons.1 hx with rfl | hx
      · by_cases h : y.2.2.2.2 ≤ q.2.2.2.2
        · exact ⟨q, by simp, by omega⟩
        · exact ⟨y, by simp, by omega⟩
      · exact ⟨x, by simp [hx], hx2⟩
theorem flr_in {W s t : Int} (hW : 1 ≤ W) (hs : s % W = 0) : flr W t = s ↔ s ≤ t ∧ t ≤ s + W - 1 := by
  unfold flr
  have h0 := Int.emod_nonneg t (show W ≠ 0 by omega)
  have h1 := Int.emod_lt_of_pos t (show 0 < W by omega)
  constructor
  · intro h
    omega
  · rintro ⟨h2, h3⟩
    obtain ⟨c, hc⟩ := Int.dvd_of_emod_eq_zero hs
    have e : t = (t - s) + W * c := by omega
    have e2 : t % W = t - s := by
      conv => lhs; rw [e]
      rw [Int.add_mul_emod_self_left]
      exact Int.emod_eq_of_lt (by omega) (by omega)
    omega
/-- what a bucket tells of the points in its range -/
def TellsB (b : Bk) (P : List Pt) : Prop := (P.length : Int) = b.2.1 ∧ sumV P = b.2.2.1 ∧ (∀ p ∈ P, b.2.2.2.1 ≤ p.2 ∧ p.2 ≤ b.2.2.2.2) ∧ (∃ p ∈ P, p.2 = b.2.2.2.1) ∧ ∃ p ∈ P, p.2 = b.2.2.2.2
theorem bucket_part {W : Int} {l : List Pt} (hW : 1 ≤ W ∧ W ≤ 100) (h : validL l = true) {b : Bk} (hb : b ∈ rollG W l) : TellsB b (rangeL l b.1 (b.1 + W)) := by
  have hc := ((roll_okC hW.1 h).1 b hb).1
  obtain ⟨⟨s0, s1, s2⟩, -⟩ := hc
  have hr : rangeL l b.1 (b.1 + W) = l.filter (fun p => decide (flr W p.1 = b.1)) := by
    rw [range_yes (okR_iff.2 ⟨h, by omega, by omega⟩)]
    unfold partL
    refine List.filter_congr fun p _ => ?_
    unfold inT
    rw [← Bool.decide_and]
    exact decide_eq_decide.2 (flr_in hW.1 s2).symm
  rw [hr]
  obtain ⟨q, r, h1, h2⟩ := grp_of (bkt_up hW.1 h) b hb
  have e : ofB (l.map (bktOf W)) b.1 = (l.filter (fun p => decide (flr W p.1 = b.1))).map (bktOf W) := by
    unfold ofB
    rw [List.filter_map]
    rfl
  rw [e] at h1
  obtain ⟨P, hP⟩ : ∃ P, l.filter (fun p => decide (flr W p.1 = b.1)) = P := ⟨_, rfl⟩
  rw [hP] at h1 ⊢
  have c1 := allB_cnt q r
  have c2 := allB_lo q r
  have c3 := allB_hi q r
  rw [← h2, ← h1] at c1 c2 c3
  rw [cnt_bkt, sum_bkt] at c1
  refine ⟨c1.1.symm, c1.2.symm, fun p hp => ?_, ?_, ?_⟩
  · have a1 := c2.1 _ (List.mem_map_of_mem (f := bktOf W) hp)
    have a2 := c3.1 _ (List.mem_map_of_mem (f := bktOf W) hp)
    exact ⟨a1, a2⟩
  · obtain ⟨x, hx, hx2⟩ := c2.2
    obtain ⟨p, hp, rfl⟩ := List.mem_map.1 hx
    exact ⟨p, hp, hx2⟩
  · obtain ⟨x, hx, hx2⟩ := c3.2
    obtain ⟨p, hp, rfl⟩ := List.mem_map.1 hx
    exact ⟨p, hp, hx2⟩
theorem roll_cnt {W : Int} {l : List Pt} : cntB (rollG W l) = l.length ∧ sumB (rollG W l) = sumV l := by
  unfold rollG
  rw [cntB_grp, sumB_grp, cnt_bkt, sum_bkt]
  exact ⟨rfl, rfl⟩
end Go.Proofs.Ytoncefhcabgaaaa
