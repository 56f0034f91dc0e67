/- Plain laws: a bucket of a rolled-up series, with the bounds that a walk asks. -/
import Derived.Test.YtoncefhcabgaaaaPlainE5
import Derived.Test.YtoncefhcabgaaaaPlainE4
namespace Go.Proofs.Ytoncefhcabgaaaa
set_option linter.unusedVariables false
open Go.RowKit

theorem rollV_in {W : Int} {l : List Pt} {b : Bk} (hb : b ∈ rollV W l) : (1 ≤ W ∧ W ≤ 100) ∧ validL l = true ∧ b ∈ rollG W l := by
  by_cases hq : (1 ≤ W ∧ W ≤ 100) ∧ validL l = true
  · rw [rollV_yes hq] at hb
    exact ⟨hq.1, hq.2, hb⟩
  · rw [rollV_no hq] at hb
    cases hb
theorem rollV_ne {W : Int} {l : List Pt} (h : rollV W l ≠ []) : (1 ≤ W ∧ W ≤ 100) ∧ validL l = true := by
  by_cases hq : (1 ≤ W ∧ W ≤ 100) ∧ validL l = true
  · exact hq
  · exact absurd (rollV_no hq) h
theorem rollV_len {W : Int} {l : List Pt} : (rollV W l).length ≤ 16 := by
  by_cases hq : (1 ≤ W ∧ W ≤ 100) ∧ validL l = true
  · rw [rollV_yes hq]
    exact (roll_okC hq.1.1 hq.2).2.2
  · rw [rollV_no hq]
    simp
theorem range_sub (l : List Pt) (f t : Int) : (rangeL l f t).length ≤ l.length ∧ ∀ p ∈ rangeL l f t, p ∈ l := by
  unfold rangeL
  split
  · exact ⟨List.length_filter_le _ _, fun p hp => (List.mem_filter.1 hp).1⟩
  · simp
/-- all that a walk asks of one bucket of a series -/
theorem part_facts {W : Int} {l : List Pt} {s n u lo hi : Int} (hb : (s, n, u, lo, hi) ∈ rollV W l) : ((1 ≤ W ∧ W ≤ 100) ∧ (0 ≤ s ∧ s ≤ 1000)) ∧ TellsB (s, n, u, lo, hi) (rangeL l s (s + W)) ∧ (rangeL l s (s + W)).length ≤ 16 ∧ ∀ p ∈ rangeL l s (s + W), -1000 ≤ p.2 ∧ p.2 ≤ 1000 := by
  obtain ⟨hW, hv, hg⟩ := rollV_in hb
  have hc := ((roll_okC hW.1 hv).1 _ hg).1
  have hp := bucket_part hW hv hg
  obtain ⟨⟨s0, s1, s2⟩, -⟩ := hc
  have hl := ((validL_iff l).1 hv).1
  have hr := range_sub l s (s + W)
  have hm := ((validL_iff l).1 hv).2.1
  refine ⟨⟨hW, s0, s1⟩, hp, by omega, fun p hq => ?_⟩
  have := hm p (hr.2 p hq)
  omega
theorem sumV_snoc {l : List Pt} {k : Nat} {t v : Int} (h : l[k]? = some (t, v)) : sumV (l.take (k + 1)) = sumV (l.take k) + v := by
  rw [take_get h, sumV_app]
  simp [sumV]
theorem roll_small {W : Int} {l : List Pt} : smallB (rollV W l) := by
  by_cases hq : (1 ≤ W ∧ W ≤ 100) ∧ validL l = true
  · rw [rollV_yes hq]
    exact okW_small (roll_ok hq.1 hq.2)
  · rw [rollV_no hq]
    exact ⟨by simp, by simp⟩
/-- one of the first k has this value -/
def hasV (l : List Pt) (x : Int) : Bool := l.any (fun p => p.2 == x)
theorem hasV_nil (x : Int) : hasV [] x = false := rfl
theorem hasV_snoc {l : List Pt} {k : Nat} {t v x : Int} (h : l[k]? = some (t, v)) : hasV (l.take (k + 1)) x = (hasV (l.take k) x || (v == x)) := by
  rw [take_get h]
  simp [hasV]
theorem hasV_yes {l : List Pt} {x : Int} (h : ∃ p ∈ l, p.2 = x) : hasV l x = true := by
  obtain ⟨p, hp, rfl⟩ := h
  exact List.any_eq_true.2 ⟨p, hp, by simp⟩
end Go.Proofs.Ytoncefhcabgaaaa
