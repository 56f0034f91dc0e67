/- Plain laws of the buckets of a series: means, least and greatest values. -/
import Derived.Test.YtmokolccohobpaaPlainE
import Derived.Test.YtmokolccohobpaaPlainE2
import Derived.Test.YtmokolccohobpaaBk
namespace Go.Proofs.Ytmokolccohobpaa
set_option linter.unusedVariables false
open Go.RowKit

/-- a mean lies between the least and the greatest value -/
theorem mean_between {s c u lo hi m : Int} (hb : okB 1 s c u lo hi = true) (hm : meanL s c u lo hi = m) : lo ≤ m ∧ m ≤ hi := by
  unfold meanL at hm
  rw [hb, if_pos rfl] at hm
  subst hm
  obtain ⟨-, -, -, c1, c2, -, -, -, l4, l5⟩ := okB_of hb
  have hc : 0 < c := by omega
  refine ⟨(Int.le_ediv_iff_mul_le hc).2 l4, ?_⟩
  have := Int.ediv_mul_le u (b := c) (by omega)
  exact Int.le_of_mul_le_mul_right (Int.le_trans this l5) hc
theorem rollV_ok1 {W : Int} {l : List Pt} {s c u lo hi : Int} (h : (s, c, u, lo, hi) ∈ rollV W l) : okB 1 s c u lo hi = true := by
  by_cases hq : (1 ≤ W ∧ W ≤ 100) ∧ validL l = true
  · rw [rollV_yes hq] at h
    have h1 := okW_one (roll_ok hq.1 hq.2)
    exact (okBs_iff.1 (okW_iff.1 h1).2).2.1 _ h
  · rw [rollV_no hq] at h
    cases h
theorem rollV_small {W : Int} {l : List Pt} : (rollV W l).length ≤ 16 := by
  by_cases hq : (1 ≤ W ∧ W ≤ 100) ∧ validL l = true
  · rw [rollV_yes hq]
    exact (roll_okC hq.1.1 hq.2).2.2
  · rw [rollV_no hq]
    simp
end Go.Proofs.Ytmokolccohobpaa
