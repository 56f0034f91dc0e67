/- Plain laws: sums of few buckets stay small; what a fine outcome tells. -/
import Derived.Test.YtoncefhcabgaaaaPlainE
namespace Go.Proofs.Ytoncefhcabgaaaa
set_option linter.unusedVariables false
open Go.RowKit

/-- few buckets with small numbers -/
def smallB (l : List Bk) : Prop := l.length ≤ 16 ∧ ∀ b ∈ l, (0 ≤ b.2.1 ∧ b.2.1 ≤ 100) ∧ (-100000 ≤ b.2.2.1 ∧ b.2.2.1 ≤ 100000)
theorem okW_small {W : Int} {l : List Bk} (h : okW W l = true) : smallB l := by
  obtain ⟨h3, h4, h5⟩ := okBs_iff.1 (okW_iff.1 h).2
  refine ⟨h3, fun b hb => ?_⟩
  obtain ⟨a1, a2, a3, a4, a5, a6, a7, a8, a9, a10⟩ := okB1_iff.1 (h4 b hb)
  have m1 := mul_bd (a := b.2.2.2.1) (c := b.2.1) (by omega) (by omega) a4 a5
  have m2 := mul_bd (a := b.2.2.2.2) (c := b.2.1) (by omega) (by omega) a4 a5
  omega
theorem sum_bd {l : List Bk} (h : ∀ b ∈ l, (0 ≤ b.2.1 ∧ b.2.1 ≤ 100) ∧ (-100000 ≤ b.2.2.1 ∧ b.2.2.1 ≤ 100000)) : (0 ≤ cntB l ∧ cntB l ≤ 100 * l.length) ∧ (-(100000 * (l.length : Int)) ≤ sumB l ∧ sumB l ≤ 100000 * l.length) := by
  induction l with
  | nil => simp [cntB, sumB]
  | cons a l ih =>
    have h0 := ih (fun b hb => h b (List.mem_cons_of_mem _ hb))
    have ha := h a List.mem_cons_self
    simp only [cntB, sumB, List.length_cons]
    omega
theorem pre_bd {l : List Bk} (h : smallB l) (k : Nat) : (0 ≤ cntB (l.take k) ∧ cntB (l.take k) ≤ 1600) ∧ (-1600000 ≤ sumB (l.take k) ∧ sumB (l.take k) ≤ 1600000) := by
  have := sum_bd (l := l.take k) (fun b hb => h.2 b (List.mem_of_mem_take hb))
  have hl : (l.take k).length ≤ 16 := by rw [List.length_take]; have := h.1; omega
  omega
theorem cnt_snoc {l : List Bk} {k : Nat} {s n u lo hi : Int} (h : l[k]? = some (s, n, u, lo, hi)) : cntB (l.take (k + 1)) = cntB (l.take k) + n ∧ sumB (l.take (k + 1)) = sumB (l.take k) + u := by
  rw [take_get h, cntB_app, sumB_app]
  simp [cntB, sumB]
theorem coar_fine2 {W T : Int} {l L : List Bk} (h : coarV W T l = (L, true)) : okW W l = true ∧ 1 ≤ W * T ∧ W * T ≤ 100 := by
  cases hc : coarC W T l with
  | false => rw [coarV_no hc] at h; simp at h
  | true =>
    obtain ⟨h1, h3, h4⟩ := coarC_iff.1 hc
    exact ⟨okW_iff.2 h1, mul_ge h1.1.1 h3.1, h4⟩
theorem mrg_fine2 {W : Int} {a b L : List Bk} (h : mrgV W a b = (L, true)) : okW W a = true ∧ okW W b = true := by
  cases hab : (okW W a && okW W b) with
  | false => rw [mrgV_no hab] at h; simp at h
  | true => simpa using hab

end Go.Proofs.Ytoncefhcabgaaaa
