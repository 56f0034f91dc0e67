/- Plain laws on the merging of two lists of buckets, step by step. -/
import Derived.Test.YtoncefhcabgaaaaCoarse
namespace Go.Proofs.Ytoncefhcabgaaaa
set_option linter.unusedVariables false
open Go.RowKit

/-- i buckets of the first list and j of the second one have been joined to acc -/
def MInv (a b : List Bk) (i j : Nat) (acc : List Bk) : Prop := ∃ p, acc = grp p ∧ p ++ mrgL (a.drop i) (b.drop j) = mrgL a b ∧ (∀ x ∈ p, x ∈ a.take i ∨ x ∈ b.take j) ∧ ∀ x ∈ b.take j, ∀ y ∈ a.drop i, x.1 < y.1
theorem minv_start (a b : List Bk) : MInv a b 0 0 [] := ⟨[], rfl, rfl, by simp, by simp⟩
theorem drop_mem_succ {α : Type} {l : List α} {i : Nat} {y : α} (h : y ∈ l.drop (i + 1)) : y ∈ l.drop i := by
  rw [← List.drop_drop] at h
  exact List.mem_of_mem_drop h
theorem minv_a {a b acc : List Bk} {i j : Nat} {x : Bk} (h : MInv a b i j acc) (hx : a[i]? = some x) (hle : ∀ y, b[j]? = some y → x.1 ≤ y.1) : MInv a b (i + 1) j (addL acc x) := by
  obtain ⟨p, rfl, h2, h3, h4⟩ := h
  obtain ⟨_, hdx⟩ := List.getElem?_eq_some_iff.1 hx
  have hd : a.drop i = x :: a.drop (i + 1) := by rw [← hdx]; exact List.drop_eq_getElem_cons _
  have hm : mrgL (a.drop i) (b.drop j) = x :: mrgL (a.drop (i + 1)) (b.drop j) := by
    rw [hd]
    cases hb : b.drop j with
    | nil => rw [mrgL_nil_r, mrgL_nil_r]
    | cons y r =>
      have hy : b[j]? = some y := by rw [← List.head?_drop, hb]; rfl
      rw [mrgL, if_pos (hle y hy)]
  refine ⟨p ++ [x], (grp_snoc p x).symm, ?_, fun z hz => ?_, fun z hz y hy => h4 z hz y (drop_mem_succ hy)⟩
  · rw [List.append_assoc, List.singleton_append, ← hm]
    exact h2
  · rcases List.mem_append.1 hz with hz | hz
    · rcases h3 z hz with hz | hz
      · left; rw [take_get' hx]; simp [hz]
      · right; exact hz
    · simp at hz
      subst hz
      left; rw [take_get' hx]; simp
theorem minv_b {a b acc : List Bk} {i j : Nat} {y : Bk} (h : MInv a b i j acc) (ha : AscB a) (hy : b[j]? = some y) (hlt : ∀ x, a[i]? = some x → y.1 < x.1) : MInv a b i (j + 1) (addL acc y) := by
  obtain ⟨p, rfl, h2, h3, h4⟩ := h
  obtain ⟨_, hdy⟩ := List.getElem?_eq_some_iff.1 hy
  have hd : b.drop j = y :: b.drop (j + 1) := by rw [← hdy]; exact List.drop_eq_getElem_cons _
  have hall : ∀ x ∈ a.drop i, y.1 < x.1 := by
    cases hb : a.drop i with
    | nil => simp
    | cons x r =>
      have hx : a[i]? = some x := by rw [← List.head?_drop, hb]; rfl
      have h1 := hlt x hx
      have hs := ha.drop (i := i)
      rw [hb] at hs
      intro z hz
      rcases List.mem_cons.1 hz with rfl | hz
      · exact h1
      · have := (List.pairwise_cons.1 hs).1 z hz; omega
  have hm : mrgL (a.drop i) (b.drop j) = y :: mrgL (a.drop i) (b.drop (j + 1)) := by
    rw [hd]
    exact mrgL_second hall
  refine ⟨p ++ [y], (grp_snoc p y).symm, ?_, fun z hz => ?_, fun z hz x hx => ?_⟩
  · rw [List.append_assoc, List.singleton_append, ← hm]
    exact h2
  · rcases List.mem_append.1 hz with hz | hz
    · rcases h3 z hz with hz | hz
      · left; exact hz
      · right; rw [take_get' hy]; simp [hz]
    · simp at hz
      subst hz
      right; rw [take_get' hy]; simp
  · rw [take_get' hy] at hz
    rcases List.mem_append.1 hz with hz | hz
    · exact h4 z hz x hx
    · simp at hz
      subst hz
      exact hall x hx
theorem asc_take_drop {a : List Bk} (h : AscB a) {i : Nat} {x y : Bk} (hx : x ∈ a.take i) (hy : y ∈ a.drop i) : x.1 < y.1 := by
  have : AscB (a.take i ++ a.drop i) := by rw [List.take_append_drop]; exact h
  exact (List.pairwise_append.1 this).2.2 x hx y hy
theorem minv_end {a b acc : List Bk} {i : Nat} (h : MInv a b i b.length acc) (ha : AscB a) (hb : AscB b) : acc ++ a.drop i = grp (mrgL a b) := by
  obtain ⟨p, rfl, h2, h3, h4⟩ := h
  rw [List.drop_length, mrgL_nil_r] at h2
  rw [← h2, ← grp_grp_app]
  have hup : UpB (mrgL a b) := mrgL_up (up_of_asc ha) (up_of_asc hb)
  rw [← h2] at hup
  obtain ⟨u1, u2, u3⟩ := List.pairwise_append.1 hup
  refine (grp_self (List.pairwise_append.2 ⟨grp_asc u1, ha.drop, fun x hx y hy => ?_⟩)).symm
  obtain ⟨z, hz, e⟩ := grp_starts p x hx
  rw [e]
  rcases h3 z hz with hz | hz
  · exact asc_take_drop ha hz hy
  · exact h4 z hz y hy
theorem minv_done {a b acc : List Bk} (h : MInv a b a.length b.length acc) (ha : AscB a) (hb : AscB b) : acc = grp (mrgL a b) := by
  have := minv_end h ha hb
  rwa [List.drop_length, List.append_nil] at this
theorem minv_sm {a b acc : List Bk} {i j : Nat} (h : MInv a b i j acc) (ha : ∀ x ∈ a, okS x) (hb : ∀ x ∈ b, okS x) (hl : a.length ≤ 16) (hl2 : b.length ≤ 16) : (∀ q ∈ acc, smB q) ∧ acc.length ≤ 32 := by
  obtain ⟨p, rfl, h2, h3, h4⟩ := h
  have hp : p.length ≤ 32 := by
    have := congrArg List.length h2
    rw [List.length_append, mrgL_len a b] at this
    omega
  refine ⟨fun q hq => ?_, Nat.le_trans (grp_len p) hp⟩
  have := grp_bd (N := 1000000) (l := p) (by omega) (fun x hx => by
    rcases h3 x hx with hx | hx
    · exact (ha x (List.mem_of_mem_take hx)).2
    · exact (hb x (List.mem_of_mem_take hx)).2) q hq
  exact sm_of_bd this (by omega)
end Go.Proofs.Ytoncefhcabgaaaa
