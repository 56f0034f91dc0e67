/- Contracts of Coarser, of the program and of the reference. -/
import Derived.Test.YtoncefhcabgaaaaProg
import Derived.Test.YtoncefhcabgaaaaBvl
import Derived.Test.YtoncefhcabgaaaaRoll
import Derived.Deep.RegionLaw
namespace Go.Proofs.Ytoncefhcabgaaaa
set_option linter.unusedVariables false
open Go.RowKit
attribute [local irreducible] wpQuiet
attribute [local go_sem ↓] Go.wp_at_zero Go.wp_at_succ

/-- buckets as valid ones are: starts, counts and sums are not large -/
def okS (b : Bk) : Prop := (0 ≤ b.1 ∧ b.1 ≤ 1000) ∧ bdB 1000000 b
theorem coar_sm {V : Int} {l : List Bk} (hl : l.length ≤ 100) (hv : ∀ b ∈ l, okS b) : ∀ q ∈ coarG V l, smB q := by
  intro q hq
  have h := grp_bd (N := 1000000) (l := l.map (reB (flr V))) (by omega) (fun x hx => by
    obtain ⟨p, hp, rfl⟩ := List.mem_map.1 hx
    exact (hv p hp).2) q hq
  refine sm_of_bd h ?_
  rw [List.length_map]
  omega
theorem coar_snoc {V : Int} {l : List Bk} {k : Nat} {s n u lo hi : Int} (h : l[k]? = some (s, n, u, lo, hi)) : coarG V (l.take (k + 1)) = addL (coarG V (l.take k)) (s - s % V, n, u, lo, hi) := by
  unfold coarG
  rw [take_get' h, List.map_append, List.map_singleton, grp_snoc]
  rfl
theorem coar_len {V : Int} {l : List Bk} : (coarG V l).length ≤ l.length := by
  unfold coarG
  have := grp_len (l.map (reB (flr V)))
  rwa [List.length_map] at this
theorem sm_okS {s s' n u lo hi : Int} (h : okS (s, n, u, lo, hi)) : smB (s', n, u, lo, hi) := by
  unfold okS bdB at h
  unfold smB
  simp only at h ⊢
  omega

theorem okS_of {W : Int} {l : List Bk} (h : okBs W l = true) : ∀ b ∈ l, okS b := by
  intro b hb
  obtain ⟨a1, a2, a3, a4, a5, a6, a7, a8, a9, a10⟩ := okB1_iff.1 ((okBs_iff.1 h).2.1 b hb)
  have m1 := mul_bd (a := b.2.2.2.1) (c := b.2.1) (by omega) (by omega) a4 a5
  have m2 := mul_bd (a := b.2.2.2.2) (c := b.2.1) (by omega) (by omega) a4 a5
  unfold okS bdB
  omega
def Coarsed (r : List Bk × Bool) (w : World) (e : Ending) (w' : World) : Prop := ∃ A' c', e = .returned (.tuple #[.slice A' r.1.length c', .bool r.2]) ∧ w'.ownsRow w.heap.size 31 5 (.slice A' r.1.length c') r.1.length (bkc r.1) ∧ w.grownBy w' none
theorem coarC_parts (W T : Int) (l : List Bk) : ∃ p q r : Bool, okW W l = p ∧ (decide (1 ≤ T) && decide (T ≤ 100)) = q ∧ decide (W * T ≤ 100) = r ∧ coarC W T l = (p && q && r) := ⟨_, _, _, rfl, rfl, rfl, rfl⟩
theorem wrap_mul {W T : Int} (hW : 1 ≤ W) (hW2 : W ≤ 100) (hT : 1 ≤ T) (hT2 : T ≤ 100) : 1 ≤ W * T ∧ W * T ≤ 10000 ∧ IntKind.i64.wrap (W * T) = W * T := by
  have h1 := mul_ge hW hT
  have h2 : W * T ≤ 100 * T := Int.mul_le_mul_of_nonneg_right hW2 (by omega)
  exact ⟨h1, by omega, IntWalk.i64_in _ (by omega)⟩
end Go.Proofs.Ytoncefhcabgaaaa
