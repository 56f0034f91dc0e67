/- The rows that a call has made and that lie as they lie: one word for all of them, handed on from world to world. No program is named here. -/
import Derived.Test.YtcgeagcfhjdpcaaWords
namespace Go.Proofs.Ytcgeagcfhjdpcaa
set_option linter.unusedVariables false
open Go.RowKit

structure Row where
  t : TypeId
  size : Nat
  v : Value
  n : Nat
  xs : List Value
/-- the world w has grown out of W, and each of the rows is owned, no two in one block -/
structure Live (W w : World) (rows : List Row) : Prop where
  grown : W.grownBy w none
  owns : ∀ r ∈ rows, w.ownsRow W.heap.size r.t r.size r.v r.n r.xs
  apart : rows.Pairwise fun a b => ∀ g, a.v.ownBlock = some g → b.v.ownBlock ≠ some g
theorem Live.zero (W : World) : Live W W [] := ⟨g_refl _ _, by simp, List.Pairwise.nil⟩
section
variable {W w w' : World} {rows : List Row} {r : Row} {t : TypeId} {size n : Nat} {v : Value} {xs : List Value}
theorem Live.step (L : Live W w rows) (g : w.grownBy w' none) : Live W w' rows := ⟨g_trans L.grown g, fun r hr => own_keptN (L.owns r hr) g, L.apart⟩
theorem Live.new (L : Live W w rows) (o : w'.ownsRow w.heap.size t size v n xs) (g : w.grownBy w' none) : Live W w' (⟨t, size, v, n, xs⟩ :: rows) := by
  refine ⟨g_trans L.grown g, fun r hr => ?_, List.pairwise_cons.2 ⟨fun r hr k hk hk' => ?_, L.apart⟩⟩
  · rcases List.mem_cons.1 hr with rfl | hr
    · exact own_le o L.grown.size
    · exact own_keptN (L.owns r hr) g
  · have h1 := own_new o k hk
    have h2 := ((L.owns r hr).lt k hk').2
    omega
theorem Live.own (L : Live W w rows) (i : Nat) (h : rows[i]? = some r) : w.ownsRow W.heap.size r.t r.size r.v r.n r.xs := L.owns r (List.mem_of_getElem? h)
theorem Live.rd (L : Live W w rows) (i : Nat) {A : Option Addr} {c : Nat} (h : rows[i]? = some ⟨t, size, .slice A n c, n, xs⟩) : Rd w size A n c xs := Rd.own (L.owns _ (List.mem_of_getElem? h))
/-- an append on a row -/
theorem Live.app (L : Live W w rows) (i : Nat) {v' : Value} {n' : Nat} {ys : List Value} (h : rows[i]? = some ⟨t, size, v, n, xs⟩) (o : w'.ownsRow W.heap.size t size v' n' ys) (g : w.grownBy w' v.ownBlock) (hl : ∀ k, v'.ownBlock = some k → v.ownBlock = some k ∨ w.heap.size ≤ k) : Live W w' (rows.set i ⟨t, size, v', n', ys⟩) := by
  have hrow := L.owns _ (List.mem_of_getElem? h)
  have hlen := (List.getElem?_eq_some_iff.1 h).1
  have far : ∀ j r, rows[j]? = some r → i ≠ j → ∀ k, v.ownBlock = some k → r.v.ownBlock ≠ some k := by
    intro j r hj hij k hk hk'
    obtain ⟨h1, e1⟩ := List.getElem?_eq_some_iff.1 h
    obtain ⟨h2, e2⟩ := List.getElem?_eq_some_iff.1 hj
    rcases Nat.lt_or_gt_of_ne hij with hlt | hgt
    · have := List.pairwise_iff_getElem.1 L.apart i j h1 h2 hlt k
      rw [e1, e2] at this
      exact this hk hk'
    · have := List.pairwise_iff_getElem.1 L.apart j i h2 h1 hgt k
      rw [e1, e2] at this
      exact this hk' hk
  have far' : ∀ j r, rows[j]? = some r → i ≠ j → ∀ k, v'.ownBlock = some k → r.v.ownBlock ≠ some k := by
    intro j r hj hij k hk hk'
    rcases hl k hk with h0 | h0
    · exact far j r hj hij k h0 hk'
    · have := ((L.owns r (List.mem_of_getElem? hj)).lt k hk').2
      omega
  refine ⟨g_new L.grown g (own_new hrow), fun r hr => ?_, ?_⟩
  · obtain ⟨j, hj⟩ := List.mem_iff_getElem?.1 hr
    by_cases hij : i = j
    · subst hij
      rw [List.getElem?_set_self hlen] at hj
      injection hj with hj
      subst hj
      exact o
    · rw [List.getElem?_set_ne hij] at hj
      have hr2 := L.owns r (List.mem_of_getElem? hj)
      refine hr2.kept g ?_
      cases hv : r.v.ownBlock with
      | none => exact .inl rfl
      | some k => exact .inr (fun e' => far j r hj hij k e'.symm hv)
  · rw [List.pairwise_iff_getElem]
    intro a b ha hb hab k hk
    rw [List.length_set] at ha hb
    by_cases hia : i = a
    · subst hia
      rw [List.getElem_set_self] at hk
      rw [List.getElem_set_ne (by omega)]
      exact far' b _ (List.getElem?_eq_getElem hb) (by omega) k hk
    · rw [List.getElem_set_ne hia] at hk
      by_cases hib : i = b
      · subst hib
        rw [List.getElem_set_self]
        intro hk'
        exact far' a _ (List.getElem?_eq_getElem ha) hia k hk' hk
      · rw [List.getElem_set_ne hib]
        exact List.pairwise_iff_getElem.1 L.apart a b ha hb hab k hk
theorem Live.put (L : Live W w rows) (i : Nat) {ys : List Value} (h : rows[i]? = some ⟨t, size, v, n, xs⟩) (o : w'.ownsRow W.heap.size t size v n ys) (g : w.grownBy w' v.ownBlock) : Live W w' (rows.set i ⟨t, size, v, n, ys⟩) :=
  L.app i h o g fun _ hk => .inl hk
theorem Live.bel (L : Live W w rows) : Below W.heap.size W w := g_below L.grown (Nat.le_refl _) (by simp)
/-- a row goes out of sight -/
theorem Live.drop (L : Live W w (r :: rows)) : Live W w rows := ⟨L.grown, fun q hq => L.owns q (List.mem_cons_of_mem _ hq), (List.pairwise_cons.1 L.apart).2⟩
end
end Go.Proofs.Ytcgeagcfhjdpcaa
