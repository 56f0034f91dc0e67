/- Contracts of the loops that copy, mark and look at marks, over slices of bytes and of ints. -/
import Derived.Test.YtoncefhcabgaaaaProg
import Derived.Test.YtoncefhcabgaaaaWords
namespace Go.Proofs.Ytoncefhcabgaaaa
set_option linter.unusedVariables false
open Go.RowKit

theorem own_addr {w : World} {base : Nat} {e : TypeId} {size n c : Nat} {A : Option Addr} {xs : List Value} (h : w.ownsRow base e size (.slice A n c) n xs) (hn : 0 < n) : ∃ g, A = some ⟨g, 0, none⟩ ∧ base ≤ g ∧ g < w.heap.size := by
  rcases h.2 with ⟨hv, rfl⟩ | ⟨g, cap, cur, hv, hb, hh, _⟩
  · omega
  · injection hv with e1 e2 e3
    subst e1
    exact ⟨g, rfl, hb, (Array.getElem?_eq_some_iff.1 hh).1⟩

theorem set_mid {α : Type} (a : List α) (x u : α) (b : List α) (k : Nat) (h : a.length = k) : (a ++ x :: b).set k u = (a ++ [u]) ++ b := by
  subst h
  simp

/-- marks: k, k + 1, .. as bytes -/
def mkB (k : Int) : Nat → List Int
  | 0 => []
  | n + 1 => mkB k n ++ [IntKind.u8.wrap (k + n)]
theorem mkB_len (k : Int) (n : Nat) : (mkB k n).length = n := by
  induction n with
  | zero => rfl
  | succ n ih => simp [mkB, ih]
theorem mkB_at (k : Int) (n i : Nat) (h : i < n) : (mkB k n)[i]? = some (IntKind.u8.wrap (k + i)) := by
  induction n with
  | zero => omega
  | succ n ih =>
    unfold mkB
    by_cases hi : i < n
    · rw [List.getElem?_append_left (by rw [mkB_len]; exact hi)]
      exact ih hi
    · have : i = n := by omega
      subst this
      rw [List.getElem?_append_right (by rw [mkB_len]; exact Nat.le_refl _), mkB_len]
      simp
/-- marks: k, k + 1, .. as ints -/
def mkI (k : Int) : Nat → List Int
  | 0 => []
  | n + 1 => mkI k n ++ [k + n]
theorem mkI_len (k : Int) (n : Nat) : (mkI k n).length = n := by
  induction n with
  | zero => rfl
  | succ n ih => simp [mkI, ih]
theorem mkI_at (k : Int) (n i : Nat) (h : i < n) : (mkI k n)[i]? = some (k + i) := by
  induction n with
  | zero => omega
  | succ n ih =>
    unfold mkI
    by_cases hi : i < n
    · rw [List.getElem?_append_left (by rw [mkI_len]; exact hi)]
      exact ih hi
    · have : i = n := by omega
      subst this
      rw [List.getElem?_append_right (by rw [mkI_len]; exact Nat.le_refl _), mkI_len]
      simp

theorem take_get {α : Type} {l : List α} {k : Nat} {x : α} (h : l[k]? = some x) : l.take (k + 1) = l.take k ++ [x] := by
  rw [List.take_add_one, h]; rfl



end Go.Proofs.Ytoncefhcabgaaaa
