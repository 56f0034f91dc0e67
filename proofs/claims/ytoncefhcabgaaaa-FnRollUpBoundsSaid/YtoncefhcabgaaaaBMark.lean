/- Contracts of the loops that copy, compare, mark and look at marks, over slices of buckets. -/
import Derived.Test.YtoncefhcabgaaaaProg
import Derived.Test.YtoncefhcabgaaaaSer
import Derived.Test.YtoncefhcabgaaaaMark
import Derived.Test.YtoncefhcabgaaaaPApp
import Derived.Test.YtoncefhcabgaaaaBk
namespace Go.Proofs.Ytoncefhcabgaaaa
set_option linter.unusedVariables false
open Go.RowKit

/-- marks on buckets -/
def mkBs (k : Int) : Nat → List Bk
  | 0 => []
  | n + 1 => mkBs k n ++ [(k + 5 * n, k + 5 * n + 1, k + 5 * n + 2, k + 5 * n + 3, k + 5 * n + 4)]
theorem mkBs_len (k : Int) (n : Nat) : (mkBs k n).length = n := by
  induction n with
  | zero => rfl
  | succ n ih => simp [mkBs, ih]
theorem mkBs_at (k : Int) (n i : Nat) (h : i < n) : (mkBs k n)[i]? = some (k + 5 * i, k + 5 * i + 1, k + 5 * i + 2, k + 5 * i + 3, k + 5 * i + 4) := by
  induction n with
  | zero => omega
  | succ n ih =>
    unfold mkBs
    by_cases hi : i < n
    · rw [List.getElem?_append_left (by rw [mkBs_len]; exact hi)]
      exact ih hi
    · have : i = n := by omega
      subst this
      rw [List.getElem?_append_right (by rw [mkBs_len]; exact Nat.le_refl _), mkBs_len]
      simp
theorem mkBs_cells (k : Int) (n : Nat) : bkc (mkBs k (n + 1)) = bkc (mkBs k n) ++ [.int .i64 (k + 5 * n), .int .i64 (k + 5 * n + 1), .int .i64 (k + 5 * n + 1 + 1), .int .i64 (k + 5 * n + 1 + 1 + 1), .int .i64 (k + 5 * n + 1 + 1 + 1 + 1)] := by
  show bkc (mkBs k n ++ [_]) = _
  rw [bkc_app, show k + 5 * (n : Int) + 1 + 1 + 1 + 1 = k + 5 * (n : Int) + 4 by omega, show k + 5 * (n : Int) + 1 + 1 + 1 = k + 5 * (n : Int) + 3 by omega, show k + 5 * (n : Int) + 1 + 1 = k + 5 * (n : Int) + 2 by omega]
  rfl
theorem set_five {α : Type} (a : List α) (x0 x1 x2 x3 x4 y0 y1 y2 y3 y4 : α) (b : List α) (k : Nat) (h : a.length = k) : (((((a ++ x0 :: x1 :: x2 :: x3 :: x4 :: b).set k y0).set (k + 1) y1).set (k + 2) y2).set (k + 3) y3).set (k + 4) y4 = (a ++ [y0, y1, y2, y3, y4]) ++ b := by
  subst h
  simp
/-- five stores into a row -/
theorem own_five {w : World} {base g n c k : Nat} {e : TypeId} {xs : List Value} (h : w.ownsRow base e 5 (.slice (some ⟨g, 0, none⟩) n c) n xs) (v0 v1 v2 v3 v4 : Value) :
    (((((w.setCell ⟨g, k, none⟩ v0).setCell ⟨g, k + 1, none⟩ v1).setCell ⟨g, k + 2, none⟩ v2).setCell ⟨g, k + 3, none⟩ v3).setCell ⟨g, k + 4, none⟩ v4).ownsRow base e 5 (.slice (some ⟨g, 0, none⟩) n c) n (((((xs.set k v0).set (k + 1) v1).set (k + 2) v2).set (k + 3) v3).set (k + 4) v4) ∧
    w.grownBy (((((w.setCell ⟨g, k, none⟩ v0).setCell ⟨g, k + 1, none⟩ v1).setCell ⟨g, k + 2, none⟩ v2).setCell ⟨g, k + 3, none⟩ v3).setCell ⟨g, k + 4, none⟩ v4) (some g) := by
  have h0 := h.stored k v0
  have h1 := h0.1.stored (k + 1) v1
  have h2 := h1.1.stored (k + 2) v2
  have h3 := h2.1.stored (k + 3) v3
  have h4 := h3.1.stored (k + 4) v4
  exact ⟨h4.1, g_trans (g_trans (g_trans (g_trans h0.2 h1.2) h2.2) h3.2) h4.2⟩




end Go.Proofs.Ytoncefhcabgaaaa
