/- A row that has just been built. -/
import Derived.Test.YtfjlcpdljibgaaaWords
namespace Go.Proofs.Ytfjlcpdljibgaaa
set_option linter.unusedVariables false
open Go.RowKit
theorem lit_own (w : World) (base : Nat) (e : TypeId) (size : Nat) (cs : List Value) (n : Nat) (hb : base ≤ w.heap.size) (hn : n ≤ 1000) (hs : cs.length = n * size) :
    (w.alloc (.cells cs.toArray e)).ownsRow base e size (.slice (some ⟨w.heap.size, 0, none⟩) n n) n cs := by
  have := World.ownsRow_lit (base := base) (e := e) (size := size) w cs.toArray n hb (by simp only [maxLen]; omega) (by simpa using hs)
  simpa using this
theorem lit_ownH (w : World) (base : Nat) (e : TypeId) (size : Nat) (cs : List Value) (n H : Nat) (hH : w.heap.size = H) (hb : base ≤ w.heap.size) (hn : n ≤ 1000) (hs : cs.length = n * size) :
    (w.alloc (.cells cs.toArray e)).ownsRow base e size (.slice (some ⟨H, 0, none⟩) n n) n cs := by
  subst hH
  exact lit_own w base e size cs n hb hn hs
end Go.Proofs.Ytfjlcpdljibgaaa
