/- Contract of spec.MeanOf. -/
import Derived.Test.YtfjlcpdljibgaaaProg
import Derived.Test.YtfjlcpdljibgaaaQuiet
import Derived.Test.YtfjlcpdljibgaaaNum
import Derived.Test.YtfjlcpdljibgaaaBk
import Derived.Test.YtfjlcpdljibgaaaBks
import Derived.Test.YtfjlcpdljibgaaaLit
namespace Go.Proofs.Ytfjlcpdljibgaaa
set_option linter.unusedVariables false
open Go.RowKit

theorem okBs_one (W s c u lo hi : Int) : okBs W [(s, c, u, lo, hi)] = okB W s c u lo hi := by
  unfold okBs seqB seqB okB1
  simp
/-- a slice of one bucket that has just been built -/
theorem lit_rdB (w : World) (s c u lo hi : Int) (t : TypeId) (H : Nat) (hH : w.heap.size = H) : Rd (w.alloc (.cells #[.int .i64 s, .int .i64 c, .int .i64 u, .int .i64 lo, .int .i64 hi] t)) 5 (some ⟨H, 0, none⟩) 1 1 (bkc [(s, c, u, lo, hi)]) :=
  Rd.own (lit_ownH w 0 t 5 (bkc [(s, c, u, lo, hi)]) 1 H hH (Nat.zero_le _) (by omega) rfl)

set_option maxHeartbeats 800000 in
theorem meanS_any (s c u lo hi : Int) (w : World) :
    Calls Try.prog 32 #[.agg #[.int .i64 s, .int .i64 c, .int .i64 u, .int .i64 lo, .int .i64 hi]] w fun e w' => e = .returned (.tuple #[.int .i64 (meanL s c u lo hi), .bool (okB 1 s c u lo hi)]) ∧ w.grownBy w' none := by
  cases hk : okB 1 s c u lo hi with
  | false =>
    have E := Lib.hid (show meanL s c u lo hi = 0 by unfold meanL; rw [hk]; rfl)
    have K := Lib.hid (show okBs 1 [(s, c, u, lo, hi)] = false by rw [okBs_one]; exact hk)
    rw [E.out]
    clear hk
    go_enter Try.func32, Try.ntmps32
    go_wp2_with fail
    refine (validBucketsS_any _ _ _ [(s, c, u, lo, hi)] 1 _ (lit_rdB _ s c u lo hi _ (w.heap.size + 1) (by simp)) (by omega) (by omega)).mono ?_
    rintro e w1 ⟨rfl, g1⟩
    rw [K.out]
    go_wp2
    go_ret2
    exact ⟨rfl, g_trans (g_alloc _ _ _) (g_trans (g_alloc _ _ _) g1)⟩
  | true =>
    have E := Lib.hid (show meanL s c u lo hi = u / c by unfold meanL; rw [hk]; rfl)
    have K := Lib.hid (show okBs 1 [(s, c, u, lo, hi)] = true by rw [okBs_one]; exact hk)
    have hb := okB_of hk
    rw [E.out]
    obtain ⟨-, -, -, c1, c2, l1, l2, l3, l4, l5⟩ := hb
    have m1 := mul_bd (a := lo) (c := c) (by omega) (by omega) (by omega) (by omega)
    have m2 := mul_bd (a := hi) (c := c) (by omega) (by omega) (by omega) (by omega)
    have u1 : -1000000000 ≤ u := by omega
    have u2 : u ≤ 1000000000 := by omega
    clear hk m1 m2 l4 l5
    go_enter Try.func32, Try.ntmps32
    go_wp2_with fail
    refine (validBucketsS_any _ _ _ [(s, c, u, lo, hi)] 1 _ (lit_rdB _ s c u lo hi _ (w.heap.size + 1) (by simp)) (by omega) (by omega)).mono ?_
    rintro e w1 ⟨rfl, g1⟩
    rw [K.out]
    have q1 := ((Blk.new w 39 [.int .i64 s, .int .i64 c, .int .i64 u, .int .i64 lo, .int .i64 hi]).keptN (g_alloc _ (.cells #[.int .i64 s, .int .i64 c, .int .i64 u, .int .i64 lo, .int .i64 hi] 39) none)).keptN g1
    have d1 := q1.cell 1
    have d2 := q1.cell 2
    simp at d1 d2
    go_wp2_with fail
    refine (floorS_any u c _ u1 u2 c1 (by omega)).mono ?_
    rintro e w2 ⟨rfl, rfl⟩
    go_wp2
    go_ret2
    exact ⟨rfl, g_trans (g_alloc _ _ _) (g_trans (g_alloc _ _ _) g1)⟩
end Go.Proofs.Ytfjlcpdljibgaaa
