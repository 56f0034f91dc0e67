/- What the generators of numbers and of bytes give. -/
import Derived.Test.YtfjlcpdljibgaaaProg
import Derived.Test.YtfjlcpdljibgaaaPick
import Derived.Test.YtfjlcpdljibgaaaVar
namespace Go.Proofs.Ytfjlcpdljibgaaa
set_option linter.unusedVariables false
open Go.RowKit

theorem g_rd {w a b : World} {R : Nat} (h : a.grownBy b (some R)) (hR : w.heap.size ≤ R) (h0 : w.grownBy a none) : w.grownBy b none := g_new h0 h (by intro g e; injection e with e; omega)

theorem drawZig_any (A : Option Addr) (n c : Nat) (l : List Int) (w : World) (h : Rd w 1 A n c (bc l)) (hb : By l) (hn : n ≤ 1048576) :
    Calls Try.prog 23 #[.slice A n c] w fun e w' => ∃ x, e = .returned (.int .i64 x) ∧ -1000000 ≤ x ∧ x ≤ 1000000 ∧ w.grownBy w' none := by
  go_enter Try.func23, Try.ntmps23
  go_wp2_with fail
  refine (newReader_any A n c l w h hb hn).mono ?_
  rintro e w1 ⟨rfl, hr, hg1⟩
  go_wp2_with fail
  refine (pick_any _ _ _ _ hr (by omega) (by omega)).mono ?_
  rintro e w2 ⟨z, rfl, z0, z1, hr2, hg2⟩
  go_wp2_with fail
  refine (one_lit _ _ [0, 1, -1, 100000, -100000, 100001, -100001, z - 125, -64] _ w2 hr2 (by omega) (by simp) (by simp)).mono ?_
  rintro e w3 ⟨x, rfl, hx, hr3, hg3⟩
  have hx2 : -1000000 ≤ x ∧ x ≤ 1000000 := by simp at hx; omega
  clear hx z1 hr hr2 hr3
  go_wp2
  go_ret
  exact ⟨x, rfl, hx2.1, hx2.2, g_rd hg3 (Nat.le_refl _) (g_rd hg2 (Nat.le_refl _) hg1)⟩
theorem drawUnz_any (A : Option Addr) (n c : Nat) (l : List Int) (w : World) (h : Rd w 1 A n c (bc l)) (hb : By l) (hn : n ≤ 1048576) :
    Calls Try.prog 35 #[.slice A n c] w fun e w' => ∃ x, e = .returned (.int .i64 x) ∧ -1000000 ≤ x ∧ x ≤ 1000000 ∧ w.grownBy w' none := by
  go_enter Try.func35, Try.ntmps35
  go_wp2_with fail
  refine (newReader_any A n c l w h hb hn).mono ?_
  rintro e w1 ⟨rfl, hr, hg1⟩
  go_wp2_with fail
  refine (pick_any _ _ _ _ hr (by omega) (by omega)).mono ?_
  rintro e w2 ⟨z, rfl, z0, z1, hr2, hg2⟩
  go_wp2_with fail
  refine (one_lit _ _ [0, 1, 2, 200000, 199999, 200001, -1, z] _ w2 hr2 (by omega) (by simp) (by simp)).mono ?_
  rintro e w3 ⟨x, rfl, hx, hr3, hg3⟩
  have hx2 : -1000000 ≤ x ∧ x ≤ 1000000 := by simp at hx; omega
  clear hx z1 hr hr2 hr3
  go_wp2
  go_ret
  exact ⟨x, rfl, hx2.1, hx2.2, g_rd hg3 (Nat.le_refl _) (g_rd hg2 (Nat.le_refl _) hg1)⟩
theorem drawPut_any (A : Option Addr) (n c : Nat) (l : List Int) (w : World) (h : Rd w 1 A n c (bc l)) (hb : By l) (hn : n ≤ 1048576) :
    Calls Try.prog 36 #[.slice A n c] w fun e w' => ∃ x, e = .returned (.int .i64 x) ∧ -1000000 ≤ x ∧ x ≤ 1000000 ∧ w.grownBy w' none := by
  go_enter Try.func36, Try.ntmps36
  go_wp2_with fail
  refine (newReader_any A n c l w h hb hn).mono ?_
  rintro e w1 ⟨rfl, hr, hg1⟩
  go_wp2_with fail
  refine (pick_any _ _ _ _ hr (by omega) (by omega)).mono ?_
  rintro e w2 ⟨z, rfl, z0, z1, hr2, hg2⟩
  go_wp2_with fail
  refine (pick_any _ _ _ _ hr2 (by omega) (by omega)).mono ?_
  rintro e w3 ⟨y, rfl, y0, y1, hr3, hg3⟩
  go_wp2_with fail
  refine (one_lit _ _ [0, 1, 127, 128, 16383, 16384, 200000, 200001, -1, z, 80 * y] _ w3 hr3 (by omega) (by simp) (by simp)).mono ?_
  rintro e w4 ⟨x, rfl, hx, hr4, hg4⟩
  have hx2 : -1000000 ≤ x ∧ x ≤ 1000000 := by simp at hx; omega
  clear hx z1 y1 hr hr2 hr3 hr4
  go_wp2
  go_ret
  exact ⟨x, rfl, hx2.1, hx2.2, g_rd hg4 (Nat.le_refl _) (g_rd hg3 (Nat.le_refl _) (g_rd hg2 (Nat.le_refl _) hg1))⟩
theorem someTime_any (R : Nat) (p : Int) (w : World) (h : Rdr w R p) (hp : p ≤ 999999000) :
    Calls Try.prog 51 #[.pointer (some ⟨R, 0, none⟩)] w fun e w' => ∃ x, e = .returned (.int .i64 x) ∧ 0 ≤ x ∧ x ≤ 1000 ∧ Rdr w' R (p + 3) ∧ w.grownBy w' (some R) := by
  go_enter Try.func51, Try.ntmps51
  go_wp2_with fail
  refine (pick_any _ _ _ _ h (by omega) (by omega)).mono ?_
  rintro e w2 ⟨z, rfl, z0, z1, hr2, hg2⟩
  go_wp2_with fail
  refine (pick_any _ _ _ _ hr2 (by omega) (by omega)).mono ?_
  rintro e w3 ⟨y, rfl, y0, y1, hr3, hg3⟩
  go_wp2_with fail
  refine (one_lit _ _ [0, 10, 20, 25, 100, 1000, z, 4 * y, 30, 40] _ w3 hr3 (by omega) (by simp) (by simp)).mono ?_
  rintro e w4 ⟨x, rfl, hx, hr4, hg4⟩
  have hx2 : 0 ≤ x ∧ x ≤ 1000 := by simp at hx; omega
  have e3 : p + 1 + 1 + 1 = p + 3 := by omega
  rw [e3] at hr4
  clear hx z1 y1 hr2 hr3 e3
  go_wp2
  go_ret
  exact ⟨x, rfl, hx2.1, hx2.2, hr4, g_trans hg2 (g_trans hg3 hg4)⟩
end Go.Proofs.Ytfjlcpdljibgaaa
