/- Contracts of what looks at one bucket: impl.validBucket, toBucket, MeanOf of the program and of the reference; the plain predicate beside them. -/
import Derived.Test.YtoncefhcabgaaaaProg
import Derived.Test.YtoncefhcabgaaaaWords
import Derived.Test.YtoncefhcabgaaaaNum
namespace Go.Proofs.Ytoncefhcabgaaaa
set_option linter.unusedVariables false
open Go.RowKit

/-- a bucket alone is valid for a width -/
def okB (w s c u lo hi : Int) : Bool := decide (0 ≤ s ∧ s ≤ 1000 ∧ s % w = 0 ∧ 1 ≤ c ∧ c ≤ 100 ∧ -1000 ≤ lo ∧ lo ≤ hi ∧ hi ≤ 1000 ∧ lo * c ≤ u ∧ u ≤ hi * c)
theorem okB_no {w s c u lo hi : Int} (h : ¬ (0 ≤ s ∧ s ≤ 1000 ∧ s % w = 0 ∧ 1 ≤ c ∧ c ≤ 100 ∧ -1000 ≤ lo ∧ lo ≤ hi ∧ hi ≤ 1000 ∧ lo * c ≤ u ∧ u ≤ hi * c)) : okB w s c u lo hi = false := decide_eq_false h
theorem okB_yes {w s c u lo hi : Int} (h : 0 ≤ s ∧ s ≤ 1000 ∧ s % w = 0 ∧ 1 ≤ c ∧ c ≤ 100 ∧ -1000 ≤ lo ∧ lo ≤ hi ∧ hi ≤ 1000 ∧ lo * c ≤ u ∧ u ≤ hi * c) : okB w s c u lo hi = true := decide_eq_true h
theorem mul_bd {a c : Int} (h1 : -1000 ≤ a) (h2 : a ≤ 1000) (h3 : 1 ≤ c) (h4 : c ≤ 100) : -100000 ≤ a * c ∧ a * c ≤ 100000 := by
  have e1 : -1000 * c ≤ a * c := Int.mul_le_mul_of_nonneg_right h1 (by omega)
  have e2 : a * c ≤ 1000 * c := Int.mul_le_mul_of_nonneg_right h2 (by omega)
  omega
theorem okB_of {w s c u lo hi : Int} (h : okB w s c u lo hi = true) : 0 ≤ s ∧ s ≤ 1000 ∧ s % w = 0 ∧ 1 ≤ c ∧ c ≤ 100 ∧ -1000 ≤ lo ∧ lo ≤ hi ∧ hi ≤ 1000 ∧ lo * c ≤ u ∧ u ≤ hi * c := of_decide_eq_true h

set_option maxHeartbeats 1600000 in
theorem validBucket_any (s c u lo hi W : Int) (w : World) (hW : 1 ≤ W) (hW2 : W ≤ 100) :
    Calls Try.prog 31 #[.agg #[.int .i64 s, .int .i64 c, .int .i64 u, .int .i64 lo, .int .i64 hi], .int .i64 W] w fun e w' => e = .returned (.bool (okB W s c u lo hi)) ∧ w.grownBy w' none := by
  have hW0 : ¬ W = 0 := by omega
  by_cases k0 : s < 0
  · have E := Lib.hid (okB_no (w := W) (s := s) (c := c) (u := u) (lo := lo) (hi := hi) (by omega))
    have b0 : decide (s < 0) = true := by simpa using k0
    rw [E.out]
    go_enter Try.func31, Try.ntmps31
    go_wp2
    go_ret
    exact ⟨rfl, g_alloc _ _ _⟩
  have b0 : decide (s < 0) = false := by simpa using k0
  by_cases k1 : 1000 < s
  · have E := Lib.hid (okB_no (w := W) (s := s) (c := c) (u := u) (lo := lo) (hi := hi) (by omega))
    have b1 : decide (1000 < s) = true := by simpa using k1
    rw [E.out]
    go_enter Try.func31, Try.ntmps31
    go_wp2
    go_ret
    exact ⟨rfl, g_alloc _ _ _⟩
  have b1 : decide (1000 < s) = false := by simpa using k1
  by_cases k2 : ¬ s % W = 0
  · have E := Lib.hid (okB_no (w := W) (s := s) (c := c) (u := u) (lo := lo) (hi := hi) (by omega))
    have b2 : (s % W != 0) = true := by rw [bne_iff_ne]; exact k2
    clear k2
    rw [E.out]
    go_enter Try.func31, Try.ntmps31
    go_wp2
    go_ret
    exact ⟨rfl, g_alloc _ _ _⟩
  have k2' : s % W = 0 := by omega
  have b2 : (s % W != 0) = false := by rw [k2']; rfl
  have K2 := Lib.hid k2'
  clear k2 k2'
  by_cases k3 : c < 1
  · have E := Lib.hid (okB_no (w := W) (s := s) (c := c) (u := u) (lo := lo) (hi := hi) (by omega))
    have b3 : decide (c < 1) = true := by simpa using k3
    rw [E.out]
    go_enter Try.func31, Try.ntmps31
    go_wp2
    go_ret
    exact ⟨rfl, g_alloc _ _ _⟩
  have b3 : decide (c < 1) = false := by simpa using k3
  by_cases k4 : 100 < c
  · have E := Lib.hid (okB_no (w := W) (s := s) (c := c) (u := u) (lo := lo) (hi := hi) (by omega))
    have b4 : decide (100 < c) = true := by simpa using k4
    rw [E.out]
    go_enter Try.func31, Try.ntmps31
    go_wp2
    go_ret
    exact ⟨rfl, g_alloc _ _ _⟩
  have b4 : decide (100 < c) = false := by simpa using k4
  by_cases k5 : lo < -1000
  · have E := Lib.hid (okB_no (w := W) (s := s) (c := c) (u := u) (lo := lo) (hi := hi) (by omega))
    have b5 : decide (lo < -1000) = true := by simpa using k5
    rw [E.out]
    go_enter Try.func31, Try.ntmps31
    go_wp2
    go_ret
    exact ⟨rfl, g_alloc _ _ _⟩
  have b5 : decide (lo < -1000) = false := by simpa using k5
  by_cases k6 : hi < lo
  · have E := Lib.hid (okB_no (w := W) (s := s) (c := c) (u := u) (lo := lo) (hi := hi) (by omega))
    have b6 : decide (hi < lo) = true := by simpa using k6
    rw [E.out]
    go_enter Try.func31, Try.ntmps31
    go_wp2
    go_ret
    exact ⟨rfl, g_alloc _ _ _⟩
  have b6 : decide (hi < lo) = false := by simpa using k6
  by_cases k7 : 1000 < hi
  · have E := Lib.hid (okB_no (w := W) (s := s) (c := c) (u := u) (lo := lo) (hi := hi) (by omega))
    have b7 : decide (1000 < hi) = true := by simpa using k7
    rw [E.out]
    go_enter Try.func31, Try.ntmps31
    go_wp2
    go_ret
    exact ⟨rfl, g_alloc _ _ _⟩
  have b7 : decide (1000 < hi) = false := by simpa using k7
  have m1 := mul_bd (a := lo) (c := c) (by omega) (by omega) (by omega) (by omega)
  have m2 := mul_bd (a := hi) (c := c) (by omega) (by omega) (by omega) (by omega)
  have m3 := m1.1
  have m4 := m1.2
  have m5 := m2.1
  have m6 := m2.2
  clear m1 m2
  by_cases k8 : lo * c ≤ u
  · by_cases k9 : u ≤ hi * c
    · have E := Lib.hid (okB_yes (w := W) (s := s) (c := c) (u := u) (lo := lo) (hi := hi) ⟨by omega, by omega, K2.out, by omega, by omega, by omega, by omega, by omega, k8, k9⟩)
      have b8 : decide (lo * c ≤ u) = true := by simpa using k8
      have b9 : decide (u ≤ hi * c) = true := by simpa using k9
      rw [E.out]
      go_enter Try.func31, Try.ntmps31
      go_wp2
      go_ret
      exact ⟨rfl, g_alloc _ _ _⟩
    · have E := Lib.hid (okB_no (w := W) (s := s) (c := c) (u := u) (lo := lo) (hi := hi) (fun h => k9 h.2.2.2.2.2.2.2.2.2))
      have b8 : decide (lo * c ≤ u) = true := by simpa using k8
      have b9 : decide (u ≤ hi * c) = false := by simpa using k9
      rw [E.out]
      go_enter Try.func31, Try.ntmps31
      go_wp2
      go_ret
      exact ⟨rfl, g_alloc _ _ _⟩
  · have E := Lib.hid (okB_no (w := W) (s := s) (c := c) (u := u) (lo := lo) (hi := hi) (fun h => k8 h.2.2.2.2.2.2.2.2.1))
    have b8 : decide (lo * c ≤ u) = false := by simpa using k8
    rw [E.out]
    go_enter Try.func31, Try.ntmps31
    go_wp2
    go_ret
    exact ⟨rfl, g_alloc _ _ _⟩


end Go.Proofs.Ytoncefhcabgaaaa
