/- Contracts of the functions on numbers: inRange, ZigzagOf, UnzigzagOf, unzig, floorDiv. The plain functions beside them. -/
import Derived.Test.YtcgeagcfhjdpcaaProg
import Derived.Test.YtcgeagcfhjdpcaaWords
namespace Go.Proofs.Ytcgeagcfhjdpcaa
set_option linter.unusedVariables false
open Go.RowKit

def zigL (n : Int) : Int := if n < -100000 ∨ 100000 < n then -1 else if 0 ≤ n then 2 * n else -2 * n - 1
def unzL (n : Int) : Int := if n % 2 = 0 then n / 2 else -((n + 1) / 2)
def unzigL (n : Int) : Int := if n < 0 ∨ 200000 < n then 0 else unzL n
def unzOk (n : Int) : Bool := !(decide (n < 0) || decide (200000 < n))
theorem zig_out {n : Int} (h : n < -100000 ∨ 100000 < n) : zigL n = -1 := if_pos h
theorem zig_pos {n : Int} (h : 0 ≤ n) (h2 : n ≤ 100000) : zigL n = 2 * n := by unfold zigL; rw [if_neg (by omega), if_pos h]
theorem zig_neg {n : Int} (h : n < 0) (h2 : -100000 ≤ n) : zigL n = -2 * n - 1 := by unfold zigL; rw [if_neg (by omega), if_neg (by omega)]
theorem unz_out {n : Int} (h : n < 0 ∨ 200000 < n) : unzigL n = 0 ∧ unzOk n = false := by
  refine ⟨if_pos h, ?_⟩
  unfold unzOk
  rcases h with h | h <;> simp [h]
theorem unz_in {n : Int} (h : 0 ≤ n) (h2 : n ≤ 200000) : unzigL n = unzL n ∧ unzOk n = true := by
  refine ⟨if_neg (by omega), ?_⟩
  unfold unzOk
  simp
  omega

theorem neg_half (n : Int) (h0 : 0 ≤ n) (h1 : n ≤ 1000000000) : wrap64 (-(n + 1).tdiv 2) = -((n + 1) / 2) := by
  rw [Int.tdiv_eq_ediv_of_nonneg (by omega)]
  exact IntWalk.wrap64_in _ (by omega)

theorem inRange_any (n lo hi : Int) (w : World) : Calls Try.prog 87 #[.int .i64 n, .int .i64 lo, .int .i64 hi] w fun e w' => e = .returned (.bool (decide (lo ≤ n) && decide (n ≤ hi))) ∧ w = w' := by
  by_cases h1 : lo ≤ n
  · have hd : decide (lo ≤ n) = true := by simpa using h1
    rw [hd]
    go_enter Try.func87, Try.ntmps87
    go_wp2
    go_ret
    exact ⟨rfl, rfl⟩
  · have hd : decide (lo ≤ n) = false := by simpa using h1
    rw [hd]
    go_enter Try.func87, Try.ntmps87
    go_wp2
    go_ret
    exact ⟨rfl, rfl⟩
theorem inRange_yes (n lo hi : Int) (w : World) (h1 : lo ≤ n) (h2 : n ≤ hi) : Calls Try.prog 87 #[.int .i64 n, .int .i64 lo, .int .i64 hi] w fun e w' => e = .returned (.bool true) ∧ w = w' := by
  refine (inRange_any n lo hi w).mono ?_
  rintro e w' ⟨rfl, rfl⟩
  exact ⟨ret_b (by simp [h1, h2]), rfl⟩
theorem inRange_no (n lo hi : Int) (w : World) (h : ¬ (lo ≤ n ∧ n ≤ hi)) : Calls Try.prog 87 #[.int .i64 n, .int .i64 lo, .int .i64 hi] w fun e w' => e = .returned (.bool false) ∧ w = w' := by
  refine (inRange_any n lo hi w).mono ?_
  rintro e w' ⟨rfl, rfl⟩
  refine ⟨ret_b ?_, rfl⟩
  by_cases h1 : lo ≤ n
  · have h2 : ¬ n ≤ hi := fun h2 => h ⟨h1, h2⟩
    simp [h1]; omega
  · simp [h1]
theorem zigS_any (n : Int) (w : World) : Calls Try.prog 78 #[.int .i64 n] w fun e w' => e = .returned (.int .i64 (zigL n)) ∧ w = w' := by
  by_cases h : n < -100000 ∨ 100000 < n
  · rw [zig_out h]
    go_enter Try.func78, Try.ntmps78
    go_wp2_with fail
    refine (inRange_no _ _ _ _ (by omega)).mono ?_
    rintro e w' ⟨rfl, rfl⟩
    go_wp2
    go_ret
    exact ⟨rfl, rfl⟩
  by_cases h0 : 0 ≤ n
  · rw [zig_pos h0 (by omega)]
    have hn1 : -100000 ≤ n := by omega
    have hn2 : n ≤ 100000 := by omega
    clear h
    go_enter Try.func78, Try.ntmps78
    go_wp2_with fail
    refine (inRange_yes _ _ _ _ hn1 hn2).mono ?_
    rintro e w' ⟨rfl, rfl⟩
    go_wp2
    go_ret
    exact ⟨rfl, rfl⟩
  · rw [zig_neg (by omega) (by omega)]
    have hn1 : -100000 ≤ n := by omega
    have hn2 : n ≤ 100000 := by omega
    clear h
    go_enter Try.func78, Try.ntmps78
    go_wp2_with fail
    refine (inRange_yes _ _ _ _ hn1 hn2).mono ?_
    rintro e w' ⟨rfl, rfl⟩
    go_wp2
    go_ret
    exact ⟨rfl, rfl⟩
theorem zigI_any (n : Int) (w : World) : Calls Try.prog 55 #[.int .i64 n] w fun e w' => e = .returned (.int .i64 (zigL n)) ∧ w = w' := by
  by_cases h1 : n < -100000
  · rw [zig_out (.inl h1)]
    have hd : decide (n < -100000) = true := by simpa using h1
    go_enter Try.func55, Try.ntmps55
    go_wp2
    go_ret
    exact ⟨rfl, rfl⟩
  have hd1 : decide (n < -100000) = false := by simpa using h1
  by_cases h2 : 100000 < n
  · rw [zig_out (.inr h2)]
    have hd : decide (100000 < n) = true := by simpa using h2
    go_enter Try.func55, Try.ntmps55
    go_wp2
    go_ret
    exact ⟨rfl, rfl⟩
  have hd2 : decide (100000 < n) = false := by simpa using h2
  by_cases h0 : 0 ≤ n
  · rw [zig_pos h0 (by omega)]
    go_enter Try.func55, Try.ntmps55
    go_wp2
    go_ret
    exact ⟨rfl, rfl⟩
  · rw [zig_neg (by omega) (by omega)]
    go_enter Try.func55, Try.ntmps55
    go_wp2
    go_ret
    exact ⟨rfl, rfl⟩
theorem zigS_at (n v : Int) (w : World) (h : zigL n = v) : Calls Try.prog 78 #[.int .i64 n] w fun e w' => e = .returned (.int .i64 v) ∧ w = w' := by
  subst h
  exact zigS_any n w
theorem zigI_at (n v : Int) (w : World) (h : zigL n = v) : Calls Try.prog 55 #[.int .i64 n] w fun e w' => e = .returned (.int .i64 v) ∧ w = w' := by
  subst h
  exact zigI_any n w
theorem unzig_any (n : Int) (w : World) (h0 : 0 ≤ n) (h1 : n ≤ 1000000000) : Calls Try.prog 62 #[.int .i64 n] w fun e w' => e = .returned (.int .i64 (unzL n)) ∧ w = w' := by
  by_cases h : n % 2 = 0
  · have hb : (n % 2 == 1) = false := by simp; omega
    have hv : unzL n = n / 2 := if_pos h
    rw [hv]
    clear h hv
    go_enter Try.func62, Try.ntmps62
    go_wp2
    go_ret
    exact ⟨rfl, rfl⟩
  · have hb : (n % 2 == 1) = true := by simp; omega
    have hv : unzL n = -((n + 1) / 2) := if_neg h
    have HQ := Lib.hid (neg_half n h0 h1)
    rw [hv]
    clear h hv
    go_enter Try.func62, Try.ntmps62
    go_wp2
    go_ret
    exact ⟨ret_i (HQ.out), rfl⟩
theorem unzI_any (n : Int) (w : World) : Calls Try.prog 80 #[.int .i64 n] w fun e w' => e = .returned (.tuple #[.int .i64 (unzigL n), .bool (unzOk n)]) ∧ w = w' := by
  by_cases h1 : n < 0
  · rw [(unz_out (.inl h1)).1, (unz_out (.inl h1)).2]
    have hd : decide (n < 0) = true := by simpa using h1
    go_enter Try.func80, Try.ntmps80
    go_wp2
    go_ret2
    exact ⟨rfl, rfl⟩
  have hd1 : decide (n < 0) = false := by simpa using h1
  by_cases h2 : 200000 < n
  · rw [(unz_out (.inr h2)).1, (unz_out (.inr h2)).2]
    have hd : decide (200000 < n) = true := by simpa using h2
    go_enter Try.func80, Try.ntmps80
    go_wp2
    go_ret2
    exact ⟨rfl, rfl⟩
  have hd2 : decide (200000 < n) = false := by simpa using h2
  rw [(unz_in (n := n) (by omega) (by omega)).1, (unz_in (n := n) (by omega) (by omega)).2]
  by_cases h : n % 2 = 0
  · have hb : (n % 2 == 0) = true := by simpa using h
    have hv : unzL n = n / 2 := if_pos h
    rw [hv]
    clear h hv
    go_enter Try.func80, Try.ntmps80
    go_wp2
    go_ret2
    exact ⟨rfl, rfl⟩
  · have hb : (n % 2 == 0) = false := by simpa using h
    have hv : unzL n = -((n + 1) / 2) := if_neg h
    have h0 : 0 ≤ n := by omega
    have h3 : n ≤ 200000 := by omega
    have HQ := Lib.hid (neg_half n h0 (by omega))
    rw [hv]
    clear h hv
    go_enter Try.func80, Try.ntmps80
    go_wp2
    go_ret2
    exact ⟨ret_ib (HQ.out) rfl, rfl⟩

theorem unzI_at (n v : Int) (b : Bool) (w : World) (h : unzigL n = v) (h2 : unzOk n = b) : Calls Try.prog 80 #[.int .i64 n] w fun e w' => e = .returned (.tuple #[.int .i64 v, .bool b]) ∧ w = w' := by
  subst h h2
  exact unzI_any n w

theorem floor_parts (a b : Int) (hb : 1 ≤ b) : ∃ q, a.tdiv b = q ∧ a.tmod b = a - q * b ∧ ((0 ≤ a ∧ 0 ≤ q ∧ q ≤ a ∧ 0 ≤ q * b ∧ q * b ≤ a ∧ a / b = q) ∨ (a < 0 ∧ a ≤ q ∧ q ≤ 0 ∧ a ≤ q * b ∧ q * b ≤ 0 ∧ ((q * b = a ∧ a / b = q) ∨ (a < q * b ∧ a / b = q - 1)))) := by
  refine ⟨a.tdiv b, rfl, ?_, ?_⟩
  · have := Int.mul_tdiv_add_tmod a b
    rw [Int.mul_comm] at this
    omega
  by_cases h : 0 ≤ a
  · left
    have e : a.tdiv b = a / b := Int.tdiv_eq_ediv_of_nonneg h
    rw [e]
    have h1 := Int.ediv_nonneg h (show 0 ≤ b by omega)
    have h2 := Int.ediv_mul_le a (show b ≠ 0 by omega)
    have h3 := Int.mul_nonneg h1 (show 0 ≤ b by omega)
    have h4 := Int.ediv_le_self b h
    exact ⟨h, h1, h4, h3, h2, rfl⟩
  · right
    have e : a.tdiv b = -((-a) / b) := by rw [tdiv_eq_if, if_neg h]
    have h0 : 0 ≤ -a := by omega
    have h1 := Int.ediv_nonneg h0 (show 0 ≤ b by omega)
    have h2 := Int.ediv_mul_le (-a) (show b ≠ 0 by omega)
    have h3 := Int.mul_nonneg h1 (show 0 ≤ b by omega)
    have h4 := Int.ediv_le_self b h0
    have h5 := Int.lt_ediv_add_one_mul_self (-a) (show 0 < b by omega)
    generalize (-a) / b = t at *
    rw [e]
    have e1 : -t * b = -(t * b) := Int.neg_mul t b
    have e2 : (t + 1) * b = t * b + b := by rw [Int.add_mul, Int.one_mul]
    rw [e1]
    rw [e2] at h5
    refine ⟨by omega, by omega, by omega, by omega, by omega, ?_⟩
    by_cases hd : -(t * b) = a
    · left
      refine ⟨hd, ?_⟩
      exact ((Int.ediv_emod_unique (a := a) (b := b) (r := 0) (q := -t) (by omega)).2 ⟨by rw [Int.mul_neg, Int.mul_comm b t]; omega, by omega, by omega⟩).1
    · right
      refine ⟨by omega, ?_⟩
      exact ((Int.ediv_emod_unique (a := a) (b := b) (r := a + t * b + b) (q := -t - 1) (by omega)).2 ⟨by rw [Int.mul_sub, Int.mul_neg, Int.mul_one, Int.mul_comm b t]; omega, by omega, by omega⟩).1

end Go.Proofs.Ytcgeagcfhjdpcaa
