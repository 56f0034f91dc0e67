/- Contracts of what joins two buckets, of the program and of the reference. -/
import Derived.Test.YtoncefhcabgaaaaProg
import Derived.Test.YtoncefhcabgaaaaGrp
namespace Go.Proofs.Ytoncefhcabgaaaa
set_option linter.unusedVariables false
open Go.RowKit

set_option maxHeartbeats 800000 in
theorem joinI_any (s n u lo hi s2 n2 u2 lo2 hi2 : Int) (w : World) (h1 : -1000000000 ≤ n ∧ n ≤ 1000000000) (h2 : -1000000000 ≤ n2 ∧ n2 ≤ 1000000000) (h3 : -1000000000 ≤ u ∧ u ≤ 1000000000) (h4 : -1000000000 ≤ u2 ∧ u2 ≤ 1000000000) :
    Calls Try.prog 38 #[.agg #[.int .i64 s, .int .i64 n, .int .i64 u, .int .i64 lo, .int .i64 hi], .agg #[.int .i64 s2, .int .i64 n2, .int .i64 u2, .int .i64 lo2, .int .i64 hi2]] w fun e w' =>
      e = .returned (.agg #[.int .i64 s, .int .i64 (n + n2), .int .i64 (u + u2), .int .i64 (min lo lo2), .int .i64 (max hi hi2)]) ∧ w.grownBy w' none := by
  obtain ⟨h1, h1'⟩ := h1
  obtain ⟨h2, h2'⟩ := h2
  obtain ⟨h3, h3'⟩ := h3
  obtain ⟨h4, h4'⟩ := h4
  have d1 : (min lo lo2 = lo2 ∧ lo2 < lo) ∨ (min lo lo2 = lo ∧ lo ≤ lo2) := by omega
  have d2 : (max hi hi2 = hi2 ∧ hi < hi2) ∨ (max hi hi2 = hi ∧ hi2 ≤ hi) := by omega
  rcases d1 with ⟨e1, k1⟩ | ⟨e1, k1⟩
  · rcases d2 with ⟨e2, k2⟩ | ⟨e2, k2⟩
    · rw [e1, e2]
      clear e1 e2
      go_enter Try.func38, Try.ntmps38
      go_wp2
      refine bodyPost_ret (v := .agg #[.int .i64 s, .int .i64 (n + n2), .int .i64 (u + u2), .int .i64 lo2, .int .i64 hi2]) (by simp [results, Try.results38, go_sem]) rfl ⟨rfl, ?_⟩
      exact g_trans (g_alloc _ _ _) (g_trans (g_alloc _ _ _) (g_alloc _ _ _))
    · rw [e1, e2]
      clear e1 e2
      go_enter Try.func38, Try.ntmps38
      go_wp2
      refine bodyPost_ret (v := .agg #[.int .i64 s, .int .i64 (n + n2), .int .i64 (u + u2), .int .i64 lo2, .int .i64 hi]) (by simp [results, Try.results38, go_sem]) rfl ⟨rfl, ?_⟩
      exact g_trans (g_alloc _ _ _) (g_trans (g_alloc _ _ _) (g_alloc _ _ _))
  · rcases d2 with ⟨e2, k2⟩ | ⟨e2, k2⟩
    · rw [e1, e2]
      clear e1 e2
      go_enter Try.func38, Try.ntmps38
      go_wp2
      refine bodyPost_ret (v := .agg #[.int .i64 s, .int .i64 (n + n2), .int .i64 (u + u2), .int .i64 lo, .int .i64 hi2]) (by simp [results, Try.results38, go_sem]) rfl ⟨rfl, ?_⟩
      exact g_trans (g_alloc _ _ _) (g_trans (g_alloc _ _ _) (g_alloc _ _ _))
    · rw [e1, e2]
      clear e1 e2
      go_enter Try.func38, Try.ntmps38
      go_wp2
      refine bodyPost_ret (v := .agg #[.int .i64 s, .int .i64 (n + n2), .int .i64 (u + u2), .int .i64 lo, .int .i64 hi]) (by simp [results, Try.results38, go_sem]) rfl ⟨rfl, ?_⟩
      exact g_trans (g_alloc _ _ _) (g_trans (g_alloc _ _ _) (g_alloc _ _ _))
set_option maxHeartbeats 800000 in
theorem joinS_any (s n u lo hi s2 n2 u2 lo2 hi2 : Int) (w : World) (h1 : -1000000000 ≤ n ∧ n ≤ 1000000000) (h2 : -1000000000 ≤ n2 ∧ n2 ≤ 1000000000) (h3 : -1000000000 ≤ u ∧ u ≤ 1000000000) (h4 : -1000000000 ≤ u2 ∧ u2 ≤ 1000000000) :
    Calls Try.prog 40 #[.agg #[.int .i64 s, .int .i64 n, .int .i64 u, .int .i64 lo, .int .i64 hi], .agg #[.int .i64 s2, .int .i64 n2, .int .i64 u2, .int .i64 lo2, .int .i64 hi2]] w fun e w' =>
      e = .returned (.agg #[.int .i64 s, .int .i64 (n + n2), .int .i64 (u + u2), .int .i64 (min lo lo2), .int .i64 (max hi hi2)]) ∧ w.grownBy w' none := by
  obtain ⟨h1, h1'⟩ := h1
  obtain ⟨h2, h2'⟩ := h2
  obtain ⟨h3, h3'⟩ := h3
  obtain ⟨h4, h4'⟩ := h4
  have d1 : (min lo lo2 = lo2 ∧ lo2 < lo) ∨ (min lo lo2 = lo ∧ lo ≤ lo2) := by omega
  have d2 : (max hi hi2 = hi2 ∧ hi < hi2) ∨ (max hi hi2 = hi ∧ hi2 ≤ hi) := by omega
  rcases d1 with ⟨e1, k1⟩ | ⟨e1, k1⟩
  · rcases d2 with ⟨e2, k2⟩ | ⟨e2, k2⟩
    · rw [e1, e2]
      clear e1 e2
      go_enter Try.func40, Try.ntmps40
      go_wp2
      refine bodyPost_ret (v := .agg #[.int .i64 s, .int .i64 (n + n2), .int .i64 (u + u2), .int .i64 lo2, .int .i64 hi2]) (by simp [results, Try.results40, go_sem]) rfl ⟨rfl, ?_⟩
      exact g_trans (g_alloc _ _ _) (g_trans (g_alloc _ _ _) (g_alloc _ _ _))
    · rw [e1, e2]
      clear e1 e2
      go_enter Try.func40, Try.ntmps40
      go_wp2
      refine bodyPost_ret (v := .agg #[.int .i64 s, .int .i64 (n + n2), .int .i64 (u + u2), .int .i64 lo2, .int .i64 hi]) (by simp [results, Try.results40, go_sem]) rfl ⟨rfl, ?_⟩
      exact g_trans (g_alloc _ _ _) (g_trans (g_alloc _ _ _) (g_alloc _ _ _))
  · rcases d2 with ⟨e2, k2⟩ | ⟨e2, k2⟩
    · rw [e1, e2]
      clear e1 e2
      go_enter Try.func40, Try.ntmps40
      go_wp2
      refine bodyPost_ret (v := .agg #[.int .i64 s, .int .i64 (n + n2), .int .i64 (u + u2), .int .i64 lo, .int .i64 hi2]) (by simp [results, Try.results40, go_sem]) rfl ⟨rfl, ?_⟩
      exact g_trans (g_alloc _ _ _) (g_trans (g_alloc _ _ _) (g_alloc _ _ _))
    · rw [e1, e2]
      clear e1 e2
      go_enter Try.func40, Try.ntmps40
      go_wp2
      refine bodyPost_ret (v := .agg #[.int .i64 s, .int .i64 (n + n2), .int .i64 (u + u2), .int .i64 lo, .int .i64 hi]) (by simp [results, Try.results40, go_sem]) rfl ⟨rfl, ?_⟩
      exact g_trans (g_alloc _ _ _) (g_trans (g_alloc _ _ _) (g_alloc _ _ _))
end Go.Proofs.Ytoncefhcabgaaaa
