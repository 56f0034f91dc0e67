/- Contracts of the comparisons of buckets and of slices of buckets. -/
import Derived.Test.YtoncefhcabgaaaaProg
import Derived.Test.YtoncefhcabgaaaaSer
namespace Go.Proofs.Ytoncefhcabgaaaa
set_option linter.unusedVariables false
open Go.RowKit


attribute [local irreducible] wpQuiet
theorem bk_eq_iff (s ct u lo hi s2 ct2 u2 lo2 hi2 : Int) : ((s, ct, u, lo, hi) : Bk) = (s2, ct2, u2, lo2, hi2) ↔ (s = s2 ∧ ct = ct2 ∧ u = u2 ∧ lo = lo2 ∧ hi = hi2) := by simp
theorem step_eqB {la lb : List Bk} {k : Nat} {s ct u lo hi s2 ct2 u2 lo2 hi2 : Int} (h : la = lb ↔ la.drop k = lb.drop k) (hx : la.drop k = (s, ct, u, lo, hi) :: la.drop (k + 1)) (hy : lb.drop k = (s2, ct2, u2, lo2, hi2) :: lb.drop (k + 1)) : la = lb ↔ ((s = s2 ∧ ct = ct2 ∧ u = u2 ∧ lo = lo2 ∧ hi = hi2) ∧ la.drop (k + 1) = lb.drop (k + 1)) := by
  rw [h, hx, hy]
  simp [bk_eq_iff, and_assoc]
set_option maxHeartbeats 3200000 in
theorem equalBuckets_any (A B : Option Addr) (n c m d : Nat) (la lb : List Bk) (w : World) (h1 : Rd w 5 A n c (bkc la)) (h2 : Rd w 5 B m d (bkc lb)) :
    Calls Try.prog 10 #[.slice A n c, .slice B m d] w fun e w' => e = .returned (.bool (decide (la = lb))) ∧ w.grownBy w' none := by
  have la1 : la.length = n := by have := h1.len; rw [bkc_len] at this; omega
  have lb1 : lb.length = m := by have := h2.len; rw [bkc_len] at this; omega
  have nb : n ≤ 9223372036854775807 := Nat.le_trans h1.cap h1.lim
  by_cases hnm : n = m
  · subst hnm
    have H1 := Lib.hid la1
    have H2 := Lib.hid lb1
    clear la1 lb1
    go_enter Try.func10, Try.ntmps10
    go_wp2
    go_loopw [5] (fun i wr => ∃ k : Nat, k ≤ n ∧ i = .int .i64 k ∧ w.grownBy wr none ∧ Hid (la = lb ↔ la.drop k = lb.drop k)) (fun i _ => n - (intOf i).toNat)
    case atStart => exact ⟨0, Nat.zero_le _, rfl, g_refl _ _, Iff.rfl⟩
    case round =>
      obtain ⟨k, hk, rfl, hg, hI⟩ := hrel
      by_cases hlt : k < n
      · obtain ⟨⟨s, ct, u, lo, hi⟩, hx, hdx⟩ := get_ex (l := la) (i := k) (by have := H1.out; omega)
        obtain ⟨⟨s2, ct2, u2, lo2, hi2⟩, hy, hdy⟩ := get_ex (l := lb) (i := k) (by have := H2.out; omega)
        obtain ⟨b1, o1, rfl, hc1⟩ := (h1.keptN hg).cells hlt
        obtain ⟨b2, o2, rfl, hc2⟩ := (h2.keptN hg).cells hlt
        obtain ⟨x0, x1, x2, x3, x4⟩ := bkc_at hx
        obtain ⟨y0, y1, y2, y3, y4⟩ := bkc_at hy
        have c0 := hc1 _ _ x0
        have c1 := hc1 _ _ x1
        have c2 := hc1 _ _ x2
        have c3 := hc1 _ _ x3
        have c4 := hc1 _ _ x4
        have k0 := hc2 _ _ y0
        have k1 := hc2 _ _ y1
        have k2 := hc2 _ _ y2
        have k3 := hc2 _ _ y3
        have k4 := hc2 _ _ y4
        simp only [Nat.add_zero, ← Nat.add_assoc] at c0 c1 c2 c3 c4 k0 k1 k2 k3 k4
        have HX := Lib.hid (step_eqB hI.out hdx hdy)
        clear hc1 hc2 hx hy hdx hdy h1 h2 hI x0 x1 x2 x3 x4 y0 y1 y2 y3 y4
        have hlt' : (k : Int) < (n : Int) := by omega
        go_wp2_with fail
        have d0 := gw_cellW c0
        have m0 := gw_cellW k0
        have d1 := gw_cellW c1
        have m1 := gw_cellW k1
        have d2 := gw_cellW c2
        have m2 := gw_cellW k2
        have d3 := gw_cellW c3
        have m3 := gw_cellW k3
        have d4 := gw_cellW c4
        have m4 := gw_cellW k4
        clear c0 c1 c2 c3 c4 k0 k1 k2 k3 k4
        refine wp_region_gw (W := wr) (by kernel_rfl) (by kernel_rfl) (g_refl _ _) ?_
        by_cases hxy : s = s2 ∧ ct = ct2 ∧ u = u2 ∧ lo = lo2 ∧ hi = hi2
        · obtain ⟨rfl, rfl, rfl, rfl, rfl⟩ := hxy
          repeat (quiet_step (fail))
          refine wpQuiet_nil ?_
          rintro _ ⟨⟨w2, hg2⟩, rfl⟩
          go_wp2
          go_roundw
          case rel => exact ⟨k + 1, by omega, by go_num, g_trans hg hg2, HX.out.trans (by simp)⟩
          case measure => simp [intOf]; omega
        · have HN := Lib.hid hxy
          have hb : ((s == s2) = false) ∨ ((s == s2) = true ∧ (ct == ct2) = false) ∨ ((s == s2) = true ∧ (ct == ct2) = true ∧ (u == u2) = false) ∨ ((s == s2) = true ∧ (ct == ct2) = true ∧ (u == u2) = true ∧ (lo == lo2) = false) ∨ ((s == s2) = true ∧ (ct == ct2) = true ∧ (u == u2) = true ∧ (lo == lo2) = true ∧ (hi == hi2) = false) := by
            simp only [beq_iff_eq, beq_eq_false_iff_ne]
            omega
          clear hxy
          rcases hb with hb | ⟨hb, hb2⟩ | ⟨hb, hb2, hb3⟩ | ⟨hb, hb2, hb3, hb4⟩ | ⟨hb, hb2, hb3, hb4, hb5⟩
          all_goals
            repeat (quiet_step (fail))
            refine wpQuiet_nil ?_
            rintro _ ⟨⟨w2, hg2⟩, rfl⟩
            go_wp2
            go_ret
            refine ⟨ret_b ?_, g_trans hg hg2⟩
            exact (decide_eq_false (fun h => HN.out (HX.out.1 h).1)).symm
      · have hkn : k = n := by omega
        have hge : ¬ (k : Int) < (n : Int) := by omega
        have HK := Lib.hid hkn
        clear hkn
        go_wp2
        go_ret
        refine ⟨ret_b ?_, hg⟩
        have he : la = lb := by
          rw [hI.out, List.drop_eq_nil_of_le (by have := H1.out; have := HK.out; omega), List.drop_eq_nil_of_le (by have := H2.out; have := HK.out; omega)]
        simp [he]
  · have hne : ((n : Int) != (m : Int)) = true := by rw [bne_iff_ne]; omega
    have hab : Hid (¬ la = lb) := by
      intro h
      rw [h] at la1
      omega
    clear la1 lb1
    go_enter Try.func10, Try.ntmps10
    go_wp2
    go_ret
    exact ⟨ret_b (by simp [hab.out]), g_refl _ _⟩
theorem equalBuckets_same (A B : Option Addr) (n c m d : Nat) (l : List Bk) (w : World) (h1 : Rd w 5 A n c (bkc l)) (h2 : Rd w 5 B m d (bkc l)) :
    Calls Try.prog 10 #[.slice A n c, .slice B m d] w fun e w' => e = .returned (.bool true) ∧ w.grownBy w' none := by
  refine (equalBuckets_any A B n c m d l l w h1 h2).mono ?_
  rintro e w' ⟨rfl, hg⟩
  exact ⟨ret_b (by simp), hg⟩
end Go.Proofs.Ytoncefhcabgaaaa
