/- Contracts of ValidBuckets, of the program and of the reference. -/
import Derived.Test.YtoncefhcabgaaaaProg
import Derived.Test.YtoncefhcabgaaaaBks
import Derived.Test.YtoncefhcabgaaaaSer
namespace Go.Proofs.Ytoncefhcabgaaaa
set_option linter.unusedVariables false
open Go.RowKit

/-- valid buckets of a width -/
def okW (W : Int) (l : List Bk) : Bool := (decide (1 ≤ W) && decide (W ≤ 100)) && okBs W l
theorem okW_iff {W : Int} {l : List Bk} : okW W l = true ↔ (1 ≤ W ∧ W ≤ 100) ∧ okBs W l = true := by
  unfold okW
  simp only [Bool.and_eq_true, decide_eq_true_eq]
theorem prevB_cell {w : World} {l : List Bk} {k b o : Nat} (h : ∀ j u, (bkc l)[j]? = some u → w.cell? ⟨b, o + j, none⟩ = some u) (hk : k < l.length) : ∀ j, k = j + 1 → ∃ sp, prevB l k = some sp ∧ w.cell? ⟨b, o + j * 5, none⟩ = some (.int .i64 sp) := by
  intro j hj
  subst hj
  exact prev_cells h hk j rfl
attribute [local irreducible] wpQuiet

theorem validBucket_b (s c u lo hi W : Int) (b : Bool) (w : World) (hW : 1 ≤ W) (hW2 : W ≤ 100) (h : okB W s c u lo hi = b) :
    Calls Try.prog 31 #[.agg #[.int .i64 s, .int .i64 c, .int .i64 u, .int .i64 lo, .int .i64 hi], .int .i64 W] w fun e w' => e = .returned (.bool b) ∧ w.grownBy w' none := by
  subst h
  exact validBucket_any s c u lo hi W w hW hW2
set_option maxHeartbeats 3200000 in
theorem validBI_loop (A : Option Addr) (n c : Nat) (l : List Bk) (W : Int) (w : World) (h : Rd w 5 A n c (bkc l)) (hW : 1 ≤ W) (hW2 : W ≤ 100) (hn : n ≤ 16) :
    Calls Try.prog 16 #[.slice A n c, .int .i64 W] w fun e w' => e = .returned (.bool (okBs W l)) ∧ w.grownBy w' none := by
  have l1 : l.length = n := by have := h.len; rw [bkc_len] at this; omega
  have hd1 : decide (W < 1) = false := by simp; omega
  have hd2 : decide (100 < W) = false := by simp; omega
  have hd3 : decide ((16 : Int) < (n : Int)) = false := by simp; omega
  have hd4 : decide (16 < n) = false := by simp; omega
  have E : Hid (okBs W l = seqB W (prevB l 0) (l.drop 0)) := by show _ = _; unfold okBs prevB; simp; omega
  have H1 := Lib.hid l1
  clear l1
  go_enter Try.func16, Try.ntmps16
  go_wp2
  go_loopw [20] (fun i wr => ∃ k : Nat, k ≤ n ∧ i = .int .i64 k ∧ w.grownBy wr none ∧ Hid (okBs W l = seqB W (prevB l k) (l.drop k))) (fun i _ => n - (intOf i).toNat)
  case atStart => exact ⟨0, Nat.zero_le _, rfl, g_refl _ _, E⟩
  case round =>
    obtain ⟨k, hk, rfl, hg, hI⟩ := hrel
    clear E
    by_cases hlt : k < n
    · obtain ⟨⟨s, ct, u, lo, hi⟩, hx, hdx⟩ := get_ex (l := l) (i := k) (by have := H1.out; omega)
      obtain ⟨b, o, rfl, hc⟩ := (h.keptN hg).cells hlt
      obtain ⟨x0, x1, x2, x3, x4⟩ := bkc_at hx
      have c0 := hc _ _ x0
      have c1 := hc _ _ x1
      have c2 := hc _ _ x2
      have c3 := hc _ _ x3
      have c4 := hc _ _ x4
      simp only [Nat.add_zero, ← Nat.add_assoc] at c0 c1 c2 c3 c4
      have hlt' : (k : Int) < (n : Int) := by omega
      have HX := Lib.hid (And.intro hx hdx)
      have HP := Lib.hid (prevB_cell (l := l) (k := k) (o := o) hc (by have := H1.out; omega))
      clear hc hx hdx h x0 x1 x2 x3 x4
      go_wp2_with fail
      have r1 := Blk.new wr 31 [.int .i64 s, .int .i64 ct, .int .i64 u, .int .i64 lo, .int .i64 hi]
      have gA := g_alloc wr (.cells #[.int .i64 s, .int .i64 ct, .int .i64 u, .int .i64 lo, .int .i64 hi] 31) none
      simp only [List.toArray] at r1
      have d0 := gw_cellW ((r1.cell 0).trans rfl)
      have d1 := gw_cellW ((r1.cell 1).trans rfl)
      have d2 := gw_cellW ((r1.cell 2).trans rfl)
      have d3 := gw_cellW ((r1.cell 3).trans rfl)
      have d4 := gw_cellW ((r1.cell 4).trans rfl)
      have GA := Lib.hid (g_trans hg gA)
      obtain ⟨q, hq⟩ : ∃ q, okB W s ct u lo hi = q := ⟨_, rfl⟩
      have hq1 : okB1 W (s, ct, u, lo, hi) = q := hq
      clear r1 c0 c1 c2 c3 c4
      refine wp_region_gw (W := wr.alloc (.cells #[.int .i64 s, .int .i64 ct, .int .i64 u, .int .i64 lo, .int .i64 hi] 31)) (by kernel_rfl) (by kernel_rfl) (g_refl _ _) ?_
      cases q with
      | false =>
        have HN : Hid (okBs W l = false) := by show _ = _; rw [hI.out, HX.out.2]; simp [seqB, hq1]
        have HQ := Lib.hid hq
        clear hI HX HP gA hq hq1
        repeat (quiet_step ((go_at_call 31; exact gw_call (validBucket_b _ _ _ _ _ _ _ _ hW hW2 HQ.out))))
        refine wpQuiet_nil ?_
        rintro _ ⟨⟨w2, hg2⟩, rfl⟩
        go_wp2
        go_ret
        exact ⟨ret_b HN.out.symm, g_trans GA.out hg2⟩
      | true =>
        have HQ := Lib.hid hq
        by_cases k0 : k = 0
        · subst k0
          have HY : Hid (okBs W l = seqB W (prevB l 1) (l.drop 1)) := by
            show _ = _
            rw [hI.out, HX.out.2]
            simp [seqB, hq1, prevB, HX.out.1]
          clear hI HX HP gA hq hq1
          repeat (quiet_step ((go_at_call 31; exact gw_call (validBucket_b _ _ _ _ _ _ _ _ hW hW2 HQ.out))))
          refine wpQuiet_nil ?_
          rintro _ ⟨⟨w2, hg2⟩, rfl⟩
          go_wp2
          go_roundw
          case rel => exact ⟨1, by omega, by go_num, g_trans GA.out hg2, HY⟩
          case measure => simp [intOf]; omega
        · obtain ⟨j, hj⟩ : ∃ j, k = j + 1 := ⟨k - 1, by omega⟩
          obtain ⟨sp, hsp, hcp⟩ := HP.out j hj
          have d5 := gw_cellW ((gA.cell hcp (by simp)))
          have hj0 : decide (0 < k) = true := by simp; omega
          have hj1 : IntKind.i64.wrap ((k : Int) - 1) = (j : Int) := by rw [show ((k : Int) - 1) = (j : Int) by omega]; exact IntWalk.i64_in _ (by omega)
          have hj2 : (j : Int) < (n : Int) := by omega
          have HJ := Lib.hid hj
          have hnext : prevB l (k + 1) = some s := by simp [prevB, HX.out.1]
          by_cases hord : sp < s
          · have hd : decide (s ≤ sp) = false := by simp; omega
            have HY : Hid (okBs W l = seqB W (prevB l (k + 1)) (l.drop (k + 1))) := by
              show _ = _
              rw [hI.out, HX.out.2, hsp, hnext]
              simp [seqB, hq1, hord]
            clear hI HX HP gA hq hq1 hsp hnext hcp hj k0
            repeat (quiet_step ((go_at_call 31; exact gw_call (validBucket_b _ _ _ _ _ _ _ _ hW hW2 HQ.out))))
            refine wpQuiet_nil ?_
            rintro _ ⟨⟨w2, hg2⟩, rfl⟩
            go_wp2
            go_roundw
            case rel => exact ⟨k + 1, by omega, by go_num, g_trans GA.out hg2, HY⟩
            case measure => simp [intOf]; omega
          · have hd : decide (s ≤ sp) = true := by simp; omega
            have HN : Hid (okBs W l = false) := by
              show _ = _
              rw [hI.out, HX.out.2, hsp]
              simp [seqB, hq1, hord]
            clear hI HX HP gA hq hq1 hsp hnext hcp hj k0
            repeat (quiet_step ((go_at_call 31; exact gw_call (validBucket_b _ _ _ _ _ _ _ _ hW hW2 HQ.out))))
            refine wpQuiet_nil ?_
            rintro _ ⟨⟨w2, hg2⟩, rfl⟩
            go_wp2
            go_ret
            exact ⟨ret_b HN.out.symm, g_trans GA.out hg2⟩
    · have hge : ¬ (k : Int) < (n : Int) := by omega
      have HH : Hid (okBs W l = true) := by
        show _ = _
        rw [hI.out, List.drop_eq_nil_of_le (by have := H1.out; omega)]
        cases prevB l k <;> rfl
      clear hI
      go_wp2
      go_ret
      exact ⟨ret_b HH.out.symm, hg⟩
theorem validBI_any (A : Option Addr) (n c : Nat) (l : List Bk) (W : Int) (w : World) (h : Rd w 5 A n c (bkc l)) :
    Calls Try.prog 16 #[.slice A n c, .int .i64 W] w fun e w' => e = .returned (.bool (okW W l)) ∧ w.grownBy w' none := by
  have l1 : l.length = n := by have := h.len; rw [bkc_len] at this; omega
  have nb : n ≤ 9223372036854775807 := Nat.le_trans h.cap h.lim
  by_cases h1 : W < 1
  · have E := Lib.hid (show okW W l = false by cases hk : okW W l with | false => rfl | true => have := (okW_iff.1 hk).1; omega)
    have hd : decide (W < 1) = true := by simpa using h1
    clear l1 h
    go_enter Try.func16, Try.ntmps16
    go_wp2
    go_ret
    exact ⟨ret_b E.out.symm, g_refl _ _⟩
  by_cases h2 : 100 < W
  · have E := Lib.hid (show okW W l = false by cases hk : okW W l with | false => rfl | true => have := (okW_iff.1 hk).1; omega)
    have hd : decide (W < 1) = false := by simpa using h1
    have hd2 : decide (100 < W) = true := by simpa using h2
    clear l1 h
    go_enter Try.func16, Try.ntmps16
    go_wp2
    go_ret
    exact ⟨ret_b E.out.symm, g_refl _ _⟩
  by_cases h3 : 16 < n
  · have E := Lib.hid (show okW W l = false by cases hk : okW W l with | false => rfl | true => have := (okW_iff.1 hk).2; unfold okBs at this; simp only [Bool.and_eq_true, decide_eq_true_eq] at this; omega)
    have hd : decide (W < 1) = false := by simpa using h1
    have hd2 : decide (100 < W) = false := by simpa using h2
    have hd3 : decide ((16 : Int) < (n : Int)) = true := by simp; omega
    have hd4 : decide (16 < n) = true := by simpa using h3
    clear l1 h
    go_enter Try.func16, Try.ntmps16
    go_wp2
    go_ret
    exact ⟨ret_b E.out.symm, g_refl _ _⟩
  have E : okW W l = okBs W l := by unfold okW; simp; omega
  rw [E]
  exact validBI_loop A n c l W w h (by omega) (by omega) (by omega)
theorem validBS_any (A : Option Addr) (n c : Nat) (l : List Bk) (W : Int) (w : World) (h : Rd w 5 A n c (bkc l)) :
    Calls Try.prog 28 #[.slice A n c, .int .i64 W] w fun e w' => e = .returned (.bool (okW W l)) ∧ w.grownBy w' none := by
  obtain ⟨r, hr⟩ : ∃ r, (decide (1 ≤ W) && decide (W ≤ 100)) = r := ⟨_, rfl⟩
  have HQ := Lib.hid (And.intro h hr)
  cases r with
  | false =>
    have E := Lib.hid (show okW W l = false by unfold okW; rw [hr]; rfl)
    clear h hr
    go_enter Try.func28, Try.ntmps28
    go_wp2_with fail
    refine (inRange_bB _ _ _ _ _ HQ.out.2).mono ?_
    rintro e w2 ⟨rfl, rfl⟩
    go_wp2
    go_ret
    exact ⟨ret_b E.out.symm, g_refl _ _⟩
  | true =>
    have E := Lib.hid (show okW W l = okBs W l by unfold okW; rw [hr]; rfl)
    have hW : 1 ≤ W ∧ W ≤ 100 := by simpa using hr
    obtain ⟨hW1, hW2⟩ := hW
    clear h hr
    go_enter Try.func28, Try.ntmps28
    go_wp2_with fail
    refine (inRange_bB _ _ _ _ _ HQ.out.2).mono ?_
    rintro e w2 ⟨rfl, rfl⟩
    go_wp2_with fail
    refine (validBucketsS_any A n c l W _ HQ.out.1 hW1 hW2).mono ?_
    rintro e w3 ⟨rfl, g3⟩
    go_wp2
    go_ret
    exact ⟨ret_b E.out.symm, g3⟩
theorem validBI_at (A : Option Addr) (n c : Nat) (l : List Bk) (W : Int) (b : Bool) (w : World) (h : Rd w 5 A n c (bkc l)) (hb : okW W l = b) :
    Calls Try.prog 16 #[.slice A n c, .int .i64 W] w fun e w' => e = .returned (.bool b) ∧ w.grownBy w' none := by
  subst hb
  exact validBI_any A n c l W w h
theorem validBS_at (A : Option Addr) (n c : Nat) (l : List Bk) (W : Int) (b : Bool) (w : World) (h : Rd w 5 A n c (bkc l)) (hb : okW W l = b) :
    Calls Try.prog 28 #[.slice A n c, .int .i64 W] w fun e w' => e = .returned (.bool b) ∧ w.grownBy w' none := by
  subst hb
  exact validBS_any A n c l W w h
end Go.Proofs.Ytoncefhcabgaaaa
