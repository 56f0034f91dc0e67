/- Contract of spec.validBuckets (the reference's own predicate), for every list of buckets; the plain predicate beside it. -/
import Derived.Test.YtoncefhcabgaaaaProg
import Derived.Test.YtoncefhcabgaaaaQuiet
import Derived.Test.YtoncefhcabgaaaaNum
import Derived.Test.YtoncefhcabgaaaaBk
import Derived.Deep.MidRow
namespace Go.Proofs.Ytoncefhcabgaaaa
set_option linter.unusedVariables false
open Go.RowKit

/-- one bucket, ahead of the order -/
def okB1 (W : Int) (b : Bk) : Bool := okB W b.1 b.2.1 b.2.2.1 b.2.2.2.1 b.2.2.2.2
/-- all are valid and their starts ascend from p on -/
def seqB (W : Int) : Option Int → List Bk → Bool
  | _, [] => true
  | p, b :: r => okB1 W b && (match p with | none => true | some q => decide (q < b.1)) && seqB W (some b.1) r
def okBs (W : Int) (l : List Bk) : Bool := seqB W none l && decide (l.length ≤ 16)
def prevB (l : List Bk) : Nat → Option Int
  | 0 => none
  | k + 1 => (l[k]?).map (·.1)

theorem bk_range {w : World} {b o : Nat} {x0 x1 x2 x3 x4 : Value} (h0 : w.cell? ⟨b, o, none⟩ = some x0) (h1 : w.cell? ⟨b, o + 1, none⟩ = some x1) (h2 : w.cell? ⟨b, o + 2, none⟩ = some x2) (h3 : w.cell? ⟨b, o + 3, none⟩ = some x3) (h4 : w.cell? ⟨b, o + 4, none⟩ = some x4) : w.rangeAt b o [x0, x1, x2, x3, x4] := by
  intro j v hv
  match j with
  | 0 => simp at hv; subst hv; exact h0
  | 1 => simp at hv; subst hv; exact h1
  | 2 => simp at hv; subst hv; exact h2
  | 3 => simp at hv; subst hv; exact h3
  | 4 => simp at hv; subst hv; exact h4
  | j + 5 => simp at hv
theorem pt_range {w : World} {b o : Nat} {x0 x1 : Value} (h0 : w.cell? ⟨b, o, none⟩ = some x0) (h1 : w.cell? ⟨b, o + 1, none⟩ = some x1) : w.rangeAt b o [x0, x1] := by
  intro j v hv
  match j with
  | 0 => simp at hv; subst hv; exact h0
  | 1 => simp at hv; subst hv; exact h1
  | j + 2 => simp at hv

theorem inRange_bB (n lo hi : Int) (w : World) (b : Bool) (h : (decide (lo ≤ n) && decide (n ≤ hi)) = b) : Calls Try.prog 24 #[.int .i64 n, .int .i64 lo, .int .i64 hi] w fun e w' => e = .returned (.bool b) ∧ w = w' := by
  subst h
  exact inRange_any n lo hi w
theorem rng_yes {a b x : Int} (h : a ≤ x ∧ x ≤ b) : (decide (a ≤ x) && decide (x ≤ b)) = true := by simp [h.1, h.2]
theorem rng_no {a b x : Int} (h : ¬ (a ≤ x ∧ x ≤ b)) : (decide (a ≤ x) && decide (x ≤ b)) = false := by
  rw [← Bool.decide_and]; exact decide_eq_false h
theorem prev_cells {w : World} {l : List Bk} {k b o : Nat} (h : ∀ j u, (bkc l)[j]? = some u → w.cell? ⟨b, o + j, none⟩ = some u) (hk : k < l.length) : ∀ j, k = j + 1 → ∃ sp, prevB l (j + 1) = some sp ∧ w.cell? ⟨b, o + j * 5, none⟩ = some (.int .i64 sp) := by
  intro j hj
  obtain ⟨⟨sp, r⟩, hx, -⟩ := get_ex (l := l) (i := j) (by omega)
  refine ⟨sp, by simp [prevB, hx], ?_⟩
  have := h _ _ (bkc_at hx).1
  simpa using this
theorem i64_inB (n : Int) (h : -9223372036854775808 ≤ n ∧ n ≤ 9223372036854775807) : IntKind.i64.wrap n = n := (IntWalk.i64_left n).trans (IntWalk.wrap64_in n h)
theorem okB1_cases (W s c u lo hi : Int) :
    (¬ (0 ≤ s ∧ s ≤ 1000) ∧ okB1 W (s, c, u, lo, hi) = false) ∨ ((0 ≤ s ∧ s ≤ 1000) ∧ ¬ s % W = 0 ∧ okB1 W (s, c, u, lo, hi) = false) ∨ ((0 ≤ s ∧ s ≤ 1000) ∧ s % W = 0 ∧ ¬ (1 ≤ c ∧ c ≤ 100) ∧ okB1 W (s, c, u, lo, hi) = false) ∨
    ((0 ≤ s ∧ s ≤ 1000) ∧ s % W = 0 ∧ (1 ≤ c ∧ c ≤ 100) ∧ ¬ (-1000 ≤ lo ∧ lo ≤ 1000) ∧ okB1 W (s, c, u, lo, hi) = false) ∨
    ((0 ≤ s ∧ s ≤ 1000) ∧ s % W = 0 ∧ (1 ≤ c ∧ c ≤ 100) ∧ (-1000 ≤ lo ∧ lo ≤ 1000) ∧ ¬ (lo ≤ hi ∧ hi ≤ 1000) ∧ okB1 W (s, c, u, lo, hi) = false) ∨
    ((0 ≤ s ∧ s ≤ 1000) ∧ s % W = 0 ∧ (1 ≤ c ∧ c ≤ 100) ∧ (-1000 ≤ lo ∧ lo ≤ 1000) ∧ (lo ≤ hi ∧ hi ≤ 1000) ∧ ¬ (lo * c ≤ u ∧ u ≤ hi * c) ∧ okB1 W (s, c, u, lo, hi) = false) ∨
    ((0 ≤ s ∧ s ≤ 1000) ∧ s % W = 0 ∧ (1 ≤ c ∧ c ≤ 100) ∧ (-1000 ≤ lo ∧ lo ≤ 1000) ∧ (lo ≤ hi ∧ hi ≤ 1000) ∧ (lo * c ≤ u ∧ u ≤ hi * c) ∧ okB1 W (s, c, u, lo, hi) = true) := by
  have yes := @okB_yes W s c u lo hi
  have no := @okB_no W s c u lo hi
  unfold okB1
  simp only
  by_cases c0 : 0 ≤ s ∧ s ≤ 1000
  · by_cases c1 : s % W = 0
    · by_cases c2 : 1 ≤ c ∧ c ≤ 100
      · by_cases c3 : -1000 ≤ lo ∧ lo ≤ 1000
        · by_cases c4 : lo ≤ hi ∧ hi ≤ 1000
          · by_cases c5 : lo * c ≤ u ∧ u ≤ hi * c
            · exact .inr (.inr (.inr (.inr (.inr (.inr ⟨c0, c1, c2, c3, c4, c5, yes ⟨c0.1, c0.2, c1, c2.1, c2.2, c3.1, c4.1, c4.2, c5.1, c5.2⟩⟩)))))
            · exact .inr (.inr (.inr (.inr (.inr (.inl ⟨c0, c1, c2, c3, c4, c5, no (fun h => c5 ⟨h.2.2.2.2.2.2.2.2.1, h.2.2.2.2.2.2.2.2.2⟩)⟩)))))
          · exact .inr (.inr (.inr (.inr (.inl ⟨c0, c1, c2, c3, c4, no (fun h => c4 ⟨h.2.2.2.2.2.2.1, h.2.2.2.2.2.2.2.1⟩)⟩))))
        · exact .inr (.inr (.inr (.inl ⟨c0, c1, c2, c3, no (fun h => c3 (by omega))⟩)))
      · exact .inr (.inr (.inl ⟨c0, c1, c2, no (fun h => c2 ⟨h.2.2.2.1, h.2.2.2.2.1⟩)⟩))
    · exact .inr (.inl ⟨c0, c1, no (fun h => c1 h.2.2.1)⟩)
  · exact .inl ⟨c0, no (fun h => c0 ⟨h.1, h.2.1⟩)⟩

attribute [local irreducible] wpQuiet
set_option maxHeartbeats 8000000 in
theorem validBucketsS_any (A : Option Addr) (n c : Nat) (l : List Bk) (W : Int) (w : World) (h : Rd w 5 A n c (bkc l)) (hW : 1 ≤ W) (hW2 : W ≤ 100) :
    Calls Try.prog 30 #[.slice A n c, .int .i64 W] w fun e w' => e = .returned (.bool (okBs W l)) ∧ w.grownBy w' none := by
  have hl : l.length = n := by have := h.len; rw [bkc_len] at this; omega
  have nb : n ≤ 9223372036854775807 := Nat.le_trans h.cap h.lim
  have hW0 : ¬ W = 0 := by omega
  have HE : Hid (seqB W none l = seqB W (prevB l 0) (l.drop 0)) := rfl
  have HL := Lib.hid hl
  clear hl
  go_enter Try.func30, Try.ntmps30
  go_wp2
  go_loopw [5] (fun i wr => ∃ k : Nat, k ≤ n ∧ i = .int .i64 k ∧ w.grownBy wr none ∧ Hid (seqB W none l = seqB W (prevB l k) (l.drop k))) (fun i _ => n - (intOf i).toNat)
  case atStart => exact ⟨0, Nat.zero_le _, rfl, g_refl _ _, HE⟩
  case round =>
    clear HE
    obtain ⟨k, hk, rfl, hg, hI⟩ := hrel
    by_cases hlt : k < n
    · obtain ⟨⟨s, ct, u, lo, hi⟩, hx, hdx⟩ := get_ex (l := l) (i := k) (by have := HL.out; omega)
      obtain ⟨b1, o1, rfl, hc1⟩ := (h.keptN hg).cells hlt
      obtain ⟨x0, x1, x2, x3, x4⟩ := bkc_at hx
      have q0 := hc1 _ _ x0
      have q1 := hc1 _ _ x1
      have q2 := hc1 _ _ x2
      have q3 := hc1 _ _ x3
      have q4 := hc1 _ _ x4
      simp only [Nat.add_zero, ← Nat.add_assoc] at q0 q1 q2 q3 q4
      have hlt' : (k : Int) < (n : Int) := by omega
      have HX := Lib.hid (And.intro hx hdx)
      have HP := Lib.hid (prev_cells (l := l) (k := k) (o := o1) hc1 (by have := HL.out; omega))
      clear hc1 hx hdx x0 x1 x2 x3 x4 h
      go_wp2_with fail
      have hs := okB1_cases W s ct u lo hi
      have hno : okB1 W (s, ct, u, lo, hi) = false → Hid (okBs W l = false) := fun e => by
        show _ = _
        unfold okBs
        rw [hI.out, HX.out.2]
        simp [seqB, e]
      have r1 := Blk.new wr 31 [.int .i64 s, .int .i64 ct, .int .i64 u, .int .i64 lo, .int .i64 hi]
      have gA := g_trans hg (g_alloc wr (.cells [.int .i64 s, .int .i64 ct, .int .i64 u, .int .i64 lo, .int .i64 hi].toArray 31) none)
      simp only [List.toArray] at r1 gA
      have d0 : ∀ x : GW (wr.alloc (.cells #[.int .i64 s, .int .i64 ct, .int .i64 u, .int .i64 lo, .int .i64 hi] 31)), x.1.cell? ⟨wr.heap.size, 0, none⟩ = some (.int .i64 s) := fun x => by rw [(r1.keptN x.2).cell]; rfl
      have d1 : ∀ x : GW (wr.alloc (.cells #[.int .i64 s, .int .i64 ct, .int .i64 u, .int .i64 lo, .int .i64 hi] 31)), x.1.cell? ⟨wr.heap.size, 1, none⟩ = some (.int .i64 ct) := fun x => by rw [(r1.keptN x.2).cell]; rfl
      have d2 : ∀ x : GW (wr.alloc (.cells #[.int .i64 s, .int .i64 ct, .int .i64 u, .int .i64 lo, .int .i64 hi] 31)), x.1.cell? ⟨wr.heap.size, 2, none⟩ = some (.int .i64 u) := fun x => by rw [(r1.keptN x.2).cell]; rfl
      have d3 : ∀ x : GW (wr.alloc (.cells #[.int .i64 s, .int .i64 ct, .int .i64 u, .int .i64 lo, .int .i64 hi] 31)), x.1.cell? ⟨wr.heap.size, 3, none⟩ = some (.int .i64 lo) := fun x => by rw [(r1.keptN x.2).cell]; rfl
      have d4 : ∀ x : GW (wr.alloc (.cells #[.int .i64 s, .int .i64 ct, .int .i64 u, .int .i64 lo, .int .i64 hi] 31)), x.1.cell? ⟨wr.heap.size, 4, none⟩ = some (.int .i64 hi) := fun x => by rw [(r1.keptN x.2).cell]; rfl
      have hprev : ∀ j, k = j + 1 → ∃ sp, prevB l (j + 1) = some sp ∧ ∀ x : GW (wr.alloc (.cells #[.int .i64 s, .int .i64 ct, .int .i64 u, .int .i64 lo, .int .i64 hi] 31)), x.1.cell? ⟨b1, o1 + j * 5, none⟩ = some (.int .i64 sp) := fun j hj => by
        obtain ⟨sp, h1, h2⟩ := HP.out j hj
        exact ⟨sp, h1, fun x => (g_trans (g_alloc _ _ _) x.2).cell h2 (by simp)⟩
      refine wp_region_gw (W := wr.alloc (.cells #[.int .i64 s, .int .i64 ct, .int .i64 u, .int .i64 lo, .int .i64 hi] 31)) (by kernel_rfl) (by kernel_rfl) (g_refl _ _) ?_
      rcases hs with ⟨c0, e⟩ | ⟨c0, c1, e⟩ | ⟨c0, c1, c2, e⟩ | ⟨c0, c1, c2, c3, e⟩ | ⟨c0, c1, c2, c3, c4, e⟩ | ⟨c0, c1, c2, c3, c4, c5, e⟩ | ⟨c0, c1, c2, c3, c4, c5, e⟩
      · have i0 := rng_no c0
        have HN := hno e
        clear hno
        repeat (quiet_step ((go_at_call 24; exact gw_same (inRange_bB _ _ _ _ _ (by assumption)))))
        refine wpQuiet_nil ?_
        rintro _ ⟨⟨w2, hg2⟩, rfl⟩
        go_wp2
        go_ret
        exact ⟨ret_b HN.out.symm, g_trans gA hg2⟩
      · have i0 := rng_yes c0
        have r8 : (W == 0) = false := by simpa using hW0
        have r9 : s.tmod W = s % W := Int.tmod_eq_emod_of_nonneg c0.1
        have r2 : (s.tmod W != 0) = true := by rw [r9, bne_iff_ne]; exact c1
        clear r9
        clear c1
        have HN := hno e
        clear hno
        repeat (quiet_step ((go_at_call 24; exact gw_same (inRange_bB _ _ _ _ _ (by assumption)))))
        refine wpQuiet_nil ?_
        rintro _ ⟨⟨w2, hg2⟩, rfl⟩
        go_wp2
        go_ret
        exact ⟨ret_b HN.out.symm, g_trans gA hg2⟩
      · have i0 := rng_yes c0
        have i1 := rng_no c2
        have r8 : (W == 0) = false := by simpa using hW0
        have r9 : s.tmod W = s % W := Int.tmod_eq_emod_of_nonneg c0.1
        have r2 : (s.tmod W != 0) = false := by rw [r9, c1]; rfl
        clear r9
        clear c1
        have HN := hno e
        clear hno
        repeat (quiet_step ((go_at_call 24; exact gw_same (inRange_bB _ _ _ _ _ (by assumption)))))
        refine wpQuiet_nil ?_
        rintro _ ⟨⟨w2, hg2⟩, rfl⟩
        go_wp2
        go_ret
        exact ⟨ret_b HN.out.symm, g_trans gA hg2⟩
      · have i0 := rng_yes c0
        have i1 := rng_yes c2
        have i2 := rng_no c3
        have r8 : (W == 0) = false := by simpa using hW0
        have r9 : s.tmod W = s % W := Int.tmod_eq_emod_of_nonneg c0.1
        have r2 : (s.tmod W != 0) = false := by rw [r9, c1]; rfl
        clear r9
        clear c1
        have HN := hno e
        clear hno
        repeat (quiet_step ((go_at_call 24; exact gw_same (inRange_bB _ _ _ _ _ (by assumption)))))
        refine wpQuiet_nil ?_
        rintro _ ⟨⟨w2, hg2⟩, rfl⟩
        go_wp2
        go_ret
        exact ⟨ret_b HN.out.symm, g_trans gA hg2⟩
      · have i0 := rng_yes c0
        have i1 := rng_yes c2
        have i2 := rng_yes c3
        have i3 := rng_no c4
        have r8 : (W == 0) = false := by simpa using hW0
        have r9 : s.tmod W = s % W := Int.tmod_eq_emod_of_nonneg c0.1
        have r2 : (s.tmod W != 0) = false := by rw [r9, c1]; rfl
        clear r9
        clear c1
        have HN := hno e
        clear hno
        repeat (quiet_step ((go_at_call 24; exact gw_same (inRange_bB _ _ _ _ _ (by assumption)))))
        refine wpQuiet_nil ?_
        rintro _ ⟨⟨w2, hg2⟩, rfl⟩
        go_wp2
        go_ret
        exact ⟨ret_b HN.out.symm, g_trans gA hg2⟩
      · have i0 := rng_yes c0
        have i1 := rng_yes c2
        have i2 := rng_yes c3
        have i3 := rng_yes c4
        have i4 := rng_no c5
        have r8 : (W == 0) = false := by simpa using hW0
        have r9 : s.tmod W = s % W := Int.tmod_eq_emod_of_nonneg c0.1
        have r2 : (s.tmod W != 0) = false := by rw [r9, c1]; rfl
        clear r9
        clear c1
        have m1 := mul_bd (a := lo) (c := ct) (by omega) (by omega) (by omega) (by omega)
        have m2 := mul_bd (a := hi) (c := ct) (by omega) (by omega) (by omega) (by omega)
        have r3 := i64_inB (lo * ct) (by omega)
        have r4 := i64_inB (hi * ct) (by omega)
        have HN := hno e
        clear hno
        repeat (quiet_step ((go_at_call 24; exact gw_same (inRange_bB _ _ _ _ _ (by assumption)))))
        refine wpQuiet_nil ?_
        rintro _ ⟨⟨w2, hg2⟩, rfl⟩
        go_wp2
        go_ret
        exact ⟨ret_b HN.out.symm, g_trans gA hg2⟩
      · have i0 := rng_yes c0
        have i1 := rng_yes c2
        have i2 := rng_yes c3
        have i3 := rng_yes c4
        have i4 := rng_yes c5
        have r8 : (W == 0) = false := by simpa using hW0
        have r9 : s.tmod W = s % W := Int.tmod_eq_emod_of_nonneg c0.1
        have r2 : (s.tmod W != 0) = false := by rw [r9, c1]; rfl
        clear r9
        clear c1
        have m1 := mul_bd (a := lo) (c := ct) (by omega) (by omega) (by omega) (by omega)
        have m2 := mul_bd (a := hi) (c := ct) (by omega) (by omega) (by omega) (by omega)
        have r3 := i64_inB (lo * ct) (by omega)
        have r4 := i64_inB (hi * ct) (by omega)
        clear hno
        by_cases k0 : k = 0
        · subst k0
          have HY : Hid (seqB W none l = seqB W (prevB l 1) (l.drop 1)) := by
            show _ = _
            rw [hI.out, HX.out.2]
            simp [seqB, e, prevB, HX.out.1]
          clear hI HX
          repeat (quiet_step ((go_at_call 24; exact gw_same (inRange_bB _ _ _ _ _ (by assumption)))))
          refine wpQuiet_nil ?_
          rintro _ ⟨⟨w2, hg2⟩, rfl⟩
          go_wp2
          go_roundw
          case rel => exact ⟨1, by omega, by go_num, g_trans gA hg2, HY⟩
          case measure => simp [intOf]; omega
        · obtain ⟨j, hj⟩ : ∃ j, k = j + 1 := ⟨k - 1, by omega⟩
          obtain ⟨sp, hsp, hcp⟩ := hprev j hj
          have hj0 : decide (0 < k) = true := by simp; omega
          have hj1 : IntKind.i64.wrap ((k : Int) - 1) = (j : Int) := by rw [show ((k : Int) - 1) = (j : Int) by omega]; exact i64_inB _ (by omega)
          have hj2 : (j : Int) < (n : Int) := by omega
          have hpk : prevB l k = some sp := by rw [hj]; exact hsp
          have HJ := Lib.hid hj
          have hnext : prevB l (k + 1) = some s := by simp [prevB, HX.out.1]
          clear hprev hj k0
          by_cases hord : sp < s
          · have hd : decide (s ≤ sp) = false := by simp; omega
            have HY : Hid (seqB W none l = seqB W (prevB l (k + 1)) (l.drop (k + 1))) := by
              show _ = _
              rw [hI.out, HX.out.2, hpk, hnext]
              simp [seqB, e, hord]
            clear hI HX hsp hpk hnext
            repeat (quiet_step ((go_at_call 24; exact gw_same (inRange_bB _ _ _ _ _ (by assumption)))))
            refine wpQuiet_nil ?_
            rintro _ ⟨⟨w2, hg2⟩, rfl⟩
            go_wp2
            go_roundw
            case rel => exact ⟨k + 1, by omega, by go_num, g_trans gA hg2, HY⟩
            case measure => simp [intOf]; omega
          · have hd : decide (s ≤ sp) = true := by simp; omega
            have HN : Hid (okBs W l = false) := by
              show _ = _
              unfold okBs
              rw [hI.out, HX.out.2, hpk]
              simp [seqB, e, hord]
            clear hI HX hsp hpk hnext
            repeat (quiet_step ((go_at_call 24; exact gw_same (inRange_bB _ _ _ _ _ (by assumption)))))
            refine wpQuiet_nil ?_
            rintro _ ⟨⟨w2, hg2⟩, rfl⟩
            go_wp2
            go_ret
            exact ⟨ret_b HN.out.symm, g_trans gA hg2⟩
    · have hge : ¬ (k : Int) < (n : Int) := by omega
      have HH : Hid (okBs W l = decide ((n : Int) ≤ 16)) := by
        show _ = _
        unfold okBs
        rw [hI.out, List.drop_eq_nil_of_le (by have := HL.out; omega), HL.out]
        simp only [seqB, Bool.true_and]
        by_cases h16 : n ≤ 16
        · have h17 : (n : Int) ≤ 16 := by omega
          simp [h16, h17]
        · have h17 : ¬ (n : Int) ≤ 16 := by omega
          simp [h16, h17]
      clear hI
      go_wp2
      go_ret
      exact ⟨ret_b HH.out.symm, hg⟩
end Go.Proofs.Ytoncefhcabgaaaa
