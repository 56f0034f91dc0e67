/- Contracts of MergeBuckets, of the program and of the reference. -/
import Derived.Test.YtoncefhcabgaaaaProg
import Derived.Test.YtoncefhcabgaaaaMrg
namespace Go.Proofs.Ytoncefhcabgaaaa
set_option linter.unusedVariables false
open Go.RowKit
attribute [local irreducible] wpQuiet
attribute [local go_sem ↓] Go.wp_at_zero Go.wp_at_succ

theorem validBSS_at2 (A : Option Addr) (n c : Nat) (l : List Bk) (W : Int) (b : Bool) (w : World) (h : Rd w 5 A n c (bkc l)) (hW : 1 ≤ W) (hW2 : W ≤ 100) (hb : okBs W l = b) :
    Calls Try.prog 30 #[.slice A n c, .int .i64 W] w fun e w' => e = .returned (.bool b) ∧ w.grownBy w' none := by
  subst hb
  exact validBucketsS_any A n c l W w h hW hW2
set_option maxHeartbeats 6400000 in
theorem mergeS_loop (A B : Option Addr) (na ca nb cb : Nat) (a b : List Bk) (W : Int) (w : World) (h1 : Rd w 5 A na ca (bkc a)) (h2 : Rd w 5 B nb cb (bkc b)) (ha : okW W a = true) (hb : okW W b = true) :
    Calls Try.prog 15 #[.slice A na ca, .slice B nb cb, .int .i64 W] w (Coarsed (if okW W (grp (mrgL a b)) then (grp (mrgL a b), true) else ([], false)) w) := by
  have la : a.length = na := by have := h1.len; rw [bkc_len] at this; omega
  have lb : b.length = nb := by have := h2.len; rw [bkc_len] at this; omega
  obtain ⟨⟨hW1, hW2⟩, oa⟩ := okW_iff.1 ha
  obtain ⟨-, ob⟩ := okW_iff.1 hb
  obtain ⟨a1, a2, a3⟩ := okBs_iff.1 oa
  obtain ⟨b1, b2, b3⟩ := okBs_iff.1 ob
  have hna : na ≤ 16 := by omega
  have hnb : nb ≤ 16 := by omega
  have HQ := Lib.hid (And.intro h1 (And.intro h2 (And.intro ha hb)))
  have HL := Lib.hid (And.intro la lb)
  have HA := Lib.hid (And.intro a3 b3)
  have HS := Lib.hid (And.intro (okS_of oa) (okS_of ob))
  obtain ⟨R, hR⟩ : ∃ R, (if okW W (grp (mrgL a b)) then (grp (mrgL a b), true) else ([], false)) = R := ⟨_, rfl⟩
  rw [hR]
  have HR := Lib.hid hR
  clear h1 h2 ha hb la lb oa ob a1 a2 a3 b1 b2 b3 hR
  go_enter Try.func15, Try.ntmps15
  go_wp2_with fail
  refine (validBS_at A na ca a W _ _ (HQ.out.1.keptN (g_alloc _ _ _)) HQ.out.2.2.1).mono ?_
  rintro e w1 ⟨rfl, g1⟩
  go_wp2_with fail
  refine (validBS_at B nb cb b W _ _ (HQ.out.2.1.keptN (g_trans (g_alloc _ _ _) g1)) HQ.out.2.2.2).mono ?_
  rintro e w2 ⟨rfl, g2⟩
  have G2 := g_trans (g_alloc w (.cells #[] 31) none) (g_trans g1 g2)
  have O2 := own_keptN (own_keptN (lit_own w w.heap.size 31 5 [] 0 (Nat.le_refl _) (by omega) rfl) g1) g2
  clear g1 g2
  go_wp2
  go_loopw [8, 9, 10] (fun s8 s9 s10 wr => ∃ (i j : Nat) (acc : List Bk) (A' : Option Addr) (c' : Nat), i ≤ na ∧ j ≤ nb ∧ s9 = .int .i64 i ∧ s10 = .int .i64 j ∧ s8 = .slice A' acc.length c' ∧ Hid (MInv a b i j acc) ∧ wr.ownsRow w.heap.size 31 5 (.slice A' acc.length c') acc.length (bkc acc) ∧ w.grownBy wr none) (fun _ s9 s10 _ => (na - (intOf s9).toNat) + (nb - (intOf s10).toNat))
  case atStart => exact ⟨0, 0, [], _, 0, Nat.zero_le _, Nat.zero_le _, rfl, rfl, rfl, minv_start a b, O2, G2⟩
  case round =>
    obtain ⟨i, j, acc, A', c', hi, hj, rfl, rfl, rfl, hI, hown, hg⟩ := hrel
    have hsz := hg.size
    clear O2 G2
    have hSm := minv_sm hI.out HS.out.1 HS.out.2 (by have := HL.out.1; omega) (by have := HL.out.2; omega)
    have hal : acc.length ≤ 1000 := by have := hSm.2; omega
    have HSm := Lib.hid hSm.1
    clear hSm
    -- which one is next
    rcases Nat.lt_or_ge i na with hia | hia
    · obtain ⟨⟨s, ct, u, lo, hi'⟩, hx, -⟩ := get_ex (l := a) (i := i) (by have := HL.out.1; omega)
      obtain ⟨ba, oa, rfl, hc⟩ := (HQ.out.1.keptN hg).cells hia
      obtain ⟨x0, x1, x2, x3, x4⟩ := bkc_at hx
      have c0 := hc _ _ x0
      have c1 := hc _ _ x1
      have c2 := hc _ _ x2
      have c3 := hc _ _ x3
      have c4 := hc _ _ x4
      simp only [Nat.add_zero, ← Nat.add_assoc] at c0 c1 c2 c3 c4
      have hia' : (i : Int) < (na : Int) := by omega
      have hia2 : decide ((i : Int) < (na : Int)) = true := by simpa using hia
      have hia3 : decide (i < na) = true := by simpa using hia
      have hsx := sm_okS (s' := s) (HS.out.1 _ (List.mem_of_getElem? hx))
      clear hc x0 x1 x2 x3 x4
      rcases Nat.lt_or_ge j nb with hjb | hjb
      · obtain ⟨⟨s2, ct2, u2, lo2, hi2⟩, hy, -⟩ := get_ex (l := b) (i := j) (by have := HL.out.2; omega)
        obtain ⟨bb, obb, rfl, hc⟩ := (HQ.out.2.1.keptN hg).cells hjb
        obtain ⟨x0, x1, x2, x3, x4⟩ := bkc_at hy
        have k0 := hc _ _ x0
        have k1 := hc _ _ x1
        have k2 := hc _ _ x2
        have k3 := hc _ _ x3
        have k4 := hc _ _ x4
        simp only [Nat.add_zero, ← Nat.add_assoc] at k0 k1 k2 k3 k4
        have hjb' : (j : Int) < (nb : Int) := by omega
        have hjb2 : ((j : Int) == (nb : Int)) = false := by simp; omega
        have hsy := sm_okS (s' := s2) (HS.out.2 _ (List.mem_of_getElem? hy))
        clear hc x0 x1 x2 x3 x4
        by_cases hle : s ≤ s2
        · have hd : decide (s ≤ s2) = true := by simpa using hle
          have HI := Lib.hid (minv_a hI.out hx (fun y hy' => by rw [hy] at hy'; injection hy' with hy'; rw [← hy']; exact hle))
          clear hx hy hI hle
          go_wp2_with fail
          have d0 := gw_cellW c0
          have e0 := gw_cellW k0
          refine wp_region_gw (W := wr) (by kernel_rfl) (by kernel_rfl) (g_refl _ _) ?_
          repeat (quiet_step (fail))
          refine wpQuiet_nil ?_
          rintro w5 ⟨⟨_, hg5⟩, rfl⟩
          have q0 := hg5.cell c0 (by simp)
          have q1 := hg5.cell c1 (by simp)
          have q2 := hg5.cell c2 (by simp)
          have q3 := hg5.cell c3 (by simp)
          have q4 := hg5.cell c4 (by simp)
          have hg6 := g_trans hg hg5
          have hO := Lib.hid (Rd.own (own_keptN hown hg5))
          have hs5 : w.heap.size ≤ w5.heap.size := hg6.size
          clear hown hg hg5 c0 c1 c2 c3 c4 k0 k1 k2 k3 k4 d0 e0
          go_wp2_with fail
          refine (addS_any acc A' c' s ct u lo hi' _ hO.out hal HSm.out hsx).mono ?_
          rintro e w6 ⟨A6, c6, rfl, o6, g6⟩
          have HO := Lib.hid (And.intro (own_le (base' := w.heap.size) o6 hs5) (g_trans hg6 g6))
          clear o6 g6 hg6 q0 q1 q2 q3 q4
          go_wp2
          go_roundw
          case rel => exact ⟨i + 1, j, addL acc (s, ct, u, lo, hi'), A6, c6, by omega, by omega, by go_num, by go_num, rfl, HI, HO.out.1, HO.out.2⟩
          case measure => simp [intOf]; omega
        · have hd : decide (s ≤ s2) = false := by simpa using hle
          have HI := Lib.hid (minv_b hI.out HA.out.1 hy (fun x hx' => by rw [hx] at hx'; injection hx' with hx'; rw [← hx']; show s2 < s; omega))
          clear hx hy hI hle
          go_wp2_with fail
          have d0 := gw_cellW c0
          have e0 := gw_cellW k0
          refine wp_region_gw (W := wr) (by kernel_rfl) (by kernel_rfl) (g_refl _ _) ?_
          repeat (quiet_step (fail))
          refine wpQuiet_nil ?_
          rintro w5 ⟨⟨_, hg5⟩, rfl⟩
          have q0 := hg5.cell k0 (by simp)
          have q1 := hg5.cell k1 (by simp)
          have q2 := hg5.cell k2 (by simp)
          have q3 := hg5.cell k3 (by simp)
          have q4 := hg5.cell k4 (by simp)
          have hg6 := g_trans hg hg5
          have hO := Lib.hid (Rd.own (own_keptN hown hg5))
          have hs5 : w.heap.size ≤ w5.heap.size := hg6.size
          clear hown hg hg5 c0 c1 c2 c3 c4 k0 k1 k2 k3 k4 d0 e0
          go_wp2_with fail
          refine (addS_any acc A' c' s2 ct2 u2 lo2 hi2 _ hO.out hal HSm.out hsy).mono ?_
          rintro e w6 ⟨A6, c6, rfl, o6, g6⟩
          have HO := Lib.hid (And.intro (own_le (base' := w.heap.size) o6 hs5) (g_trans hg6 g6))
          clear o6 g6 hg6 q0 q1 q2 q3 q4
          go_wp2
          go_roundw
          case rel => exact ⟨i, j + 1, addL acc (s2, ct2, u2, lo2, hi2), A6, c6, by omega, by omega, by go_num, by go_num, rfl, HI, HO.out.1, HO.out.2⟩
          case measure => simp [intOf]; omega
      · have hjn : j = nb := by omega
        have hjb2 : ((j : Int) == (nb : Int)) = true := by simp; omega
        have HI := Lib.hid (minv_a hI.out hx (fun y hy' => by have h1 := (List.getElem?_eq_some_iff.1 hy').1; have h2 := HL.out.2; omega))
        clear hx hI hjn
        go_wp2_with fail
        have d0 := gw_cellW c0
        refine wp_region_gw (W := wr) (by kernel_rfl) (by kernel_rfl) (g_refl _ _) ?_
        repeat (quiet_step (fail))
        refine wpQuiet_nil ?_
        rintro w5 ⟨⟨_, hg5⟩, rfl⟩
        have q0 := hg5.cell c0 (by simp)
        have q1 := hg5.cell c1 (by simp)
        have q2 := hg5.cell c2 (by simp)
        have q3 := hg5.cell c3 (by simp)
        have q4 := hg5.cell c4 (by simp)
        have hg6 := g_trans hg hg5
        have hO := Lib.hid (Rd.own (own_keptN hown hg5))
        have hs5 : w.heap.size ≤ w5.heap.size := hg6.size
        clear hown hg hg5 c0 c1 c2 c3 c4 d0
        go_wp2_with fail
        refine (addS_any acc A' c' s ct u lo hi' _ hO.out hal HSm.out hsx).mono ?_
        rintro e w6 ⟨A6, c6, rfl, o6, g6⟩
        have HO := Lib.hid (And.intro (own_le (base' := w.heap.size) o6 hs5) (g_trans hg6 g6))
        clear o6 g6 hg6 q0 q1 q2 q3 q4
        go_wp2
        go_roundw
        case rel => exact ⟨i + 1, j, addL acc (s, ct, u, lo, hi'), A6, c6, by omega, by omega, by go_num, by go_num, rfl, HI, HO.out.1, HO.out.2⟩
        case measure => simp [intOf]; omega
    · have hin : i = na := by omega
      have hia' : ¬ (i : Int) < (na : Int) := by omega
      have hia2 : decide ((i : Int) < (na : Int)) = false := by simp; omega
      have hia3 : decide (i < na) = false := by simp; omega
      rcases Nat.lt_or_ge j nb with hjb | hjb
      · obtain ⟨⟨s2, ct2, u2, lo2, hi2⟩, hy, -⟩ := get_ex (l := b) (i := j) (by have := HL.out.2; omega)
        obtain ⟨bb, obb, rfl, hc⟩ := (HQ.out.2.1.keptN hg).cells hjb
        obtain ⟨x0, x1, x2, x3, x4⟩ := bkc_at hy
        have k0 := hc _ _ x0
        have k1 := hc _ _ x1
        have k2 := hc _ _ x2
        have k3 := hc _ _ x3
        have k4 := hc _ _ x4
        simp only [Nat.add_zero, ← Nat.add_assoc] at k0 k1 k2 k3 k4
        have hjb' : (j : Int) < (nb : Int) := by omega
        have hjb2 : ((j : Int) == (nb : Int)) = false := by simp; omega
        have hsy := sm_okS (s' := s2) (HS.out.2 _ (List.mem_of_getElem? hy))
        clear hc x0 x1 x2 x3 x4
        have hjb3 : decide ((j : Int) < (nb : Int)) = true := by simpa using hjb
        have hjb4 : decide (j < nb) = true := by simpa using hjb
        have HI := Lib.hid (minv_b hI.out HA.out.1 hy (fun x hx' => by have h1 := (List.getElem?_eq_some_iff.1 hx').1; have h2 := HL.out.1; omega))
        clear hy hI hin
        go_wp2_with fail
        have e0 := gw_cellW k0
        refine wp_region_gw (W := wr) (by kernel_rfl) (by kernel_rfl) (g_refl _ _) ?_
        repeat (quiet_step (fail))
        refine wpQuiet_nil ?_
        rintro w5 ⟨⟨_, hg5⟩, rfl⟩
        have q0 := hg5.cell k0 (by simp)
        have q1 := hg5.cell k1 (by simp)
        have q2 := hg5.cell k2 (by simp)
        have q3 := hg5.cell k3 (by simp)
        have q4 := hg5.cell k4 (by simp)
        have hg6 := g_trans hg hg5
        have hO := Lib.hid (Rd.own (own_keptN hown hg5))
        have hs5 : w.heap.size ≤ w5.heap.size := hg6.size
        clear hown hg hg5 k0 k1 k2 k3 k4 e0
        go_wp2_with fail
        refine (addS_any acc A' c' s2 ct2 u2 lo2 hi2 _ hO.out hal HSm.out hsy).mono ?_
        rintro e w6 ⟨A6, c6, rfl, o6, g6⟩
        have HO := Lib.hid (And.intro (own_le (base' := w.heap.size) o6 hs5) (g_trans hg6 g6))
        clear o6 g6 hg6 q0 q1 q2 q3 q4
        go_wp2
        go_roundw
        case rel => exact ⟨i, j + 1, addL acc (s2, ct2, u2, lo2, hi2), A6, c6, by omega, by omega, by go_num, by go_num, rfl, HI, HO.out.1, HO.out.2⟩
        case measure => simp [intOf]; omega
      · have hjn : j = nb := by omega
        have hjb3 : decide ((j : Int) < (nb : Int)) = false := by simp; omega
        have hjb4 : decide (j < nb) = false := by simp; omega
        have hE : acc = grp (mrgL a b) := minv_done (by have h1 := HL.out.1; have h2 := HL.out.2; rw [h1, h2, ← hin, ← hjn]; exact hI.out) HA.out.1 HA.out.2
        obtain ⟨q, hq⟩ : ∃ q, okW W acc = q := ⟨_, rfl⟩
        have hq2 : okBs W acc = q := by rw [← hq]; unfold okW; simp; omega
        have HE := Lib.hid (And.intro hE (And.intro hq hq2))
        clear hE hI hq hq2 hin hjn
        go_wp2_with fail
        refine (validBSS_at2 _ _ _ acc W q _ (Rd.own hown) hW1 hW2 HE.out.2.2).mono ?_
        rintro e w4 ⟨rfl, g4⟩
        have hown4 := own_keptN hown g4
        have hg4 := g_trans hg g4
        clear g4 hg hown
        cases q with
        | false =>
          go_wp2
          go_ret2
          have hR : R = ([], false) := by rw [← HR.out, ← HE.out.1, HE.out.2.1]; rfl
          rw [hR]
          exact ⟨none, 0, rfl, World.ownsRow_nil _ _ _ _, hg4⟩
        | true =>
          go_wp2
          go_ret2
          have hR : R = (acc, true) := by rw [← HR.out, ← HE.out.1, HE.out.2.1]; rfl
          rw [hR]
          exact ⟨A', c', rfl, hown4, hg4⟩
theorem mergeS_any (A B : Option Addr) (na ca nb cb : Nat) (a b : List Bk) (W : Int) (w : World) (h1 : Rd w 5 A na ca (bkc a)) (h2 : Rd w 5 B nb cb (bkc b)) :
    Calls Try.prog 15 #[.slice A na ca, .slice B nb cb, .int .i64 W] w (Coarsed (mrgV W a b) w) := by
  obtain ⟨p, hp⟩ : ∃ p, okW W a = p := ⟨_, rfl⟩
  obtain ⟨q, hq⟩ : ∃ q, okW W b = q := ⟨_, rfl⟩
  have HP := Lib.hid (And.intro h1 (And.intro h2 (And.intro hp hq)))
  cases p with
  | false =>
    have E := Lib.hid (mrgV_no (W := W) (a := a) (b := b) (by rw [hp]; rfl))
    rw [E.out]
    clear h1 h2 hp hq
    go_enter Try.func15, Try.ntmps15
    go_wp2_with fail
    refine (validBS_at A na ca a W _ _ (HP.out.1.keptN (g_alloc _ _ _)) HP.out.2.2.1).mono ?_
    rintro e w1 ⟨rfl, g1⟩
    have G := g_trans (g_alloc w (.cells #[] 31) none) g1
    clear g1
    go_wp2
    go_ret2
    exact ⟨none, 0, rfl, World.ownsRow_nil _ _ _ _, G⟩
  | true =>
    cases q with
    | false =>
      have E := Lib.hid (mrgV_no (W := W) (a := a) (b := b) (by rw [hq]; simp))
      rw [E.out]
      clear h1 h2 hp hq
      go_enter Try.func15, Try.ntmps15
      go_wp2_with fail
      refine (validBS_at A na ca a W _ _ (HP.out.1.keptN (g_alloc _ _ _)) HP.out.2.2.1).mono ?_
      rintro e w1 ⟨rfl, g1⟩
      go_wp2_with fail
      refine (validBS_at B nb cb b W _ _ (HP.out.2.1.keptN (g_trans (g_alloc _ _ _) g1)) HP.out.2.2.2).mono ?_
      rintro e w2 ⟨rfl, g2⟩
      have G := g_trans (g_alloc w (.cells #[] 31) none) (g_trans g1 g2)
      clear g1 g2
      go_wp2
      go_ret2
      exact ⟨none, 0, rfl, World.ownsRow_nil _ _ _ _, G⟩
    | true =>
      rw [mrgV_yes (by rw [hp, hq]; rfl)]
      exact mergeS_loop A B na ca nb cb a b W w h1 h2 hp hq
end Go.Proofs.Ytoncefhcabgaaaa
