/- Contract of the program's MergeBuckets. -/
import Derived.Test.YtoncefhcabgaaaaProg
import Derived.Test.YtoncefhcabgaaaaMrg
namespace Go.Proofs.Ytoncefhcabgaaaa
set_option linter.unusedVariables false
open Go.RowKit
attribute [local irreducible] wpQuiet
attribute [local go_sem ↓] Go.wp_at_zero Go.wp_at_succ

set_option maxHeartbeats 6400000 in
theorem mergeI_loop (A B : Option Addr) (na ca nb cb : Nat) (a b : List Bk) (W : Int) (w : World) (h1 : Rd w 5 A na ca (bkc a)) (h2 : Rd w 5 B nb cb (bkc b)) (ha : okW W a = true) (hb : okW W b = true) :
    Calls Try.prog 14 #[.slice A na ca, .slice B nb cb, .int .i64 W] w (Coarsed (if okW W (grp (mrgL a b)) then (grp (mrgL a b), true) else ([], false)) w) := by
  have la : a.length = na := by have := h1.len; rw [bkc_len] at this; omega
  have lb : b.length = nb := by have := h2.len; rw [bkc_len] at this; omega
  obtain ⟨⟨hW1, hW2⟩, oa⟩ := okW_iff.1 ha
  obtain ⟨-, ob⟩ := okW_iff.1 hb
  obtain ⟨a1, a2, a3⟩ := okBs_iff.1 oa
  obtain ⟨b1, b2, b3⟩ := okBs_iff.1 ob
  have hna : na ≤ 16 := by omega
  have hnb : nb ≤ 16 := by omega
  have hcap := h1.cap
  have hlim := h1.lim
  have HQ := Lib.hid (And.intro h1 (And.intro h2 (And.intro ha hb)))
  have HL := Lib.hid (And.intro la lb)
  have HA := Lib.hid (And.intro a3 b3)
  have HS := Lib.hid (And.intro (okS_of oa) (okS_of ob))
  obtain ⟨R, hR⟩ : ∃ R, (if okW W (grp (mrgL a b)) then (grp (mrgL a b), true) else ([], false)) = R := ⟨_, rfl⟩
  rw [hR]
  have HR := Lib.hid hR
  clear h1 h2 ha hb la lb oa ob a1 a2 a3 b1 b2 b3 hR
  go_enter Try.func14, Try.ntmps14
  go_wp2_with fail
  refine (validBI_at A na ca a W _ _ HQ.out.1 HQ.out.2.2.1).mono ?_
  rintro e w1 ⟨rfl, g1⟩
  go_wp2_with fail
  refine (validBI_at B nb cb b W _ _ (HQ.out.2.1.keptN g1) HQ.out.2.2.2).mono ?_
  rintro e w2 ⟨rfl, g2⟩
  have G2 := g_trans g1 g2
  clear g1 g2
  go_wp2
  go_loopw [8, 9, 24] (fun s8 s9 s24 wr => ∃ (i j : Nat) (acc : List Bk) (A' : Option Addr) (c' : Nat), i ≤ na ∧ j ≤ nb ∧ s9 = .int .i64 i ∧ s24 = .int .i64 j ∧ s8 = .slice A' acc.length c' ∧ Hid (MInv a b i j acc) ∧ wr.ownsRow w.heap.size 31 5 (.slice A' acc.length c') acc.length (bkc acc) ∧ w.grownBy wr none) (fun _ _ s24 _ => nb - (intOf s24).toNat)
  case atStart => exact ⟨0, 0, [], none, 0, Nat.zero_le _, Nat.zero_le _, rfl, rfl, rfl, minv_start a b, World.ownsRow_nil _ _ _ _, G2⟩
  case round =>
    obtain ⟨i, j, acc, A', c', hi, hj, rfl, rfl, rfl, hI, hown, hg⟩ := hrel
    have hsz := hg.size
    clear G2
    obtain ⟨wo, rfl⟩ : ∃ wo : World, wo = wr := ⟨_, rfl⟩
    rcases Nat.lt_or_ge j nb with hjb | hjb
    · obtain ⟨⟨s2, ct2, u2, lo2, hi2⟩, hy, -⟩ := get_ex (l := b) (i := j) (by have := HL.out.2; omega)
      obtain ⟨bb, obb, rfl, hc⟩ := (HQ.out.2.1.keptN hg).cells hjb
      obtain ⟨x0, x1, x2, x3, x4⟩ := bkc_at hy
      have k0 := hc _ _ x0
      have k1 := hc _ _ x1
      have k2 := hc _ _ x2
      have k3 := hc _ _ x3
      have k4 := hc _ _ x4
      simp only [Nat.add_zero, ← Nat.add_assoc] at k0 k1 k2 k3 k4
      have hjb' : (j : Int) < (nb : Int) := by omega
      have hsy := sm_okS (s' := s2) (HS.out.2 _ (List.mem_of_getElem? hy))
      have HY := Lib.hid hy
      clear hc x0 x1 x2 x3 x4 hy
      have hBlk := Blk.new wo 31 [.int .i64 s2, .int .i64 ct2, .int .i64 u2, .int .i64 lo2, .int .i64 hi2]
      simp only [List.toArray] at hBlk
      have gA := g_alloc wo (.cells #[.int .i64 s2, .int .i64 ct2, .int .i64 u2, .int .i64 lo2, .int .i64 hi2] 31) none
      have hown2 := own_keptN hown gA
      have hg2 := g_trans hg gA
      have hne2 : ∀ k, (Value.slice A' acc.length c').ownBlock = some k → k ≠ wo.heap.size := fun k e => by have := (hown.lt k e).2; omega
      clear gA
      go_wp2
      go_loopw [8, 9] (fun s8 s9 wr => ∃ (i : Nat) (acc : List Bk) (A' : Option Addr) (c' : Nat), i ≤ na ∧ s9 = .int .i64 i ∧ s8 = .slice A' acc.length c' ∧ Hid (MInv a b i j acc) ∧ wr.ownsRow w.heap.size 31 5 (.slice A' acc.length c') acc.length (bkc acc) ∧ w.grownBy wr none ∧ Hid (Blk wr wo.heap.size 31 [.int .i64 s2, .int .i64 ct2, .int .i64 u2, .int .i64 lo2, .int .i64 hi2]) ∧ Hid (∀ k, (Value.slice A' acc.length c').ownBlock = some k → k ≠ wo.heap.size)) (fun _ s9 _ => na - (intOf s9).toNat)
      case atStart => exact ⟨i, acc, A', c', hi, rfl, rfl, hI, hown2, hg2, hBlk, hne2⟩
      case round =>
        clear hI hown hg hown2 hg2 hBlk hne2 hi k0 k1 k2 k3 k4 hsz
        obtain ⟨i, acc, A', c', hi, rfl, rfl, hI, hown, hg, hBlk, hne⟩ := hrel
        have hsz := hg.size
        have hSm := minv_sm hI.out HS.out.1 HS.out.2 (by have := HL.out.1; omega) (by have := HL.out.2; omega)
        have hal : acc.length ≤ 1000 := by have := hSm.2; omega
        have HSm := Lib.hid hSm.1
        clear hSm
        have r1 := hBlk.out
        have m0 := r1.cell 0
        simp at m0
        have e0 := gw_cellW m0
        have hBlt := r1.lt
        rcases Nat.lt_or_ge i na with hia | hia
        · obtain ⟨⟨s, ct, u, lo, hi'⟩, hx, -⟩ := get_ex (l := a) (i := i) (by have := HL.out.1; omega)
          obtain ⟨ba, oa, e9, hc⟩ := (HQ.out.1.keptN hg).cells hia
          subst e9
          obtain ⟨x0, x1, x2, x3, x4⟩ := bkc_at hx
          have c0 := hc _ _ x0
          have c1 := hc _ _ x1
          have c2 := hc _ _ x2
          have c3 := hc _ _ x3
          have c4 := hc _ _ x4
          simp only [Nat.add_zero, ← Nat.add_assoc] at c0 c1 c2 c3 c4
          have hia' : (i : Int) < (na : Int) := by omega
          have hia2 : decide ((i : Int) < (na : Int)) = true := by simpa using hia
          have hia3 : decide (i < na) = true := by simpa using hia
          have hsx := sm_okS (s' := s) (HS.out.1 _ (List.mem_of_getElem? hx))
          have d0 := gw_cellW c0
          clear hc x0 x1 x2 x3 x4
          by_cases hle : s ≤ s2
          · have hd : decide (s ≤ s2) = true := by simpa using hle
            have HI := Lib.hid (minv_a hI.out hx (fun y hy' => by rw [HY.out] at hy'; injection hy' with hy'; rw [← hy']; exact hle))
            clear hx hI hle
            go_wp2_with fail
            refine wp_region_gw (W := wr) (by kernel_rfl) (by kernel_rfl) (g_refl _ _) ?_
            repeat (quiet_step (fail))
            refine wpQuiet_nil ?_
            rintro w5 ⟨⟨_, hg5'⟩, rfl⟩
            have q0 := hg5'.cell c0 (by simp)
            have q1 := hg5'.cell c1 (by simp)
            have q2 := hg5'.cell c2 (by simp)
            have q3 := hg5'.cell c3 (by simp)
            have q4 := hg5'.cell c4 (by simp)
            have hown5 := own_keptN hown hg5'
            have hg5 := g_trans hg hg5'
            have HB5 := Lib.hid (r1.keptN hg5')
            clear hown hg hg5' c0 c1 c2 c3 c4 d0 e0 m0 r1 hBlk
            go_wp2_with fail
            have hO := Lib.hid hown5
            have hs5 : w.heap.size ≤ w5.heap.size := hg5.size
            refine (addI_any w.heap.size acc A' c' s ct u lo hi' _ hO.out hs5 hal HSm.out hsx).mono ?_
            rintro e w6 ⟨A6, c6, rfl, o6, g6, f6⟩
            have HO := Lib.hid (And.intro o6 (g_new hg5 g6 (own_new hO.out)))
            have HB6 := Lib.hid (HB5.out.kept g6 (fun e => hne.out _ e rfl))
            have HN6 : Hid (∀ k, (Value.slice A6 (addL acc (s, ct, u, lo, hi')).length c6).ownBlock = some k → k ≠ wo.heap.size) := fun k e => by
              rcases f6 k e with h | h
              · exact hne.out k h
              · have := HB5.out.lt; omega
            clear o6 g6 f6 hown5 hg5 q0 q1 q2 q3 q4 hne HB5
            go_wp2
            go_roundw
            case rel => exact ⟨i + 1, addL acc (s, ct, u, lo, hi'), A6, c6, by omega, by go_num, rfl, HI, HO.out.1, HO.out.2, HB6, HN6⟩
            case measure => simp [intOf]; omega
          · have hd : decide (s ≤ s2) = false := by simpa using hle
            have HI := Lib.hid (minv_b hI.out HA.out.1 HY.out (fun x hx' => by rw [hx] at hx'; injection hx' with hx'; rw [← hx']; show s2 < s; omega))
            clear hx hI hle
            go_wp2_with fail
            refine wp_region_gw (W := wr) (by kernel_rfl) (by kernel_rfl) (g_refl _ _) ?_
            repeat (quiet_step (fail))
            refine wpQuiet_nil ?_
            rintro w5 ⟨⟨_, hg5'⟩, rfl⟩
            have HB5 := r1.keptN hg5'
            have q0 := HB5.cell 0
            have q1 := HB5.cell 1
            have q2 := HB5.cell 2
            have q3 := HB5.cell 3
            have q4 := HB5.cell 4
            simp at q0 q1 q2 q3 q4
            have hown5 := own_keptN hown hg5'
            have hg5 := g_trans hg hg5'
            clear hown hg hg5' e0 m0 r1 hBlk HB5 c0 c1 c2 c3 c4 d0
            go_wp2_with fail
            have hO := Lib.hid hown5
            have hs5 : w.heap.size ≤ w5.heap.size := hg5.size
            refine (addI_any w.heap.size acc A' c' s2 ct2 u2 lo2 hi2 _ hO.out hs5 hal HSm.out hsy).mono ?_
            rintro e w6 ⟨A6, c6, rfl, o6, g6, f6⟩
            have HO := Lib.hid (And.intro o6 (g_new hg5 g6 (own_new hO.out)))
            clear o6 g6 f6 hown5 hg5 q0 q1 q2 q3 q4 hne
            go_wp2
            go_roundw
            case rel => exact ⟨i, j + 1, addL acc (s2, ct2, u2, lo2, hi2), A6, c6, hi, by omega, rfl, by go_num, rfl, HI, HO.out.1, HO.out.2⟩
            case measure => simp [intOf]; omega
        · have hia' : ¬ (i : Int) < (na : Int) := by omega
          have hia2 : decide ((i : Int) < (na : Int)) = false := by simp; omega
          have hia3 : decide (i < na) = false := by simp; omega
          have HI := Lib.hid (minv_b hI.out HA.out.1 HY.out (fun x hx' => by have h1 := (List.getElem?_eq_some_iff.1 hx').1; have h2 := HL.out.1; omega))
          clear hI
          go_wp2_with fail
          refine wp_region_gw (W := wr) (by kernel_rfl) (by kernel_rfl) (g_refl _ _) ?_
          repeat (quiet_step (fail))
          refine wpQuiet_nil ?_
          rintro w5 ⟨⟨_, hg5'⟩, rfl⟩
          have HB5 := r1.keptN hg5'
          have q0 := HB5.cell 0
          have q1 := HB5.cell 1
          have q2 := HB5.cell 2
          have q3 := HB5.cell 3
          have q4 := HB5.cell 4
          simp at q0 q1 q2 q3 q4
          have hown5 := own_keptN hown hg5'
          have hg5 := g_trans hg hg5'
          clear hown hg hg5' e0 m0 r1 hBlk HB5
          go_wp2_with fail
          have hO := Lib.hid hown5
          have hs5 : w.heap.size ≤ w5.heap.size := hg5.size
          refine (addI_any w.heap.size acc A' c' s2 ct2 u2 lo2 hi2 _ hO.out hs5 hal HSm.out hsy).mono ?_
          rintro e w6 ⟨A6, c6, rfl, o6, g6, f6⟩
          have HO := Lib.hid (And.intro o6 (g_new hg5 g6 (own_new hO.out)))
          clear o6 g6 f6 hown5 hg5 q0 q1 q2 q3 q4 hne
          go_wp2
          go_roundw
          case rel => exact ⟨i, j + 1, addL acc (s2, ct2, u2, lo2, hi2), A6, c6, hi, by omega, rfl, by go_num, rfl, HI, HO.out.1, HO.out.2⟩
          case measure => simp [intOf]; omega
    · have hjn : j = nb := by omega
      have hjb' : ¬ (j : Int) < (nb : Int) := by omega
      have hE := minv_end (i := i) (a := a) (b := b) (acc := acc) (by have h2 := HL.out.2; rw [h2, ← hjn]; exact hI.out) HA.out.1 HA.out.2
      have hSm := minv_sm hI.out HS.out.1 HS.out.2 (by have := HL.out.1; omega) (by have := HL.out.2; omega)
      have hal : acc.length ≤ 1000 := by have := hSm.2; omega
      have hF := (HQ.out.1.keptN hg).from_ hi
      rw [bkc_drop] at hF
      have t0 : (0 : Int) ≤ (i : Int) := by omega
      have t1 : (i : Int) ≤ (na : Int) := by omega
      have t2 : (na : Int) ≤ (ca : Int) := by omega
      have t3 : (i : Int) ≤ (ca : Int) := by omega
      clear hjn hSm hI
      by_cases hc : ca = i
      · subst hc
        have hz : na - ca = 0 := by omega
        rw [if_pos rfl, hz, Nat.sub_self] at hF
        have HF := Lib.hid hF
        have t5 : na = ca := by omega
        clear hF hz
        have hE2 : acc ++ a.drop ca = grp (mrgL a b) := hE
        obtain ⟨q, hq⟩ : ∃ q, okW W (acc ++ a.drop ca) = q := ⟨_, rfl⟩
        have HE := Lib.hid (And.intro hE2 hq)
        clear hE hE2 hq
        go_wp2_with (at_builtin; refine lapc_bk rfl _ _ rfl w.heap.size acc.length 0 0 (bkc acc) (bkc (a.drop ca)) _ A' _ c' rfl hown rfl HF.out (bkc_one _) (by omega) (by omega) hsz ?_; intro A6 c6 w6 o6 g6 f6; have G6 := g_new hg g6 (own_new hown); rw [← bkc_app] at o6; clear g6 f6)
        have HO := Lib.hid (And.intro o6 G6)
        refine (validBI_at _ _ _ (acc ++ a.drop ca) W q _ (Rd.own HO.out.1) HE.out.2).mono ?_
        rintro e w7 ⟨rfl, g7⟩
        have o7 := own_keptN HO.out.1 g7
        have G7 := g_trans HO.out.2 g7
        clear o6 G6 g7 hown hg
        cases q with
        | false =>
          go_wp2
          go_ret2
          have hR : R = ([], false) := by rw [← HR.out, ← HE.out.1, HE.out.2]; rfl
          rw [hR]
          exact ⟨none, 0, rfl, World.ownsRow_nil _ _ _ _, G7⟩
        | true =>
          go_wp2
          go_ret2
          have hR : R = (acc ++ a.drop ca, true) := by rw [← HR.out, ← HE.out.1, HE.out.2]; rfl
          rw [hR]
          have hl9 : (acc ++ a.drop ca).length = acc.length + 0 := by rw [List.length_append, List.length_drop, HL.out.1]; omega
          unfold Coarsed
          simp only
          rw [hl9]
          exact ⟨A6, c6, rfl, o7, G7⟩
      · rw [if_neg hc] at hF
        rcases Nat.eq_zero_or_pos na with h0 | h0
        · have hi0 : i = 0 := by omega
          subst h0 hi0
          have hF0 : Rd wo 5 A 0 ca (bkc (a.drop 0)) := by
            have := HQ.out.1.keptN hg
            rwa [List.drop_zero]
          have HF := Lib.hid hF0
          clear hF hF0
          have hE2 : acc ++ a.drop 0 = grp (mrgL a b) := hE
          obtain ⟨q, hq⟩ : ∃ q, okW W (acc ++ a.drop 0) = q := ⟨_, rfl⟩
          have HE := Lib.hid (And.intro hE2 hq)
          clear hE hE2 hq
          go_wp2_with (at_builtin; refine lapc_bk rfl _ _ rfl w.heap.size acc.length 0 ca (bkc acc) (bkc (a.drop 0)) _ A' _ c' rfl hown rfl HF.out (bkc_one _) (by omega) (by omega) hsz ?_; intro A6 c6 w6 o6 g6 f6; have G6 := g_new hg g6 (own_new hown); rw [← bkc_app] at o6; clear g6 f6)
          have HO := Lib.hid (And.intro o6 G6)
          refine (validBI_at _ _ _ (acc ++ a.drop 0) W q _ (Rd.own HO.out.1) HE.out.2).mono ?_
          rintro e w7 ⟨rfl, g7⟩
          have o7 := own_keptN HO.out.1 g7
          have G7 := g_trans HO.out.2 g7
          clear o6 G6 g7 hown hg
          cases q with
          | false =>
            go_wp2
            go_ret2
            have hR : R = ([], false) := by rw [← HR.out, ← HE.out.1, HE.out.2]; rfl
            rw [hR]
            exact ⟨none, 0, rfl, World.ownsRow_nil _ _ _ _, G7⟩
          | true =>
            go_wp2
            go_ret2
            have hR : R = (acc ++ a.drop 0, true) := by rw [← HR.out, ← HE.out.1, HE.out.2]; rfl
            rw [hR]
            have hl9 : (acc ++ a.drop 0).length = acc.length + 0 := by rw [List.length_append, List.length_drop, HL.out.1]
            unfold Coarsed
            simp only
            rw [hl9]
            exact ⟨A6, c6, rfl, o7, G7⟩
        · obtain ⟨ba, oa, e9, -⟩ := HQ.out.1.at_ h0
          subst e9
          rw [show Option.map (fun x : Addr => x.add (i * 5)) (some ⟨ba, oa, none⟩) = some ⟨ba, oa + i * 5, none⟩ by simp [add_lit']] at hF
          have HF := Lib.hid hF
          clear hF
          have hE2 : acc ++ a.drop i = grp (mrgL a b) := hE
          obtain ⟨q, hq⟩ : ∃ q, okW W (acc ++ a.drop i) = q := ⟨_, rfl⟩
          have HE := Lib.hid (And.intro hE2 hq)
          clear hE hE2 hq
          go_wp2_with (at_builtin; refine lapc_bk rfl _ _ rfl w.heap.size acc.length (na - i) (ca - i) (bkc acc) (bkc (a.drop i)) _ A' _ c' rfl hown rfl HF.out (bkc_one _) (by omega) (by omega) hsz ?_; intro A6 c6 w6 o6 g6 f6; have G6 := g_new hg g6 (own_new hown); rw [← bkc_app] at o6; clear g6 f6)
          have HO := Lib.hid (And.intro o6 G6)
          refine (validBI_at _ _ _ (acc ++ a.drop i) W q _ (Rd.own HO.out.1) HE.out.2).mono ?_
          rintro e w7 ⟨rfl, g7⟩
          have o7 := own_keptN HO.out.1 g7
          have G7 := g_trans HO.out.2 g7
          clear o6 G6 g7 hown hg
          cases q with
          | false =>
            go_wp2
            go_ret2
            have hR : R = ([], false) := by rw [← HR.out, ← HE.out.1, HE.out.2]; rfl
            rw [hR]
            exact ⟨none, 0, rfl, World.ownsRow_nil _ _ _ _, G7⟩
          | true =>
            go_wp2
            go_ret2
            have hR : R = (acc ++ a.drop i, true) := by rw [← HR.out, ← HE.out.1, HE.out.2]; rfl
            rw [hR]
            have hl9 : (acc ++ a.drop i).length = acc.length + (na - i) := by rw [List.length_append, List.length_drop, HL.out.1]
            unfold Coarsed
            simp only
            rw [hl9]
            exact ⟨A6, c6, rfl, o7, G7⟩
theorem mergeI_any (A B : Option Addr) (na ca nb cb : Nat) (a b : List Bk) (W : Int) (w : World) (h1 : Rd w 5 A na ca (bkc a)) (h2 : Rd w 5 B nb cb (bkc b)) :
    Calls Try.prog 14 #[.slice A na ca, .slice B nb cb, .int .i64 W] w (Coarsed (mrgV W a b) w) := by
  obtain ⟨p, hp⟩ : ∃ p, okW W a = p := ⟨_, rfl⟩
  obtain ⟨q, hq⟩ : ∃ q, okW W b = q := ⟨_, rfl⟩
  have HP := Lib.hid (And.intro h1 (And.intro h2 (And.intro hp hq)))
  cases p with
  | false =>
    have E := Lib.hid (mrgV_no (W := W) (a := a) (b := b) (by rw [hp]; rfl))
    rw [E.out]
    clear h1 h2 hp hq
    go_enter Try.func14, Try.ntmps14
    go_wp2_with fail
    refine (validBI_at A na ca a W _ _ HP.out.1 HP.out.2.2.1).mono ?_
    rintro e w1 ⟨rfl, g1⟩
    go_wp2
    go_ret2
    exact ⟨none, 0, rfl, World.ownsRow_nil _ _ _ _, g1⟩
  | true =>
    cases q with
    | false =>
      have E := Lib.hid (mrgV_no (W := W) (a := a) (b := b) (by rw [hq]; simp))
      rw [E.out]
      clear h1 h2 hp hq
      go_enter Try.func14, Try.ntmps14
      go_wp2_with fail
      refine (validBI_at A na ca a W _ _ HP.out.1 HP.out.2.2.1).mono ?_
      rintro e w1 ⟨rfl, g1⟩
      go_wp2_with fail
      refine (validBI_at B nb cb b W _ _ (HP.out.2.1.keptN g1) HP.out.2.2.2).mono ?_
      rintro e w2 ⟨rfl, g2⟩
      have G := g_trans g1 g2
      clear g1 g2
      go_wp2
      go_ret2
      exact ⟨none, 0, rfl, World.ownsRow_nil _ _ _ _, G⟩
    | true =>
      rw [mrgV_yes (by rw [hp, hq]; rfl)]
      exact mergeI_loop A B na ca nb cb a b W w h1 h2 hp hq
end Go.Proofs.Ytoncefhcabgaaaa
