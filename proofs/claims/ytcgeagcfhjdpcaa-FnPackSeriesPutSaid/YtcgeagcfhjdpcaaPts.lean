/- Contracts of what looks at one point, and of ValidSeries, of the program and of the reference. -/
import Derived.Test.YtcgeagcfhjdpcaaProg
import Derived.Test.YtcgeagcfhjdpcaaSer
import Derived.Test.YtcgeagcfhjdpcaaNum
namespace Go.Proofs.Ytcgeagcfhjdpcaa
set_option linter.unusedVariables false
open Go.RowKit

theorem i64_in (n : Int) (h : -9223372036854775808 ≤ n ∧ n ≤ 9223372036854775807) : IntKind.i64.wrap n = n := (IntWalk.i64_left n).trans (IntWalk.wrap64_in n h)

theorem validPointI_no (t v : Int) (w : World) (h : okP t v = false) : Calls Try.prog 64 #[.agg #[.int .i64 t, .int .i64 v]] w fun e w' => e = .returned (.bool false) ∧ w.grownBy w' none := by
  have h := of_decide_eq_false h
  by_cases k0 : 0 ≤ t ∧ t ≤ 1000
  · have k1 : ¬ (-1000 ≤ v ∧ v ≤ 1000) := by omega
    have a1 := k0.1
    have a2 := k0.2
    have b1 : decide (0 ≤ t) = true := by simpa using a1
    have b2 : decide (t ≤ 1000) = true := by simpa using a2
    clear h k0
    by_cases k2 : -1000 ≤ v
    · have k3 : ¬ v ≤ 1000 := by omega
      have b3 : decide (-1000 ≤ v) = true := by simpa using k2
      have b4 : decide (v ≤ 1000) = false := by simpa using k3
      go_enter Try.func64, Try.ntmps64
      go_wp2
      go_ret
      exact ⟨rfl, g_alloc _ _ _⟩
    · have b3 : decide (-1000 ≤ v) = false := by simpa using k2
      go_enter Try.func64, Try.ntmps64
      go_wp2
      go_ret
      exact ⟨rfl, g_alloc _ _ _⟩
  · clear h
    by_cases k2 : 0 ≤ t
    · have k3 : ¬ t ≤ 1000 := by omega
      have b3 : decide (0 ≤ t) = true := by simpa using k2
      have b4 : decide (t ≤ 1000) = false := by simpa using k3
      go_enter Try.func64, Try.ntmps64
      go_wp2
      go_ret
      exact ⟨rfl, g_alloc _ _ _⟩
    · have b3 : decide (0 ≤ t) = false := by simpa using k2
      go_enter Try.func64, Try.ntmps64
      go_wp2
      go_ret
      exact ⟨rfl, g_alloc _ _ _⟩
theorem validPointI_yes (t v : Int) (w : World) (h : okP t v = true) : Calls Try.prog 64 #[.agg #[.int .i64 t, .int .i64 v]] w fun e w' => e = .returned (.bool true) ∧ w.grownBy w' none := by
  obtain ⟨h1, h2, h3, h4⟩ := of_decide_eq_true h
  have b1 : decide (0 ≤ t) = true := by simpa using h1
  have b2 : decide (t ≤ 1000) = true := by simpa using h2
  have b3 : decide (-1000 ≤ v) = true := by simpa using h3
  have b4 : decide (v ≤ 1000) = true := by simpa using h4
  clear h
  go_enter Try.func64, Try.ntmps64
  go_wp2
  go_ret
  exact ⟨rfl, g_alloc _ _ _⟩
theorem validPointI_b (t v : Int) (b : Bool) (w : World) (h : okP t v = b) : Calls Try.prog 64 #[.agg #[.int .i64 t, .int .i64 v]] w fun e w' => e = .returned (.bool b) ∧ w.grownBy w' none := by
  cases b with
  | false => exact validPointI_no t v w h
  | true => exact validPointI_yes t v w h
theorem validPointS_no (t v : Int) (w : World) (h : okP t v = false) : Calls Try.prog 76 #[.agg #[.int .i64 t, .int .i64 v]] w fun e w' => e = .returned (.bool false) ∧ w.grownBy w' none := by
  have h := of_decide_eq_false h
  by_cases k0 : 0 ≤ t ∧ t ≤ 1000
  · have k1 : ¬ (-1000 ≤ v ∧ v ≤ 1000) := by omega
    have a1 := k0.1
    have a2 := k0.2
    have b1 : decide (0 ≤ t) = true := by simpa using a1
    have b2 : decide (t ≤ 1000) = true := by simpa using a2
    clear h k0
    by_cases k2 : -1000 ≤ v
    · have k3 : ¬ v ≤ 1000 := by omega
      have b3 : decide (-1000 ≤ v) = true := by simpa using k2
      have b4 : decide (v ≤ 1000) = false := by simpa using k3
      go_enter Try.func76, Try.ntmps76
      go_wp2
      go_ret
      exact ⟨rfl, g_alloc _ _ _⟩
    · have b3 : decide (-1000 ≤ v) = false := by simpa using k2
      go_enter Try.func76, Try.ntmps76
      go_wp2
      go_ret
      exact ⟨rfl, g_alloc _ _ _⟩
  · clear h
    by_cases k2 : 0 ≤ t
    · have k3 : ¬ t ≤ 1000 := by omega
      have b3 : decide (0 ≤ t) = true := by simpa using k2
      have b4 : decide (t ≤ 1000) = false := by simpa using k3
      go_enter Try.func76, Try.ntmps76
      go_wp2
      go_ret
      exact ⟨rfl, g_alloc _ _ _⟩
    · have b3 : decide (0 ≤ t) = false := by simpa using k2
      go_enter Try.func76, Try.ntmps76
      go_wp2
      go_ret
      exact ⟨rfl, g_alloc _ _ _⟩
theorem validPointS_yes (t v : Int) (w : World) (h : okP t v = true) : Calls Try.prog 76 #[.agg #[.int .i64 t, .int .i64 v]] w fun e w' => e = .returned (.bool true) ∧ w.grownBy w' none := by
  obtain ⟨h1, h2, h3, h4⟩ := of_decide_eq_true h
  have b1 : decide (0 ≤ t) = true := by simpa using h1
  have b2 : decide (t ≤ 1000) = true := by simpa using h2
  have b3 : decide (-1000 ≤ v) = true := by simpa using h3
  have b4 : decide (v ≤ 1000) = true := by simpa using h4
  clear h
  go_enter Try.func76, Try.ntmps76
  go_wp2
  go_ret
  exact ⟨rfl, g_alloc _ _ _⟩
theorem validPointS_b (t v : Int) (b : Bool) (w : World) (h : okP t v = b) : Calls Try.prog 76 #[.agg #[.int .i64 t, .int .i64 v]] w fun e w' => e = .returned (.bool b) ∧ w.grownBy w' none := by
  cases b with
  | false => exact validPointS_no t v w h
  | true => exact validPointS_yes t v w h

theorem prevP_cell {w : World} {l : List Pt} {k b o : Nat} (h : ∀ j u, (pc l)[j]? = some u → w.cell? ⟨b, o + j, none⟩ = some u) (hk : k < l.length) : ∀ j, k = j + 1 → ∃ sp, prevP l k = some sp ∧ w.cell? ⟨b, o + j * 2, none⟩ = some (.int .i64 sp) := by
  intro j hj
  subst hj
  obtain ⟨⟨sp, r⟩, hx, -⟩ := get_ex (l := l) (i := j) (by omega)
  refine ⟨sp, by simp [prevP, hx], ?_⟩
  have := h _ _ (pc_at hx).1
  simpa using this

attribute [local irreducible] wpQuiet

set_option maxHeartbeats 1600000 in
theorem validI_any (A : Option Addr) (n c : Nat) (l : List Pt) (w : World) (h : Rd w 2 A n c (pc l)) :
    Calls Try.prog 26 #[.slice A n c] w fun e w' => e = .returned (.bool (validL l)) ∧ w.grownBy w' none := by
  have l1 : l.length = n := by have := h.len; rw [pc_len] at this; omega
  have nb : n ≤ 9223372036854775807 := Nat.le_trans h.cap h.lim
  by_cases hbig : 16 < n
  · have E : Hid (validL l = false) := by show _ = _; unfold validL; simp; omega
    clear l1
    go_enter Try.func26, Try.ntmps26
    go_wp2
    go_ret
    exact ⟨ret_b E.out.symm, g_refl _ _⟩
  have hle : ¬ (16 : Int) < (n : Int) := by omega
  have E : Hid (validL l = vS (prevP l 0) (l.drop 0)) := by show _ = _; unfold validL prevP; simp; omega
  have H1 := Lib.hid l1
  clear l1
  go_enter Try.func26, Try.ntmps26
  go_wp2
  go_loopw [10] (fun i wr => ∃ k : Nat, k ≤ n ∧ i = .int .i64 k ∧ w.grownBy wr none ∧ Hid (validL l = vS (prevP l k) (l.drop k))) (fun i _ => n - (intOf i).toNat)
  case atStart => exact ⟨0, Nat.zero_le _, rfl, g_refl _ _, E⟩
  case round =>
    obtain ⟨k, hk, rfl, hg, hI⟩ := hrel
    clear E
    by_cases hlt : k < n
    · obtain ⟨⟨t, v⟩, hx, hdx⟩ := get_ex (l := l) (i := k) (by have := H1.out; omega)
      obtain ⟨b, o, rfl, hc⟩ := (h.keptN hg).cells hlt
      have c0 := hc _ _ (pc_at hx).1
      have c1 := hc _ _ (pc_at hx).2
      simp only [Nat.add_zero, ← Nat.add_assoc] at c0 c1
      have hlt' : (k : Int) < (n : Int) := by omega
      have HX := Lib.hid (And.intro hx hdx)
      have HP := Lib.hid (prevP_cell (l := l) (k := k) (o := o) hc (by have := H1.out; omega))
      clear hc hx hdx h
      go_wp2_with fail
      have r1 := Blk.new wr 39 [.int .i64 t, .int .i64 v]
      have gA := g_alloc wr (.cells #[.int .i64 t, .int .i64 v] 39) none
      simp only [List.toArray] at r1
      have d0 := gw_cellW ((r1.cell 0).trans rfl)
      have d1 := gw_cellW ((r1.cell 1).trans rfl)
      have GA := Lib.hid (g_trans hg gA)
      obtain ⟨q, hq⟩ : ∃ q, okP t v = q := ⟨_, rfl⟩
      clear r1
      refine wp_region_gw (W := wr.alloc (.cells #[.int .i64 t, .int .i64 v] 39)) (by kernel_rfl) (by kernel_rfl) (g_refl _ _) ?_
      cases q with
      | false =>
        have HN : Hid (validL l = false) := by show _ = _; rw [hI.out, HX.out.2]; simp [vS, hq]
        have HQ := Lib.hid hq
        clear hI HX HP gA hq
        repeat (quiet_step ((go_at_call 64; exact gw_call (validPointI_b _ _ _ _ HQ.out))))
        refine wpQuiet_nil ?_
        rintro _ ⟨⟨w2, hg2⟩, rfl⟩
        go_wp2
        go_ret
        exact ⟨ret_b HN.out.symm, g_trans GA.out hg2⟩
      | true =>
        have HQ := Lib.hid hq
        by_cases k0 : k = 0
        · subst k0
          have HY : Hid (validL l = vS (prevP l 1) (l.drop 1)) := by
            show _ = _
            rw [hI.out, HX.out.2]
            simp [vS, hq, prevP, HX.out.1]
          clear hI HX HP gA hq
          repeat (quiet_step ((go_at_call 64; exact gw_call (validPointI_b _ _ _ _ HQ.out))))
          refine wpQuiet_nil ?_
          rintro _ ⟨⟨w2, hg2⟩, rfl⟩
          go_wp2
          go_roundw
          case rel => exact ⟨1, by omega, by go_num, g_trans GA.out hg2, HY⟩
          case measure => simp [intOf]; omega
        · obtain ⟨j, hj⟩ : ∃ j, k = j + 1 := ⟨k - 1, by omega⟩
          obtain ⟨sp, hsp, hcp⟩ := HP.out j hj
          have d2 := gw_cellW ((gA.cell hcp (by simp)))
          have hj0 : decide (0 < k) = true := by simp; omega
          have hj1 : IntKind.i64.wrap ((k : Int) - 1) = (j : Int) := by rw [show ((k : Int) - 1) = (j : Int) by omega]; exact i64_in _ (by omega)
          have hj2 : (j : Int) < (n : Int) := by omega
          have HJ := Lib.hid hj
          have hnext : prevP l (k + 1) = some t := by simp [prevP, HX.out.1]
          by_cases hord : sp < t
          · have hd : decide (t ≤ sp) = false := by simp; omega
            have HY : Hid (validL l = vS (prevP l (k + 1)) (l.drop (k + 1))) := by
              show _ = _
              rw [hI.out, HX.out.2, hsp, hnext]
              simp [vS, hq, hord]
            clear hI HX HP gA hq hsp hnext hcp hj k0
            repeat (quiet_step ((go_at_call 64; exact gw_call (validPointI_b _ _ _ _ HQ.out))))
            refine wpQuiet_nil ?_
            rintro _ ⟨⟨w2, hg2⟩, rfl⟩
            go_wp2
            go_roundw
            case rel => exact ⟨k + 1, by omega, by go_num, g_trans GA.out hg2, HY⟩
            case measure => simp [intOf]; omega
          · have hd : decide (t ≤ sp) = true := by simp; omega
            have HN : Hid (validL l = false) := by
              show _ = _
              rw [hI.out, HX.out.2, hsp]
              simp [vS, hq, hord]
            clear hI HX HP gA hq hsp hnext hcp hj k0
            repeat (quiet_step ((go_at_call 64; exact gw_call (validPointI_b _ _ _ _ HQ.out))))
            refine wpQuiet_nil ?_
            rintro _ ⟨⟨w2, hg2⟩, rfl⟩
            go_wp2
            go_ret
            exact ⟨ret_b HN.out.symm, g_trans GA.out hg2⟩
    · have hge : ¬ (k : Int) < (n : Int) := by omega
      have HH : Hid (validL l = true) := by
        show _ = _
        rw [hI.out, List.drop_eq_nil_of_le (by have := H1.out; omega)]
        cases prevP l k <;> rfl
      clear hI
      go_wp2
      go_ret
      exact ⟨ret_b HH.out.symm, hg⟩
set_option maxHeartbeats 1600000 in
theorem validSS_any (A : Option Addr) (n c : Nat) (l : List Pt) (w : World) (h : Rd w 2 A n c (pc l)) :
    Calls Try.prog 56 #[.slice A n c] w fun e w' => e = .returned (.bool (validL l)) ∧ w.grownBy w' none := by
  have l1 : l.length = n := by have := h.len; rw [pc_len] at this; omega
  have nb : n ≤ 9223372036854775807 := Nat.le_trans h.cap h.lim
  have E : Hid (vS none l = vS (prevP l 0) (l.drop 0)) := rfl
  have H1 := Lib.hid l1
  clear l1
  go_enter Try.func56, Try.ntmps56
  go_wp2
  go_loopw [3] (fun i wr => ∃ k : Nat, k ≤ n ∧ i = .int .i64 k ∧ w.grownBy wr none ∧ Hid (vS none l = vS (prevP l k) (l.drop k))) (fun i _ => n - (intOf i).toNat)
  case atStart => exact ⟨0, Nat.zero_le _, rfl, g_refl _ _, E⟩
  case round =>
    obtain ⟨k, hk, rfl, hg, hI⟩ := hrel
    clear E
    by_cases hlt : k < n
    · obtain ⟨⟨t, v⟩, hx, hdx⟩ := get_ex (l := l) (i := k) (by have := H1.out; omega)
      obtain ⟨b, o, rfl, hc⟩ := (h.keptN hg).cells hlt
      have c0 := hc _ _ (pc_at hx).1
      have c1 := hc _ _ (pc_at hx).2
      simp only [Nat.add_zero, ← Nat.add_assoc] at c0 c1
      have hlt' : (k : Int) < (n : Int) := by omega
      have HX := Lib.hid (And.intro hx hdx)
      have HP := Lib.hid (prevP_cell (l := l) (k := k) (o := o) hc (by have := H1.out; omega))
      clear hc hx hdx h
      go_wp2_with fail
      have d0 := gw_cellW c0
      have d1 := gw_cellW c1
      obtain ⟨q, hq⟩ : ∃ q, okP t v = q := ⟨_, rfl⟩
      refine wp_region_gw (W := wr) (by kernel_rfl) (by kernel_rfl) (g_refl _ _) ?_
      cases q with
      | false =>
        have HN : Hid (validL l = false) := by show _ = _; unfold validL; rw [hI.out, HX.out.2]; simp [vS, hq]
        have HQ := Lib.hid hq
        clear hI HX HP hq c0 c1
        repeat (quiet_step ((go_at_call 76; exact gw_call (validPointS_b _ _ _ _ HQ.out))))
        refine wpQuiet_nil ?_
        rintro _ ⟨⟨w2, hg2⟩, rfl⟩
        go_wp2
        go_ret
        exact ⟨ret_b HN.out.symm, g_trans hg hg2⟩
      | true =>
        have HQ := Lib.hid hq
        by_cases k0 : k = 0
        · subst k0
          simp only [Nat.zero_mul, Nat.add_zero] at d0 d1
          have HY : Hid (vS none l = vS (prevP l 1) (l.drop 1)) := by
            show _ = _
            rw [hI.out, HX.out.2]
            simp [vS, hq, prevP, HX.out.1]
          clear hI HX HP hq c0 c1
          repeat (quiet_step ((go_at_call 76; exact gw_call (validPointS_b _ _ _ _ HQ.out))))
          refine wpQuiet_nil ?_
          rintro _ ⟨⟨w2, hg2⟩, rfl⟩
          go_wp2
          go_roundw
          case rel => exact ⟨1, by omega, by go_num, g_trans hg hg2, HY⟩
          case measure => simp [intOf]; omega
        · obtain ⟨j, hj⟩ : ∃ j, k = j + 1 := ⟨k - 1, by omega⟩
          obtain ⟨sp, hsp, hcp⟩ := HP.out j hj
          have d2 := gw_cellW hcp
          have hj0 : decide (0 < k) = true := by simp; omega
          have hj1 : IntKind.i64.wrap ((k : Int) - 1) = (j : Int) := by rw [show ((k : Int) - 1) = (j : Int) by omega]; exact i64_in _ (by omega)
          have hj2 : (j : Int) < (n : Int) := by omega
          have HJ := Lib.hid hj
          have hnext : prevP l (k + 1) = some t := by simp [prevP, HX.out.1]
          by_cases hord : sp < t
          · have hd : decide (t ≤ sp) = false := by simp; omega
            have HY : Hid (vS none l = vS (prevP l (k + 1)) (l.drop (k + 1))) := by
              show _ = _
              rw [hI.out, HX.out.2, hsp, hnext]
              simp [vS, hq, hord]
            clear hI HX HP hq hsp hnext hcp hj k0 c0 c1
            repeat (quiet_step ((go_at_call 76; exact gw_call (validPointS_b _ _ _ _ HQ.out))))
            refine wpQuiet_nil ?_
            rintro _ ⟨⟨w2, hg2⟩, rfl⟩
            go_wp2
            go_roundw
            case rel => exact ⟨k + 1, by omega, by go_num, g_trans hg hg2, HY⟩
            case measure => simp [intOf]; omega
          · have hd : decide (t ≤ sp) = true := by simp; omega
            have HN : Hid (validL l = false) := by
              show _ = _
              unfold validL
              rw [hI.out, HX.out.2, hsp]
              simp [vS, hq, hord]
            clear hI HX HP hq hsp hnext hcp hj k0 c0 c1
            repeat (quiet_step ((go_at_call 76; exact gw_call (validPointS_b _ _ _ _ HQ.out))))
            refine wpQuiet_nil ?_
            rintro _ ⟨⟨w2, hg2⟩, rfl⟩
            go_wp2
            go_ret
            exact ⟨ret_b HN.out.symm, g_trans hg hg2⟩
    · have hge : ¬ (k : Int) < (n : Int) := by omega
      have HH : Hid (validL l = decide ((n : Int) ≤ 16)) := by
        show _ = _
        unfold validL
        rw [hI.out, List.drop_eq_nil_of_le (by have := H1.out; omega), H1.out]
        have e : vS (prevP l k) [] = true := by cases prevP l k <;> rfl
        rw [e, Bool.and_true]
        rw [Bool.eq_iff_iff]
        simp only [decide_eq_true_eq]
        omega
      clear hI
      go_wp2
      go_ret
      exact ⟨ret_b HH.out.symm, hg⟩
theorem validI_at (A : Option Addr) (n c : Nat) (l : List Pt) (b : Bool) (w : World) (h : Rd w 2 A n c (pc l)) (hb : validL l = b) :
    Calls Try.prog 26 #[.slice A n c] w fun e w' => e = .returned (.bool b) ∧ w.grownBy w' none := by
  subst hb
  exact validI_any A n c l w h
theorem validSS_at (A : Option Addr) (n c : Nat) (l : List Pt) (b : Bool) (w : World) (h : Rd w 2 A n c (pc l)) (hb : validL l = b) :
    Calls Try.prog 56 #[.slice A n c] w fun e w' => e = .returned (.bool b) ∧ w.grownBy w' none := by
  subst hb
  exact validSS_any A n c l w h
end Go.Proofs.Ytcgeagcfhjdpcaa
