/- Contracts of the loops over slices of numbers: equality, marks, copies. -/
import Derived.Test.YtcgeagcfhjdpcaaProg
import Derived.Test.YtcgeagcfhjdpcaaWords
namespace Go.Proofs.Ytcgeagcfhjdpcaa
set_option linter.unusedVariables false
open Go.RowKit

theorem mk_inj {k : IntKind} {a b : List Int} (h : a.map (Value.int k) = b.map (Value.int k)) : a = b := by
  induction a generalizing b with
  | nil => cases b with
    | nil => rfl
    | cons y b => simp at h
  | cons x a ih => cases b with
    | nil => simp at h
    | cons y b =>
      simp only [List.map_cons, List.cons.injEq, Value.int.injEq, true_and] at h
      rw [h.1, ih h.2]

set_option maxHeartbeats 400000 in
theorem eqByteS_any (A B : Option Addr) (n c m d : Nat) (la lb : List Int) (w : World) (h1 : Rd w 1 A n c (bc la)) (h2 : Rd w 1 B m d (bc lb)) :
    Calls Try.prog 48 #[.slice A n c, .slice B m d] w fun e w' => e = .returned (.bool (decide (la = lb))) ∧ w.grownBy w' none := by
  have la1 : la.length = n := by have := h1.len; rw [bc_len] at this; omega
  have lb1 : lb.length = m := by have := h2.len; rw [bc_len] at this; omega
  have nb : n ≤ 9223372036854775807 := Nat.le_trans h1.cap h1.lim
  by_cases hnm : n = m
  · subst hnm
    have H1 := Lib.hid la1
    have H2 := Lib.hid lb1
    clear la1 lb1
    go_enter Try.func48, Try.ntmps48
    go_wp2
    go_loopw [5] (fun i wr => ∃ k : Nat, k ≤ n ∧ i = .int .i64 k ∧ w.grownBy wr none ∧ Hid (la = lb ↔ la.drop k = lb.drop k)) (fun i _ => n - (intOf i).toNat)
    case atStart => exact ⟨0, Nat.zero_le _, rfl, g_refl _ _, Iff.rfl⟩
    case round =>
      obtain ⟨k, hk, rfl, hg, hI⟩ := hrel
      by_cases hlt : k < n
      · obtain ⟨x, hx, hdx⟩ := get_ex (l := la) (i := k) (by have := H1.out; omega)
        obtain ⟨y, hy, hdy⟩ := get_ex (l := lb) (i := k) (by have := H2.out; omega)
        obtain ⟨b1, o1, rfl, hc1⟩ := (h1.keptN hg).cells hlt
        obtain ⟨b2, o2, rfl, hc2⟩ := (h2.keptN hg).cells hlt
        have cx := hc1 _ _ (bc_at hx)
        have cy := hc2 _ _ (bc_at hy)
        have HX := Lib.hid (And.intro hdx hdy)
        clear hc1 hc2 hx hy hdx hdy h1 h2
        have hlt' : (k : Int) < (n : Int) := by omega
        by_cases hxy : x = y
        · subst hxy
          go_wp2
          go_quiet (fail)
          go_wp2
          go_roundw
          case rel =>
            refine ⟨k + 1, by omega, by go_num, g_trans hg (g_drewN _ _ _), ?_⟩
            show la = lb ↔ _
            rw [hI.out, HX.out.1, HX.out.2]
            simp
          case measure => simp [intOf]; omega
        · have hb : (x == y) = false := by simp [hxy]
          go_wp2
          go_quiet (fail)
          go_wp2
          go_ret
          refine ⟨ret_b ?_, g_trans hg (g_drewN _ _ _)⟩
          have hne : ¬ la = lb := by
            rw [hI.out, HX.out.1, HX.out.2]
            simp [hxy]
          simp [hne]
      · have hkn : k = n := by omega
        have hge : ¬ (k : Int) < (n : Int) := by omega
        have HK := Lib.hid hkn
        clear hkn
        go_wp2
        go_ret
        refine ⟨ret_b ?_, hg⟩
        have he : la = lb := by
          rw [hI.out, List.drop_eq_nil_of_le (by have := H1.out; have := HK.out; omega), List.drop_eq_nil_of_le (by have := H2.out; have := HK.out; omega)]
        simp [he]
  · have hne : ((n : Int) != (m : Int)) = true := by rw [bne_iff_ne]; omega
    have hab : Hid (¬ la = lb) := by
      intro h
      rw [h] at la1
      omega
    clear la1 lb1
    go_enter Try.func48, Try.ntmps48
    go_wp2
    go_ret
    exact ⟨ret_b (by simp [hab.out]), g_refl _ _⟩
theorem eqByteS_same (A B : Option Addr) (n c m d : Nat) (l : List Int) (w : World) (h1 : Rd w 1 A n c (bc l)) (h2 : Rd w 1 B m d (bc l)) :
    Calls Try.prog 48 #[.slice A n c, .slice B m d] w fun e w' => e = .returned (.bool true) ∧ w.grownBy w' none := by
  refine (eqByteS_any A B n c m d l l w h1 h2).mono ?_
  rintro e w' ⟨rfl, hg⟩
  exact ⟨ret_b (by simp), hg⟩
theorem eqByteS_diff (A B : Option Addr) (n c m d : Nat) (la lb : List Int) (w : World) (h1 : Rd w 1 A n c (bc la)) (h2 : Rd w 1 B m d (bc lb)) (hne : ¬ la = lb) :
    Calls Try.prog 48 #[.slice A n c, .slice B m d] w fun e w' => e = .returned (.bool false) ∧ w.grownBy w' none := by
  refine (eqByteS_any A B n c m d la lb w h1 h2).mono ?_
  rintro e w' ⟨rfl, hg⟩
  exact ⟨ret_b (by simp [hne]), hg⟩
set_option maxHeartbeats 400000 in
theorem equalBytes_any (A B : Option Addr) (n c m d : Nat) (la lb : List Int) (w : World) (h1 : Rd w 1 A n c (bc la)) (h2 : Rd w 1 B m d (bc lb)) :
    Calls Try.prog 20 #[.slice A n c, .slice B m d] w fun e w' => e = .returned (.bool (decide (la = lb))) ∧ w.grownBy w' none := by
  have la1 : la.length = n := by have := h1.len; rw [bc_len] at this; omega
  have lb1 : lb.length = m := by have := h2.len; rw [bc_len] at this; omega
  have nb : n ≤ 9223372036854775807 := Nat.le_trans h1.cap h1.lim
  by_cases hnm : n = m
  · subst hnm
    have H1 := Lib.hid la1
    have H2 := Lib.hid lb1
    clear la1 lb1
    go_enter Try.func20, Try.ntmps20
    go_wp2
    go_loopw [5] (fun i wr => ∃ k : Nat, k ≤ n ∧ i = .int .i64 k ∧ w.grownBy wr none ∧ Hid (la = lb ↔ la.drop k = lb.drop k)) (fun i _ => n - (intOf i).toNat)
    case atStart => exact ⟨0, Nat.zero_le _, rfl, g_refl _ _, Iff.rfl⟩
    case round =>
      obtain ⟨k, hk, rfl, hg, hI⟩ := hrel
      by_cases hlt : k < n
      · obtain ⟨x, hx, hdx⟩ := get_ex (l := la) (i := k) (by have := H1.out; omega)
        obtain ⟨y, hy, hdy⟩ := get_ex (l := lb) (i := k) (by have := H2.out; omega)
        obtain ⟨b1, o1, rfl, hc1⟩ := (h1.keptN hg).cells hlt
        obtain ⟨b2, o2, rfl, hc2⟩ := (h2.keptN hg).cells hlt
        have cx := hc1 _ _ (bc_at hx)
        have cy := hc2 _ _ (bc_at hy)
        have HX := Lib.hid (And.intro hdx hdy)
        clear hc1 hc2 hx hy hdx hdy h1 h2
        have hlt' : (k : Int) < (n : Int) := by omega
        by_cases hxy : x = y
        · subst hxy
          go_wp2
          go_quiet (fail)
          go_wp2
          go_roundw
          case rel =>
            refine ⟨k + 1, by omega, by go_num, g_trans hg (g_drewN _ _ _), ?_⟩
            show la = lb ↔ _
            rw [hI.out, HX.out.1, HX.out.2]
            simp
          case measure => simp [intOf]; omega
        · have hb : (x == y) = false := by simp [hxy]
          go_wp2
          go_quiet (fail)
          go_wp2
          go_ret
          refine ⟨ret_b ?_, g_trans hg (g_drewN _ _ _)⟩
          have hne : ¬ la = lb := by
            rw [hI.out, HX.out.1, HX.out.2]
            simp [hxy]
          simp [hne]
      · have hkn : k = n := by omega
        have hge : ¬ (k : Int) < (n : Int) := by omega
        have HK := Lib.hid hkn
        clear hkn
        go_wp2
        go_ret
        refine ⟨ret_b ?_, hg⟩
        have he : la = lb := by
          rw [hI.out, List.drop_eq_nil_of_le (by have := H1.out; have := HK.out; omega), List.drop_eq_nil_of_le (by have := H2.out; have := HK.out; omega)]
        simp [he]
  · have hne : ((n : Int) != (m : Int)) = true := by rw [bne_iff_ne]; omega
    have hab : Hid (¬ la = lb) := by
      intro h
      rw [h] at la1
      omega
    clear la1 lb1
    go_enter Try.func20, Try.ntmps20
    go_wp2
    go_ret
    exact ⟨ret_b (by simp [hab.out]), g_refl _ _⟩
theorem equalBytes_same (A B : Option Addr) (n c m d : Nat) (l : List Int) (w : World) (h1 : Rd w 1 A n c (bc l)) (h2 : Rd w 1 B m d (bc l)) :
    Calls Try.prog 20 #[.slice A n c, .slice B m d] w fun e w' => e = .returned (.bool true) ∧ w.grownBy w' none := by
  refine (equalBytes_any A B n c m d l l w h1 h2).mono ?_
  rintro e w' ⟨rfl, hg⟩
  exact ⟨ret_b (by simp), hg⟩
theorem equalBytes_diff (A B : Option Addr) (n c m d : Nat) (la lb : List Int) (w : World) (h1 : Rd w 1 A n c (bc la)) (h2 : Rd w 1 B m d (bc lb)) (hne : ¬ la = lb) :
    Calls Try.prog 20 #[.slice A n c, .slice B m d] w fun e w' => e = .returned (.bool false) ∧ w.grownBy w' none := by
  refine (equalBytes_any A B n c m d la lb w h1 h2).mono ?_
  rintro e w' ⟨rfl, hg⟩
  exact ⟨ret_b (by simp [hne]), hg⟩
set_option maxHeartbeats 400000 in
theorem eqIntS_any (A B : Option Addr) (n c m d : Nat) (la lb : List Int) (w : World) (h1 : Rd w 1 A n c (ic la)) (h2 : Rd w 1 B m d (ic lb)) :
    Calls Try.prog 39 #[.slice A n c, .slice B m d] w fun e w' => e = .returned (.bool (decide (la = lb))) ∧ w.grownBy w' none := by
  have la1 : la.length = n := by have := h1.len; rw [ic_len] at this; omega
  have lb1 : lb.length = m := by have := h2.len; rw [ic_len] at this; omega
  have nb : n ≤ 9223372036854775807 := Nat.le_trans h1.cap h1.lim
  by_cases hnm : n = m
  · subst hnm
    have H1 := Lib.hid la1
    have H2 := Lib.hid lb1
    clear la1 lb1
    go_enter Try.func39, Try.ntmps39
    go_wp2
    go_loopw [5] (fun i wr => ∃ k : Nat, k ≤ n ∧ i = .int .i64 k ∧ w.grownBy wr none ∧ Hid (la = lb ↔ la.drop k = lb.drop k)) (fun i _ => n - (intOf i).toNat)
    case atStart => exact ⟨0, Nat.zero_le _, rfl, g_refl _ _, Iff.rfl⟩
    case round =>
      obtain ⟨k, hk, rfl, hg, hI⟩ := hrel
      by_cases hlt : k < n
      · obtain ⟨x, hx, hdx⟩ := get_ex (l := la) (i := k) (by have := H1.out; omega)
        obtain ⟨y, hy, hdy⟩ := get_ex (l := lb) (i := k) (by have := H2.out; omega)
        obtain ⟨b1, o1, rfl, hc1⟩ := (h1.keptN hg).cells hlt
        obtain ⟨b2, o2, rfl, hc2⟩ := (h2.keptN hg).cells hlt
        have cx := hc1 _ _ (ic_at hx)
        have cy := hc2 _ _ (ic_at hy)
        have HX := Lib.hid (And.intro hdx hdy)
        clear hc1 hc2 hx hy hdx hdy h1 h2
        have hlt' : (k : Int) < (n : Int) := by omega
        by_cases hxy : x = y
        · subst hxy
          go_wp2
          go_quiet (fail)
          go_wp2
          go_roundw
          case rel =>
            refine ⟨k + 1, by omega, by go_num, g_trans hg (g_drewN _ _ _), ?_⟩
            show la = lb ↔ _
            rw [hI.out, HX.out.1, HX.out.2]
            simp
          case measure => simp [intOf]; omega
        · have hb : (x == y) = false := by simp [hxy]
          go_wp2
          go_quiet (fail)
          go_wp2
          go_ret
          refine ⟨ret_b ?_, g_trans hg (g_drewN _ _ _)⟩
          have hne : ¬ la = lb := by
            rw [hI.out, HX.out.1, HX.out.2]
            simp [hxy]
          simp [hne]
      · have hkn : k = n := by omega
        have hge : ¬ (k : Int) < (n : Int) := by omega
        have HK := Lib.hid hkn
        clear hkn
        go_wp2
        go_ret
        refine ⟨ret_b ?_, hg⟩
        have he : la = lb := by
          rw [hI.out, List.drop_eq_nil_of_le (by have := H1.out; have := HK.out; omega), List.drop_eq_nil_of_le (by have := H2.out; have := HK.out; omega)]
        simp [he]
  · have hne : ((n : Int) != (m : Int)) = true := by rw [bne_iff_ne]; omega
    have hab : Hid (¬ la = lb) := by
      intro h
      rw [h] at la1
      omega
    clear la1 lb1
    go_enter Try.func39, Try.ntmps39
    go_wp2
    go_ret
    exact ⟨ret_b (by simp [hab.out]), g_refl _ _⟩
theorem eqIntS_same (A B : Option Addr) (n c m d : Nat) (l : List Int) (w : World) (h1 : Rd w 1 A n c (ic l)) (h2 : Rd w 1 B m d (ic l)) :
    Calls Try.prog 39 #[.slice A n c, .slice B m d] w fun e w' => e = .returned (.bool true) ∧ w.grownBy w' none := by
  refine (eqIntS_any A B n c m d l l w h1 h2).mono ?_
  rintro e w' ⟨rfl, hg⟩
  exact ⟨ret_b (by simp), hg⟩
theorem eqIntS_diff (A B : Option Addr) (n c m d : Nat) (la lb : List Int) (w : World) (h1 : Rd w 1 A n c (ic la)) (h2 : Rd w 1 B m d (ic lb)) (hne : ¬ la = lb) :
    Calls Try.prog 39 #[.slice A n c, .slice B m d] w fun e w' => e = .returned (.bool false) ∧ w.grownBy w' none := by
  refine (eqIntS_any A B n c m d la lb w h1 h2).mono ?_
  rintro e w' ⟨rfl, hg⟩
  exact ⟨ret_b (by simp [hne]), hg⟩
set_option maxHeartbeats 400000 in
theorem equalInts_any (A B : Option Addr) (n c m d : Nat) (la lb : List Int) (w : World) (h1 : Rd w 1 A n c (ic la)) (h2 : Rd w 1 B m d (ic lb)) :
    Calls Try.prog 29 #[.slice A n c, .slice B m d] w fun e w' => e = .returned (.bool (decide (la = lb))) ∧ w.grownBy w' none := by
  have la1 : la.length = n := by have := h1.len; rw [ic_len] at this; omega
  have lb1 : lb.length = m := by have := h2.len; rw [ic_len] at this; omega
  have nb : n ≤ 9223372036854775807 := Nat.le_trans h1.cap h1.lim
  by_cases hnm : n = m
  · subst hnm
    have H1 := Lib.hid la1
    have H2 := Lib.hid lb1
    clear la1 lb1
    go_enter Try.func29, Try.ntmps29
    go_wp2
    go_loopw [5] (fun i wr => ∃ k : Nat, k ≤ n ∧ i = .int .i64 k ∧ w.grownBy wr none ∧ Hid (la = lb ↔ la.drop k = lb.drop k)) (fun i _ => n - (intOf i).toNat)
    case atStart => exact ⟨0, Nat.zero_le _, rfl, g_refl _ _, Iff.rfl⟩
    case round =>
      obtain ⟨k, hk, rfl, hg, hI⟩ := hrel
      by_cases hlt : k < n
      · obtain ⟨x, hx, hdx⟩ := get_ex (l := la) (i := k) (by have := H1.out; omega)
        obtain ⟨y, hy, hdy⟩ := get_ex (l := lb) (i := k) (by have := H2.out; omega)
        obtain ⟨b1, o1, rfl, hc1⟩ := (h1.keptN hg).cells hlt
        obtain ⟨b2, o2, rfl, hc2⟩ := (h2.keptN hg).cells hlt
        have cx := hc1 _ _ (ic_at hx)
        have cy := hc2 _ _ (ic_at hy)
        have HX := Lib.hid (And.intro hdx hdy)
        clear hc1 hc2 hx hy hdx hdy h1 h2
        have hlt' : (k : Int) < (n : Int) := by omega
        by_cases hxy : x = y
        · subst hxy
          go_wp2
          go_quiet (fail)
          go_wp2
          go_roundw
          case rel =>
            refine ⟨k + 1, by omega, by go_num, g_trans hg (g_drewN _ _ _), ?_⟩
            show la = lb ↔ _
            rw [hI.out, HX.out.1, HX.out.2]
            simp
          case measure => simp [intOf]; omega
        · have hb : (x == y) = false := by simp [hxy]
          go_wp2
          go_quiet (fail)
          go_wp2
          go_ret
          refine ⟨ret_b ?_, g_trans hg (g_drewN _ _ _)⟩
          have hne : ¬ la = lb := by
            rw [hI.out, HX.out.1, HX.out.2]
            simp [hxy]
          simp [hne]
      · have hkn : k = n := by omega
        have hge : ¬ (k : Int) < (n : Int) := by omega
        have HK := Lib.hid hkn
        clear hkn
        go_wp2
        go_ret
        refine ⟨ret_b ?_, hg⟩
        have he : la = lb := by
          rw [hI.out, List.drop_eq_nil_of_le (by have := H1.out; have := HK.out; omega), List.drop_eq_nil_of_le (by have := H2.out; have := HK.out; omega)]
        simp [he]
  · have hne : ((n : Int) != (m : Int)) = true := by rw [bne_iff_ne]; omega
    have hab : Hid (¬ la = lb) := by
      intro h
      rw [h] at la1
      omega
    clear la1 lb1
    go_enter Try.func29, Try.ntmps29
    go_wp2
    go_ret
    exact ⟨ret_b (by simp [hab.out]), g_refl _ _⟩
theorem equalInts_same (A B : Option Addr) (n c m d : Nat) (l : List Int) (w : World) (h1 : Rd w 1 A n c (ic l)) (h2 : Rd w 1 B m d (ic l)) :
    Calls Try.prog 29 #[.slice A n c, .slice B m d] w fun e w' => e = .returned (.bool true) ∧ w.grownBy w' none := by
  refine (equalInts_any A B n c m d l l w h1 h2).mono ?_
  rintro e w' ⟨rfl, hg⟩
  exact ⟨ret_b (by simp), hg⟩
theorem equalInts_diff (A B : Option Addr) (n c m d : Nat) (la lb : List Int) (w : World) (h1 : Rd w 1 A n c (ic la)) (h2 : Rd w 1 B m d (ic lb)) (hne : ¬ la = lb) :
    Calls Try.prog 29 #[.slice A n c, .slice B m d] w fun e w' => e = .returned (.bool false) ∧ w.grownBy w' none := by
  refine (equalInts_any A B n c m d la lb w h1 h2).mono ?_
  rintro e w' ⟨rfl, hg⟩
  exact ⟨ret_b (by simp [hne]), hg⟩
end Go.Proofs.Ytcgeagcfhjdpcaa
