/- Contracts of ValueAt, SumOver and Resets, of the program and of the reference. -/
import Derived.Test.YtceihlnmaeikdaaProg
import Derived.Test.YtceihlnmaeikdaaRng
namespace Go.Proofs.Ytceihlnmaeikdaa
set_option linter.unusedVariables false
open Go.RowKit

theorem valueL_no {l : List Pt} {x : Int} (h : validL l = false) : valueL l x = (0, false) := by unfold valueL; rw [h]; rfl
theorem valueL_yes {l : List Pt} {x : Int} (h : validL l = true) : valueL l x = lastV l x := by unfold valueL; rw [h]; rfl

theorem rangeI_yes (A : Option Addr) (n c : Nat) (l : List Pt) (f t : Int) (w : World) (h : Rd w 2 A n c (pc l)) (hq : okR l f t = true) :
    Calls Try.prog 27 #[.slice A n c, .int .i64 f, .int .i64 t] w fun e w' => ∃ A' c', e = .returned (.slice A' (partL l f t).length c') ∧ w'.ownsRow w.heap.size 33 2 (.slice A' (partL l f t).length c') (partL l f t).length (pc (partL l f t)) ∧ w.grownBy w' none := by
  have := rangeI_any A n c l f t w h
  rw [range_yes hq] at this
  exact this
set_option maxHeartbeats 800000 in
theorem valueI_any (A : Option Addr) (n c : Nat) (l : List Pt) (x : Int) (w : World) (h : Rd w 2 A n c (pc l)) :
    Calls Try.prog 22 #[.slice A n c, .int .i64 x] w fun e w' => e = .returned (.tuple #[.int .i64 (valueL l x).1, .bool (valueL l x).2]) ∧ w.grownBy w' none := by
  have l1 : l.length = n := by have := h.len; rw [pc_len] at this; omega
  have g1 := g_trans (g_alloc w (.cells #[.slice A n c] 25) none) (g_alloc _ (.cells #[.int .i64 x] 3) none)
  obtain ⟨q, hq⟩ : ∃ q, validL l = q := ⟨_, rfl⟩
  have HQ := Lib.hid (And.intro h hq)
  cases q with
  | false =>
    rw [valueL_no hq]
    clear h hq l1
    go_enter Try.func22, Try.ntmps22
    go_wp2_with fail
    refine (validI_at A n c l _ _ (HQ.out.1.keptN g1) HQ.out.2).mono ?_
    rintro e w1 ⟨rfl, g2⟩
    have G := g_trans g1 g2
    clear g1 g2
    go_wp2
    go_ret2
    exact ⟨rfl, G⟩
  | true =>
    rw [valueL_yes hq]
    have hv := (validL_iff l).1 hq
    have hn : n ≤ 1000 := by omega
    have HA := Lib.hid (And.intro hv.2.2 l1)
    clear h hq l1 hv
    go_enter Try.func22, Try.ntmps22
    go_wp2_with fail
    refine (validI_at A n c l _ _ (HQ.out.1.keptN g1) HQ.out.2).mono ?_
    rintro e w1 ⟨rfl, g2⟩
    have G := g_trans g1 g2
    have q1 : w1.cell? ⟨w.heap.size, 0, none⟩ = some (.slice A n c) := g2.cell (by go_simp) (by simp)
    have q2 : w1.cell? ⟨w.heap.size + 1, 0, none⟩ = some (.int .i64 x) := g2.cell (by go_simp) (by simp)
    clear g1 g2
    go_wp2_with fail
    refine (searchV_use w.heap.size (w.heap.size + 1) n c A l x _ q1 q2 (HQ.out.1.keptN G) HA.out.1 hn).mono ?_
    rintro e w2 ⟨r, rfl, hr, HS, g3⟩
    have G2 := g_trans G g3
    have q3 := g3.cell q1 (by simp)
    clear q1 q2
    by_cases hr0 : r = 0
    · subst hr0
      have E := Lib.hid (lastV_zero (l := l) (now := x) (fun i q hq => HS.out.2 i q hq (Nat.zero_le _)))
      clear G g3
      go_wp2
      go_ret2
      exact ⟨ret_ib (congrArg Prod.fst E.out).symm (congrArg Prod.snd E.out).symm, G2⟩
    · obtain ⟨j, rfl⟩ : ∃ j, r = j + 1 := ⟨r - 1, by omega⟩
      obtain ⟨⟨t, v⟩, hx, -⟩ := get_ex (l := l) (i := j) (by have := HA.out.2; omega)
      obtain ⟨b, o, rfl, hc⟩ := (HQ.out.1.keptN G2).cells (i := j) (by omega)
      have c1 := hc _ _ (pc_at hx).2
      simp only [← Nat.add_assoc] at c1
      have E := Lib.hid (lastV_at hx (HS.out.1 j _ hx (by omega)) (fun i q hq hi => HS.out.2 i q hq hi))
      have hj : (j : Int) < (n : Int) := by omega
      have hne : (((j + 1 : Nat) : Int) == 0) = false := by simp; omega
      clear hc hx G g3
      go_wp2
      go_ret2
      exact ⟨ret_ib (congrArg Prod.fst E.out).symm (congrArg Prod.snd E.out).symm, G2⟩
theorem valueI_at (A : Option Addr) (n c : Nat) (l : List Pt) (x v : Int) (b : Bool) (w : World) (h : Rd w 2 A n c (pc l)) (hv : valueL l x = (v, b)) :
    Calls Try.prog 22 #[.slice A n c, .int .i64 x] w fun e w' => e = .returned (.tuple #[.int .i64 v, .bool b]) ∧ w.grownBy w' none := by
  have := valueI_any A n c l x w h
  rw [hv] at this
  exact this
set_option maxHeartbeats 800000 in
theorem valueS_any (A : Option Addr) (n c : Nat) (l : List Pt) (x : Int) (w : World) (h : Rd w 2 A n c (pc l)) :
    Calls Try.prog 21 #[.slice A n c, .int .i64 x] w fun e w' => e = .returned (.tuple #[.int .i64 (valueL l x).1, .bool (valueL l x).2]) ∧ w.grownBy w' none := by
  have l1 : l.length = n := by have := h.len; rw [pc_len] at this; omega
  obtain ⟨q, hq⟩ : ∃ q, validL l = q := ⟨_, rfl⟩
  have HQ := Lib.hid (And.intro h (And.intro hq l1))
  cases q with
  | false =>
    rw [valueL_no hq]
    clear h hq l1
    go_enter Try.func21, Try.ntmps21
    go_wp2_with fail
    refine (validSS_at A n c l _ _ HQ.out.1 HQ.out.2.1).mono ?_
    rintro e w1 ⟨rfl, g2⟩
    go_wp2
    go_ret2
    exact ⟨rfl, g2⟩
  | true =>
    rw [valueL_yes hq]
    have hv := (validL_iff l).1 hq
    have hn : n ≤ 1000 := by omega
    clear h hq l1 hv
    go_enter Try.func21, Try.ntmps21
    go_wp2_with fail
    refine (validSS_at A n c l _ _ HQ.out.1 HQ.out.2.1).mono ?_
    rintro e w1 ⟨rfl, g1⟩
    go_wp2
    go_loopw [6] (fun i wr => ∃ k : Nat, k ≤ n ∧ i = .int .i64 ((k : Int) - 1) ∧ w.grownBy wr none ∧ Hid (∀ i q, l[i]? = some q → k ≤ i → x < q.1)) (fun i _ => (intOf i + 1).toNat)
    case atStart => exact ⟨n, Nat.le_refl _, rfl, g1, fun i q hi hk => by have := (List.getElem?_eq_some_iff.1 hi).1; have := HQ.out.2.2; omega⟩
    case round =>
      obtain ⟨k, hk, rfl, hg, hI⟩ := hrel
      cases k with
      | zero =>
        have E := Lib.hid (lastV_zero (l := l) (now := x) (fun i q hq => hI.out i q hq (Nat.zero_le _)))
        go_wp2
        go_ret2
        exact ⟨ret_ib (congrArg Prod.fst E.out).symm (congrArg Prod.snd E.out).symm, hg⟩
      | succ j =>
        obtain ⟨⟨t, v⟩, hx, -⟩ := get_ex (l := l) (i := j) (by have := HQ.out.2.2; omega)
        obtain ⟨b, o, rfl, hc⟩ := (HQ.out.1.keptN hg).cells (i := j) (by omega)
        have c0 := hc _ _ (pc_at hx).1
        have c1 := hc _ _ (pc_at hx).2
        simp only [Nat.add_zero, ← Nat.add_assoc] at c0 c1
        have HX := Lib.hid hx
        have hj : (j : Int) < (n : Int) := by omega
        rw [show (((j + 1 : Nat) : Int) - 1) = (j : Int) by omega]
        clear hc hx
        by_cases hle : t ≤ x
        · have E := Lib.hid (lastV_at HX.out hle (fun i q hq hi => hI.out i q hq hi))
          go_wp2
          go_ret2
          exact ⟨ret_ib (congrArg Prod.fst E.out).symm (congrArg Prod.snd E.out).symm, hg⟩
        · have HI : Hid (∀ i q, l[i]? = some q → j ≤ i → x < q.1) := fun i q hi hk => by
            rcases Nat.lt_or_ge j i with h | h
            · exact hI.out i q hi h
            · obtain rfl : i = j := by omega
              rw [HX.out] at hi
              injection hi with hi
              rw [← hi]
              omega
          clear hI
          go_wp2
          go_roundw
          case rel => exact ⟨j, by omega, by go_num, hg, HI⟩
          case measure => first | (simp [intOf]; done) | (simp [intOf]; omega)
theorem valueS_at (A : Option Addr) (n c : Nat) (l : List Pt) (x v : Int) (b : Bool) (w : World) (h : Rd w 2 A n c (pc l)) (hv : valueL l x = (v, b)) :
    Calls Try.prog 21 #[.slice A n c, .int .i64 x] w fun e w' => e = .returned (.tuple #[.int .i64 v, .bool b]) ∧ w.grownBy w' none := by
  have := valueS_any A n c l x w h
  rw [hv] at this
  exact this
theorem sum_step {l : List Pt} {k : Nat} {t v : Int} (hb : l.length ≤ 16 ∧ ∀ p ∈ l, 0 ≤ p.1 ∧ p.1 ≤ 1000 ∧ -1000 ≤ p.2 ∧ p.2 ≤ 1000) (hx : l[k]? = some (t, v)) : (-1000 ≤ v ∧ v ≤ 1000) ∧ (-16000 ≤ sumV (l.take k) ∧ sumV (l.take k) ≤ 16000) ∧ sumV (l.take (k + 1)) = sumV (l.take k) + v := by
  have h1 := hb.2 _ (List.mem_of_getElem? hx)
  have h2 := sumV_bd (l := l.take k) (fun p hp => by have := hb.2 p (List.mem_of_mem_take hp); omega)
  have h3 : (l.take k).length ≤ 16 := by rw [List.length_take]; omega
  refine ⟨h1.2.2, by omega, ?_⟩
  rw [take_get' hx, sumV_app]
  simp [sumV]

set_option maxHeartbeats 800000 in
theorem sumI_any (A : Option Addr) (n c : Nat) (l : List Pt) (f t : Int) (w : World) (h : Rd w 2 A n c (pc l)) :
    Calls Try.prog 25 #[.slice A n c, .int .i64 f, .int .i64 t] w fun e w' => e = .returned (.int .i64 (sumV (rangeL l f t))) ∧ w.grownBy w' none := by
  have H := Lib.hid h
  clear h
  have HB0 := @range_ok l f t
  have HR0 := rangeI_any A n c l f t
  generalize rangeL l f t = L at HB0 HR0 ⊢
  have HB := Lib.hid HB0
  have HR := Lib.hid HR0
  clear HB0 HR0
  go_enter Try.func25, Try.ntmps25
  go_wp2_with fail
  refine (HR.out _ H.out).mono ?_
  rintro e w1 ⟨A1, c1, rfl, o1, g1⟩
  have hr := Rd.own o1
  have hL : L.length ≤ 16 := HB.out.1
  clear o1 H
  go_wp2
  go_loopw [7, 15] (fun q i wr => ∃ k : Nat, k ≤ L.length ∧ i = .int .i64 k ∧ q = .int .i64 (sumV (L.take k)) ∧ w1.grownBy wr none) (fun _ i _ => L.length - (intOf i).toNat)
  case atStart => exact ⟨0, Nat.zero_le _, rfl, rfl, g_refl _ _⟩
  case round =>
    obtain ⟨k, hk, rfl, rfl, hg⟩ := hrel
    by_cases hlt : k < L.length
    · obtain ⟨⟨x, v⟩, hx, -⟩ := get_ex (l := L) (i := k) hlt
      obtain ⟨b, o, rfl, hc⟩ := (hr.keptN hg).cells hlt
      have c0 := hc _ _ (pc_at hx).1
      have c1' := hc _ _ (pc_at hx).2
      simp only [Nat.add_zero, ← Nat.add_assoc] at c0 c1'
      have hlt' : (k : Int) < (L.length : Int) := by omega
      obtain ⟨⟨v1, v2⟩, ⟨s1, s2⟩, hs⟩ := sum_step HB.out hx
      have HS := Lib.hid hs
      generalize hS : sumV (L.take k) = S at *
      clear hc hx hs hr hS
      go_wp2
      go_roundw
      case rel => exact ⟨k + 1, by omega, by go_num, by rw [HS.out], by first | exact hg | exact g_trans hg (g_alloc _ _ _)⟩
      case measure => simp [intOf]; omega
    · have hge : ¬ (k : Int) < (L.length : Int) := by omega
      have HE : Hid (sumV (L.take k) = sumV L) := by show _ = _; rw [List.take_of_length_le (by omega)]
      go_wp2
      go_ret
      exact ⟨ret_i HE.out, g_trans g1 hg⟩
theorem sumI_at (A : Option Addr) (n c : Nat) (l : List Pt) (f t x : Int) (w : World) (h : Rd w 2 A n c (pc l)) (hx : sumV (rangeL l f t) = x) :
    Calls Try.prog 25 #[.slice A n c, .int .i64 f, .int .i64 t] w fun e w' => e = .returned (.int .i64 x) ∧ w.grownBy w' none := by
  subst hx
  exact sumI_any A n c l f t w h
set_option maxHeartbeats 800000 in
theorem sumS_any (A : Option Addr) (n c : Nat) (l : List Pt) (f t : Int) (w : World) (h : Rd w 2 A n c (pc l)) :
    Calls Try.prog 24 #[.slice A n c, .int .i64 f, .int .i64 t] w fun e w' => e = .returned (.int .i64 (sumV (rangeL l f t))) ∧ w.grownBy w' none := by
  have H := Lib.hid h
  clear h
  have HB0 := @range_ok l f t
  have HR0 := rangeS_any A n c l f t
  generalize rangeL l f t = L at HB0 HR0 ⊢
  have HB := Lib.hid HB0
  have HR := Lib.hid HR0
  clear HB0 HR0
  go_enter Try.func24, Try.ntmps24
  go_wp2_with fail
  refine (HR.out _ H.out).mono ?_
  rintro e w1 ⟨A1, c1, rfl, o1, g1⟩
  have hr := Rd.own o1
  have hL : L.length ≤ 16 := HB.out.1
  clear o1 H
  go_wp2
  go_loopw [7, 9] (fun q i wr => ∃ k : Nat, k ≤ L.length ∧ i = .int .i64 k ∧ q = .int .i64 (sumV (L.take k)) ∧ w1.grownBy wr none) (fun _ i _ => L.length - (intOf i).toNat)
  case atStart => exact ⟨0, Nat.zero_le _, rfl, rfl, g_refl _ _⟩
  case round =>
    obtain ⟨k, hk, rfl, rfl, hg⟩ := hrel
    by_cases hlt : k < L.length
    · obtain ⟨⟨x, v⟩, hx, -⟩ := get_ex (l := L) (i := k) hlt
      obtain ⟨b, o, rfl, hc⟩ := (hr.keptN hg).cells hlt
      have c0 := hc _ _ (pc_at hx).1
      have c1' := hc _ _ (pc_at hx).2
      simp only [Nat.add_zero, ← Nat.add_assoc] at c0 c1'
      have hlt' : (k : Int) < (L.length : Int) := by omega
      obtain ⟨⟨v1, v2⟩, ⟨s1, s2⟩, hs⟩ := sum_step HB.out hx
      have HS := Lib.hid hs
      generalize hS : sumV (L.take k) = S at *
      clear hc hx hs hr hS
      go_wp2
      go_roundw
      case rel => exact ⟨k + 1, by omega, by go_num, by rw [HS.out], by first | exact hg | exact g_trans hg (g_alloc _ _ _)⟩
      case measure => simp [intOf]; omega
    · have hge : ¬ (k : Int) < (L.length : Int) := by omega
      have HE : Hid (sumV (L.take k) = sumV L) := by show _ = _; rw [List.take_of_length_le (by omega)]
      go_wp2
      go_ret
      exact ⟨ret_i HE.out, g_trans g1 hg⟩
theorem sumS_at (A : Option Addr) (n c : Nat) (l : List Pt) (f t x : Int) (w : World) (h : Rd w 2 A n c (pc l)) (hx : sumV (rangeL l f t) = x) :
    Calls Try.prog 24 #[.slice A n c, .int .i64 f, .int .i64 t] w fun e w' => e = .returned (.int .i64 x) ∧ w.grownBy w' none := by
  subst hx
  exact sumS_any A n c l f t w h

def fallsL (l : List Pt) (f t : Int) : Int := if okR l f t then fallN (rangeL l f t) else -1
theorem falls_no {l : List Pt} {f t : Int} (h : okR l f t = false) : fallsL l f t = -1 := by unfold fallsL; rw [h]; rfl
theorem falls_yes {l : List Pt} {f t : Int} (h : okR l f t = true) : fallsL l f t = fallN (rangeL l f t) := by unfold fallsL; rw [h]; rfl
theorem fall_step {l : List Pt} {k : Nat} {t v t2 v2 : Int} (hx : l[k]? = some (t, v)) (hy : l[k + 1]? = some (t2, v2)) : fallN (l.take (k + 1 + 1)) = fallN (l.take (k + 1)) + if v2 < v then 1 else 0 := by
  rw [take_get' hy, take_get' hx, fallN_snoc]
theorem fall_one (l : List Pt) : fallN (l.take 1) = 0 := by
  cases l <;> simp [fallN]
theorem toInt_any (b : Bool) (w : World) : Calls Try.prog 50 #[.bool b] w fun e w' => e = .returned (.int .i64 (if b then 1 else 0)) ∧ w = w' := by
  cases b with
  | false =>
    go_enter Try.func50, Try.ntmps50
    go_wp2
    go_ret
    exact ⟨rfl, rfl⟩
  | true =>
    go_enter Try.func50, Try.ntmps50
    go_wp2
    go_ret
    exact ⟨rfl, rfl⟩
theorem toInt_at (b : Bool) (x : Int) (w : World) (h : (if b then 1 else 0) = x) : Calls Try.prog 50 #[.bool b] w fun e w' => e = .returned (.int .i64 x) ∧ w = w' := by
  subst h
  exact toInt_any b w
theorem askable_b (A : Option Addr) (n c : Nat) (l : List Pt) (f t : Int) (b : Bool) (w : World) (h : Rd w 2 A n c (pc l)) (hb : okR l f t = b) :
    Calls Try.prog 49 #[.slice A n c, .int .i64 f, .int .i64 t] w fun e w' => e = .returned (.bool b) ∧ w.grownBy w' none := by
  obtain ⟨p, hp⟩ : ∃ p, validL l = p := ⟨_, rfl⟩
  obtain ⟨r, hr⟩ : ∃ r, ((decide (-2000 ≤ f) && decide (f ≤ 2000)) && (decide (-2000 ≤ t) && decide (t ≤ 2000))) = r := ⟨_, rfl⟩
  have hpr : b = (p && r) := by rw [← hb, ← hp, ← hr]; unfold okR; rw [Bool.and_assoc]
  have HQ := Lib.hid (And.intro h (And.intro hp hr))
  subst hpr
  clear h hb hp hr
  cases p with
  | false =>
    go_enter Try.func49, Try.ntmps49
    go_wp2_with fail
    refine (validSS_at A n c l _ _ HQ.out.1 HQ.out.2.1).mono ?_
    rintro e w1 ⟨rfl, g1⟩
    go_wp2
    go_ret
    exact ⟨rfl, g1⟩
  | true =>
    go_enter Try.func49, Try.ntmps49
    go_wp2_with fail
    refine (validSS_at A n c l _ _ HQ.out.1 HQ.out.2.1).mono ?_
    rintro e w1 ⟨rfl, g1⟩
    go_wp2_with fail
    refine (validRangeS_b f t _ _ HQ.out.2.2).mono ?_
    rintro e w2 ⟨rfl, rfl⟩
    go_wp2
    go_ret
    exact ⟨rfl, g1⟩

attribute [local irreducible] wpQuiet
set_option maxHeartbeats 1600000 in
theorem fallI_any (A : Option Addr) (n c : Nat) (l : List Pt) (f t : Int) (w : World) (h : Rd w 2 A n c (pc l)) :
    Calls Try.prog 31 #[.slice A n c, .int .i64 f, .int .i64 t] w fun e w' => e = .returned (.int .i64 (fallsL l f t)) ∧ w.grownBy w' none := by
  have l1 : l.length = n := by have := h.len; rw [pc_len] at this; omega
  obtain ⟨q, hq⟩ : ∃ q, okR l f t = q := ⟨_, rfl⟩
  have HQ := Lib.hid (And.intro h hq)
  cases q with
  | false =>
    rw [falls_no hq]
    clear h hq l1
    go_enter Try.func31, Try.ntmps31
    go_wp2_with fail
    refine (validRangeI_b A n c l f t _ _ HQ.out.1 HQ.out.2).mono ?_
    rintro e w1 ⟨rfl, g1⟩
    go_wp2
    go_ret
    exact ⟨rfl, g1⟩
  | true =>
    rw [falls_yes hq]
    have hb := okR_iff.1 hq
    have hn : n ≤ 1000 := by have := ((validL_iff l).1 hb.1).1; omega
    obtain ⟨-, -, hb1, hb2⟩ := hb
    have HB0 := @range_ok l f t
    rw [range_yes hq] at HB0 ⊢
    have HR0 := fun w h => rangeI_yes A n c l f t w h hq
    generalize partL l f t = L at HB0 HR0 ⊢
    have HB := Lib.hid HB0
    have HR := Lib.hid HR0
    clear h hq l1 HB0 HR0
    go_enter Try.func31, Try.ntmps31
    go_wp2_with fail
    refine (validRangeI_b A n c l f t _ _ HQ.out.1 HQ.out.2).mono ?_
    rintro e w1 ⟨rfl, g1⟩
    go_wp2_with fail
    refine (HR.out _ (HQ.out.1.keptN g1)).mono ?_
    rintro e w2 ⟨A1, c1, rfl, o1, g2⟩
    have hr := Rd.own o1
    have G := g_trans g1 g2
    have hL : L.length ≤ 16 := HB.out.1
    clear o1 HQ g1 g2
    go_wp2
    go_loopw [8, 9] (fun q i wr => ∃ k : Nat, k ≤ L.length ∧ i = .int .i64 ((k : Int) + 1) ∧ q = .int .i64 (fallN (L.take (k + 1))) ∧ w2.grownBy wr none) (fun _ i _ => L.length + 1 - (intOf i).toNat)
    case atStart => exact ⟨0, Nat.zero_le _, rfl, by rw [fall_one], g_refl _ _⟩
    case round =>
      obtain ⟨k, hk, rfl, rfl, hg⟩ := hrel
      have hbd := fallN_bd (L.take (k + 1))
      have hbd2 : (L.take (k + 1)).length ≤ 16 := by rw [List.length_take]; omega
      have hbd3 : fallN (L.take (k + 1)) ≤ 16 := by omega
      by_cases hlt : k + 1 < L.length
      · obtain ⟨⟨x, v⟩, hx, -⟩ := get_ex (l := L) (i := k) (by omega)
        obtain ⟨⟨x2, v2⟩, hy, -⟩ := get_ex (l := L) (i := k + 1) hlt
        obtain ⟨b, o, rfl, hc⟩ := (hr.keptN hg).cells (i := k) (by omega)
        have c0 := hc _ _ (pc_at hx).2
        have c1' := hc _ _ (pc_at hy).2
        simp only [Nat.add_zero, ← Nat.add_assoc] at c0 c1'
        have hlt' : (k : Int) + 1 < (L.length : Int) := by omega
        have HS := Lib.hid (fall_step hx hy)
        generalize hS : fallN (L.take (k + 1)) = S at *
        obtain ⟨m, hm⟩ : ∃ m, m = k + 1 := ⟨_, rfl⟩
        have d0 := gw_cellW c0
        have hm1 : ((k : Int) + 1) = (m : Int) := by omega
        have hj1 : IntKind.i64.wrap ((m : Int) - 1) = (k : Int) := by rw [show ((m : Int) - 1) = (k : Int) by omega]; exact i64_in _ (by omega)
        rw [← hm] at c1'
        have d1 := gw_cellW c1'
        have hm2 : (m : Int) < (L.length : Int) := by omega
        have hk2 : (k : Int) < (L.length : Int) := by omega
        have HM := Lib.hid hm
        have hk3 : k + 1 ≤ L.length := by omega
        clear hc hx hy hr hS c0 c1' hbd2
        rw [hm1]
        rw [hm1] at hlt'
        clear hm hm1 hlt
        go_wp2_with fail
        refine wp_region_gw (W := wr) (by kernel_rfl) (by kernel_rfl) (g_refl _ _) ?_
        by_cases hd : v2 < v
        · have hd' : decide (v2 < v) = true := by simpa using hd
          rw [if_pos hd] at HS
          have e1 : IntKind.i64.wrap (S + 1) = S + 1 := i64_in _ (by omega)
          repeat (quiet_step ((go_at_call 50; exact gw_same (toInt_at true 1 _ rfl))))
          repeat (quiet_step (fail))
          refine wpQuiet_nil ?_
          rintro _ ⟨⟨w3, hg3⟩, rfl⟩
          go_wp2
          go_roundw
          case rel => exact ⟨k + 1, by omega, by have := HM.out; subst this; go_num, by rw [HS.out], g_trans hg hg3⟩
          case measure => have := HM.out; simp [intOf]; omega
        · have hd' : decide (v2 < v) = false := by simpa using hd
          rw [if_neg hd] at HS
          have e1 : IntKind.i64.wrap (S + 0) = S := by rw [Int.add_zero]; exact i64_in _ (by omega)
          have e2 : IntKind.i64.wrap S = S := i64_in _ (by omega)
          repeat (quiet_step ((go_at_call 50; exact gw_same (toInt_at false 0 _ rfl))))
          repeat (quiet_step (fail))
          refine wpQuiet_nil ?_
          rintro _ ⟨⟨w3, hg3⟩, rfl⟩
          go_wp2
          go_roundw
          case rel => exact ⟨k + 1, by omega, by have := HM.out; subst this; go_num, by rw [HS.out]; simp, g_trans hg hg3⟩
          case measure => have := HM.out; simp [intOf]; omega
      · have hge : ¬ (k : Int) + 1 < (L.length : Int) := by omega
        have HF : Hid (fallN (L.take (k + 1)) = fallN L) := by show _ = _; rw [List.take_of_length_le (by omega)]
        go_wp2
        go_ret
        exact ⟨ret_i HF.out, g_trans G hg⟩
theorem fallI_at (A : Option Addr) (n c : Nat) (l : List Pt) (f t x : Int) (w : World) (h : Rd w 2 A n c (pc l)) (hx : fallsL l f t = x) :
    Calls Try.prog 31 #[.slice A n c, .int .i64 f, .int .i64 t] w fun e w' => e = .returned (.int .i64 x) ∧ w.grownBy w' none := by
  subst hx
  exact fallI_any A n c l f t w h
set_option maxHeartbeats 1600000 in
theorem fallS_any (A : Option Addr) (n c : Nat) (l : List Pt) (f t : Int) (w : World) (h : Rd w 2 A n c (pc l)) :
    Calls Try.prog 30 #[.slice A n c, .int .i64 f, .int .i64 t] w fun e w' => e = .returned (.int .i64 (fallsL l f t)) ∧ w.grownBy w' none := by
  have l1 : l.length = n := by have := h.len; rw [pc_len] at this; omega
  obtain ⟨q, hq⟩ : ∃ q, okR l f t = q := ⟨_, rfl⟩
  have HQ := Lib.hid (And.intro h hq)
  cases q with
  | false =>
    rw [falls_no hq]
    clear h hq l1
    go_enter Try.func30, Try.ntmps30
    go_wp2_with fail
    refine (askable_b A n c l f t _ _ HQ.out.1 HQ.out.2).mono ?_
    rintro e w1 ⟨rfl, g1⟩
    go_wp2
    go_ret
    exact ⟨rfl, g1⟩
  | true =>
    rw [falls_yes hq]
    have hb := okR_iff.1 hq
    have hn : n ≤ 1000 := by have := ((validL_iff l).1 hb.1).1; omega
    obtain ⟨-, -, hb1, hb2⟩ := hb
    have HB0 := @range_ok l f t
    rw [range_yes hq] at HB0 ⊢
    have HR0 := fun w h => partS_any A n c l f t w h hn hb1 hb2
    generalize partL l f t = L at HB0 HR0 ⊢
    have HB := Lib.hid HB0
    have HR := Lib.hid HR0
    clear h hq l1 HB0 HR0
    go_enter Try.func30, Try.ntmps30
    go_wp2_with fail
    refine (askable_b A n c l f t _ _ HQ.out.1 HQ.out.2).mono ?_
    rintro e w1 ⟨rfl, g1⟩
    go_wp2_with fail
    refine (HR.out _ (HQ.out.1.keptN g1)).mono ?_
    rintro e w2 ⟨A1, c1, rfl, o1, g2⟩
    have hr := Rd.own o1
    have G := g_trans g1 g2
    have hL : L.length ≤ 16 := HB.out.1
    clear o1 HQ g1 g2
    go_wp2
    go_loopw [7, 9] (fun q i wr => ∃ k : Nat, k ≤ L.length ∧ i = .int .i64 ((k : Int) + 1) ∧ q = .int .i64 (fallN (L.take (k + 1))) ∧ w2.grownBy wr none) (fun _ i _ => L.length + 1 - (intOf i).toNat)
    case atStart => exact ⟨0, Nat.zero_le _, rfl, by rw [fall_one], g_refl _ _⟩
    case round =>
      obtain ⟨k, hk, rfl, rfl, hg⟩ := hrel
      have hbd := fallN_bd (L.take (k + 1))
      have hbd2 : (L.take (k + 1)).length ≤ 16 := by rw [List.length_take]; omega
      have hbd3 : fallN (L.take (k + 1)) ≤ 16 := by omega
      by_cases hlt : k + 1 < L.length
      · obtain ⟨⟨x, v⟩, hx, -⟩ := get_ex (l := L) (i := k) (by omega)
        obtain ⟨⟨x2, v2⟩, hy, -⟩ := get_ex (l := L) (i := k + 1) hlt
        obtain ⟨b, o, rfl, hc⟩ := (hr.keptN hg).cells (i := k) (by omega)
        have c0 := hc _ _ (pc_at hx).2
        have c1' := hc _ _ (pc_at hy).2
        simp only [Nat.add_zero, ← Nat.add_assoc] at c0 c1'
        have hlt' : (k : Int) + 1 < (L.length : Int) := by omega
        have HS := Lib.hid (fall_step hx hy)
        generalize hS : fallN (L.take (k + 1)) = S at *
        obtain ⟨m, hm⟩ : ∃ m, m = k + 1 := ⟨_, rfl⟩
        have d0 := gw_cellW c0
        have hm1 : ((k : Int) + 1) = (m : Int) := by omega
        have hj1 : IntKind.i64.wrap ((m : Int) - 1) = (k : Int) := by rw [show ((m : Int) - 1) = (k : Int) by omega]; exact i64_in _ (by omega)
        rw [← hm] at c1'
        have d1 := gw_cellW c1'
        have hm2 : (m : Int) < (L.length : Int) := by omega
        have hk2 : (k : Int) < (L.length : Int) := by omega
        have HM := Lib.hid hm
        have hk3 : k + 1 ≤ L.length := by omega
        clear hc hx hy hr hS c0 c1' hbd2
        rw [hm1]
        rw [hm1] at hlt'
        clear hm hm1 hlt
        go_wp2_with fail
        refine wp_region_gw (W := wr) (by kernel_rfl) (by kernel_rfl) (g_refl _ _) ?_
        by_cases hd : v2 < v
        · have hd' : decide (v2 < v) = true := by simpa using hd
          rw [if_pos hd] at HS
          have e1 : IntKind.i64.wrap (S + 1) = S + 1 := i64_in _ (by omega)
          repeat (quiet_step ((go_at_call 50; exact gw_same (toInt_at true 1 _ rfl))))
          repeat (quiet_step (fail))
          refine wpQuiet_nil ?_
          rintro _ ⟨⟨w3, hg3⟩, rfl⟩
          go_wp2
          go_roundw
          case rel => exact ⟨k + 1, by omega, by have := HM.out; subst this; go_num, by rw [HS.out], g_trans hg hg3⟩
          case measure => have := HM.out; simp [intOf]; omega
        · have hd' : decide (v2 < v) = false := by simpa using hd
          rw [if_neg hd] at HS
          have e1 : IntKind.i64.wrap (S + 0) = S := by rw [Int.add_zero]; exact i64_in _ (by omega)
          have e2 : IntKind.i64.wrap S = S := i64_in _ (by omega)
          repeat (quiet_step ((go_at_call 50; exact gw_same (toInt_at false 0 _ rfl))))
          repeat (quiet_step (fail))
          refine wpQuiet_nil ?_
          rintro _ ⟨⟨w3, hg3⟩, rfl⟩
          go_wp2
          go_roundw
          case rel => exact ⟨k + 1, by omega, by have := HM.out; subst this; go_num, by rw [HS.out]; simp, g_trans hg hg3⟩
          case measure => have := HM.out; simp [intOf]; omega
      · have hge : ¬ (k : Int) + 1 < (L.length : Int) := by omega
        have HF : Hid (fallN (L.take (k + 1)) = fallN L) := by show _ = _; rw [List.take_of_length_le (by omega)]
        go_wp2
        go_ret
        exact ⟨ret_i HF.out, g_trans G hg⟩
theorem fallS_at (A : Option Addr) (n c : Nat) (l : List Pt) (f t x : Int) (w : World) (h : Rd w 2 A n c (pc l)) (hx : fallsL l f t = x) :
    Calls Try.prog 30 #[.slice A n c, .int .i64 f, .int .i64 t] w fun e w' => e = .returned (.int .i64 x) ∧ w.grownBy w' none := by
  subst hx
  exact fallS_any A n c l f t w h
end Go.Proofs.Ytceihlnmaeikdaa
