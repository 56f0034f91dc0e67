/- Contracts of GetVar, of the program and of the reference. -/
import Derived.Test.YtcgeagcfhjdpcaaProg
import Derived.Test.YtcgeagcfhjdpcaaVar
namespace Go.Proofs.Ytcgeagcfhjdpcaa
set_option linter.unusedVariables false
open Go.RowKit

def getI (i : Nat) (n u : Int) : List Int → Int × Int × Bool
  | [] => (0, 0, false)
  | c :: r => if 200000 < n + c % 128 * u then (0, 0, false) else if c < 128 then (if c = 0 ∧ 0 < i then (0, 0, false) else (n + c % 128 * u, i + 1, true)) else if i = 3 then (0, 0, false) else getI (i + 1) (n + c % 128 * u) (u * 128) r
def getS (i : Nat) (n u : Int) : List Int → Int × Int
  | [] => (0, 0)
  | c :: r => if i < 3 then (if c < 128 then (if 200000 < n + u * (c % 128) ∨ (0 < i ∧ c = 0) then (0, 0) else (n + u * (c % 128), i + 1)) else getS (i + 1) (n + u * (c % 128)) (u * 128) r) else (0, 0)
def mk3 (p : Int × Int) : Int × Int × Bool := (p.1, p.2, decide (0 < p.2))
def get3 (l : List Int) : Int × Int × Bool := mk3 (getV l)

theorem ite_eqs {α : Type} {p q : Prop} [Decidable p] [Decidable q] {a b c d : α} (h : p ↔ q) (h1 : q → a = c) (h2 : ¬ q → b = d) : (if p then a else b) = (if q then c else d) := by
  by_cases hq : q
  · rw [if_pos (h.2 hq), if_pos hq]; exact h1 hq
  · rw [if_neg (fun hp => hq (h.1 hp)), if_neg hq]; exact h2 hq

theorem getS_eq {l : List Int} (h : By l) : getS 0 0 1 l = getV l := by
  match l with
  | [] => rfl
  | a :: r =>
    have ha := h a (by simp)
    simp only [getS, getV]
    rw [if_pos (by omega)]
    refine ite_eqs Iff.rfl (fun h1 => ?_) (fun h1 => ?_)
    · rw [if_neg (by omega)]
      ext <;> simp <;> omega
    · match r with
      | [] => rfl
      | b :: r =>
        have hb := h b (by simp)
        simp only [getS]
        rw [if_pos (by omega)]
        refine ite_eqs Iff.rfl (fun h2 => ?_) (fun h2 => ?_)
        · refine ite_eqs (by omega) (fun _ => rfl) (fun h3 => ?_)
          ext <;> simp <;> omega
        · match r with
          | [] => rfl
          | c :: r =>
            have hc := h c (by simp)
            simp only [getS]
            rw [if_pos (by omega)]
            refine ite_eqs Iff.rfl (fun h3 => ?_) (fun h3 => ?_)
            · refine ite_eqs (by omega) (fun _ => rfl) (fun h4 => ?_)
              ext <;> simp <;> omega
            · match r with
              | [] => rfl
              | d :: r => simp [getS]

theorem getI_eq {l : List Int} (h : By l) : getI 0 0 1 l = get3 l := by
  unfold get3
  match l with
  | [] => rfl
  | a :: r =>
    have ha := h a (by simp)
    simp only [getI, getV]
    rw [if_neg (by omega)]
    by_cases h1 : a < 128
    · rw [if_pos h1, if_neg (by omega), if_pos h1]
      unfold mk3; ext <;> simp <;> omega
    · rw [if_neg h1, if_neg (by omega), if_neg h1]
      match r with
      | [] => rfl
      | b :: r =>
        have hb := h b (by simp)
        simp only [getI]
        rw [if_neg (by omega)]
        by_cases h2 : b < 128
        · rw [if_pos h2, if_pos h2]
          by_cases h3 : b = 0
          · rw [if_pos ⟨h3, by omega⟩, if_pos h3]; rfl
          · rw [if_neg (by omega), if_neg h3]
            unfold mk3; ext <;> simp <;> omega
        · rw [if_neg h2, if_neg (by omega), if_neg h2]
          match r with
          | [] => rfl
          | c :: r =>
            have hc := h c (by simp)
            simp only [getI]
            by_cases h3 : c < 128
            · rw [if_pos (show c < 128 from h3), if_pos (show c < 128 from h3)]
              by_cases h4 : c = 0 ∨ 200000 < a - 128 + 128 * (b - 128) + 16384 * c
              · rw [if_pos h4]
                by_cases h5 : 200000 < 0 + a % 128 * 1 + b % 128 * (1 * 128) + c % 128 * (1 * 128 * 128)
                · rw [if_pos h5]; rfl
                · rw [if_neg h5, if_pos ⟨by omega, by omega⟩]; rfl
              · rw [if_neg h4, if_neg (by omega), if_neg (by omega)]
                unfold mk3; ext <;> simp <;> omega
            · rw [if_neg (show ¬ c < 128 from h3), if_neg (show ¬ c < 128 from h3)]
              by_cases h5 : 200000 < 0 + a % 128 * 1 + b % 128 * (1 * 128) + c % 128 * (1 * 128 * 128)
              · rw [if_pos h5]; rfl
              · rw [if_neg h5, if_neg (by omega)]
                match r with
                | [] => rfl
                | d :: r =>
                  have hd := h d (by simp)
                  simp only [getI]
                  by_cases h6 : 200000 < 0 + a % 128 * 1 + b % 128 * (1 * 128) + c % 128 * (1 * 128 * 128) + d % 128 * (1 * 128 * 128 * 128)
                  · rw [if_pos h6]; rfl
                  · rw [if_neg h6]
                    by_cases h7 : d < 128
                    · rw [if_pos h7, if_pos ⟨by omega, by omega⟩]; rfl
                    · rw [if_neg h7, if_pos trivial]; rfl

def end3 (r : Int × Int × Bool) : Ending := .returned (.tuple #[.int .i64 r.1, .int .i64 r.2.1, .bool r.2.2])
def end2 (r : Int × Int) : Ending := .returned (.tuple #[.int .i64 r.1, .int .i64 r.2])

set_option maxHeartbeats 1600000 in
theorem getVI_any (A : Option Addr) (n c : Nat) (l : List Int) (w : World) (h1 : Rd w 1 A n c (bc l)) (hb : By l) :
    Calls Try.prog 79 #[.slice A n c] w fun e w' => e = end3 (get3 l) ∧ w.grownBy w' none := by
  have l1 : l.length = n := by have := h1.len; rw [bc_len] at this; omega
  have H1 := Lib.hid l1
  have nb : n ≤ 9223372036854775807 := Nat.le_trans h1.cap h1.lim
  have HE : Hid (get3 l = getI 0 0 1 (l.drop 0)) := (getI_eq hb).symm
  have HB : Hid (By l) := hb
  clear l1 hb
  go_enter Try.func79, Try.ntmps79
  go_wp2
  go_loopw [5, 6, 11] (fun a b i wr => ∃ (k : Nat) (m u : Int), k ≤ n ∧ i = .int .i64 k ∧ a = .int .i64 m ∧ b = .int .i64 u ∧ 0 ≤ m ∧ m ≤ 200000 ∧ w = wr ∧ (k = 0 ∧ u = 1 ∨ k = 1 ∧ u = 128 ∨ k = 2 ∧ u = 16384 ∨ k = 3 ∧ u = 2097152) ∧ Hid (get3 l = getI k m u (l.drop k))) (fun _ _ i _ => n - (intOf i).toNat)
  case atStart => exact ⟨0, 0, 1, Nat.zero_le _, rfl, rfl, rfl, by omega, by omega, rfl, .inl ⟨rfl, rfl⟩, HE⟩
  case round =>
    clear HE
    obtain ⟨k, m, u, hk, rfl, rfl, rfl, hm0, hm1, rfl, hu, hI⟩ := hrel
    by_cases hlt : k < n
    · obtain ⟨x, hx, hdx⟩ := get_ex (l := l) (i := k) (by have := H1.out; omega)
      have hxb := HB.out.at_ hx
      obtain ⟨b1, o1, rfl, hc1⟩ := h1.cells hlt
      have cx := hc1 _ _ (bc_at hx)
      have HX := Lib.hid hdx
      have x0 := hxb.1
      have x1 := hxb.2
      clear hc1 hx hdx h1 hxb
      have hlt' : (k : Int) < (n : Int) := by omega
      have hI2 : Hid (get3 l = if 200000 < m + x % 128 * u then (0, 0, false) else if x < 128 then (if x = 0 ∧ 0 < k then (0, 0, false) else (m + x % 128 * u, (k : Int) + 1, true)) else if k = 3 then (0, 0, false) else getI (k + 1) (m + x % 128 * u) (u * 128) (l.drop (k + 1))) := by
        show _ = _
        rw [hI.out, HX.out]; rfl
      clear hI HX H1 HB
      rcases hu with ⟨rfl, rfl⟩ | ⟨rfl, rfl⟩ | ⟨rfl, rfl⟩ | ⟨rfl, rfl⟩
      · have hI3 := Lib.hid hI2.out
        clear hI2
        rw [Nat.add_zero] at cx
        simp only [Int.mul_one] at hI3
        by_cases a1 : 200000 < m + x % 128
        · rw [if_pos a1] at hI3
          go_wp2
          go_ret3
          exact ⟨by rw [hI3.out]; rfl, g_refl _ _⟩
        · rw [if_neg a1] at hI3
          by_cases a2 : x < 128
          · rw [if_pos a2] at hI3
            by_cases a3 : x = 0
            · have a4 : (x == 0) = true := by simpa using a3
              have a5 : Hid (x = 0) := a3
              clear a3
              rw [if_neg (by omega)] at hI3
              go_wp2
              go_ret3
              exact ⟨by rw [hI3.out]; rfl, g_refl _ _⟩
            · have a4 : (x == 0) = false := by simpa using a3
              rw [if_neg (by omega)] at hI3
              go_wp2
              go_ret3
              exact ⟨by rw [hI3.out]; rfl, g_refl _ _⟩
          · rw [if_neg a2] at hI3
            rw [if_neg (by omega)] at hI3
            go_wp2
            go_roundw
            case rel => exact ⟨0 + 1, m + x % 128, 128, by omega, by go_num, by go_num, by go_num, by omega, by omega, by first | rfl | trivial, by omega, hI3⟩
            case measure => simp [intOf]; omega
      · have hI3 := Lib.hid hI2.out
        clear hI2
        by_cases a1 : 200000 < m + x % 128 * 128
        · rw [if_pos a1] at hI3
          go_wp2
          go_ret3
          exact ⟨by rw [hI3.out]; rfl, g_refl _ _⟩
        · rw [if_neg a1] at hI3
          by_cases a2 : x < 128
          · rw [if_pos a2] at hI3
            by_cases a3 : x = 0
            · have a4 : (x == 0) = true := by simpa using a3
              have a5 : Hid (x = 0) := a3
              clear a3
              rw [if_pos ⟨a5.out, by omega⟩] at hI3
              go_wp2
              go_ret3
              exact ⟨by rw [hI3.out]; rfl, g_refl _ _⟩
            · have a4 : (x == 0) = false := by simpa using a3
              rw [if_neg (by omega)] at hI3
              go_wp2
              go_ret3
              exact ⟨by rw [hI3.out]; rfl, g_refl _ _⟩
          · rw [if_neg a2] at hI3
            rw [if_neg (by omega)] at hI3
            go_wp2
            go_roundw
            case rel => exact ⟨1 + 1, m + x % 128 * 128, 128 * 128, by omega, by go_num, by go_num, by go_num, by omega, by omega, by first | rfl | trivial, by omega, hI3⟩
            case measure => simp [intOf]; omega
      · have hI3 := Lib.hid hI2.out
        clear hI2
        by_cases a1 : 200000 < m + x % 128 * 16384
        · rw [if_pos a1] at hI3
          go_wp2
          go_ret3
          exact ⟨by rw [hI3.out]; rfl, g_refl _ _⟩
        · rw [if_neg a1] at hI3
          by_cases a2 : x < 128
          · rw [if_pos a2] at hI3
            by_cases a3 : x = 0
            · have a4 : (x == 0) = true := by simpa using a3
              have a5 : Hid (x = 0) := a3
              clear a3
              rw [if_pos ⟨a5.out, by omega⟩] at hI3
              go_wp2
              go_ret3
              exact ⟨by rw [hI3.out]; rfl, g_refl _ _⟩
            · have a4 : (x == 0) = false := by simpa using a3
              rw [if_neg (by omega)] at hI3
              go_wp2
              go_ret3
              exact ⟨by rw [hI3.out]; rfl, g_refl _ _⟩
          · rw [if_neg a2] at hI3
            rw [if_neg (by omega)] at hI3
            go_wp2
            go_roundw
            case rel => exact ⟨2 + 1, m + x % 128 * 16384, 16384 * 128, by omega, by go_num, by go_num, by go_num, by omega, by omega, by first | rfl | trivial, by omega, hI3⟩
            case measure => simp [intOf]; omega
      · have hI3 := Lib.hid hI2.out
        clear hI2
        by_cases a1 : 200000 < m + x % 128 * 2097152
        · rw [if_pos a1] at hI3
          go_wp2
          go_ret3
          exact ⟨by rw [hI3.out]; rfl, g_refl _ _⟩
        · rw [if_neg a1] at hI3
          by_cases a2 : x < 128
          · rw [if_pos a2] at hI3
            by_cases a3 : x = 0
            · have a4 : (x == 0) = true := by simpa using a3
              have a5 : Hid (x = 0) := a3
              clear a3
              rw [if_pos ⟨a5.out, by omega⟩] at hI3
              go_wp2
              go_ret3
              exact ⟨by rw [hI3.out]; rfl, g_refl _ _⟩
            · exfalso; omega
          · rw [if_neg a2] at hI3
            rw [if_pos rfl] at hI3
            go_wp2
            go_ret3
            exact ⟨by rw [hI3.out]; rfl, g_refl _ _⟩
    · have hge : ¬ (k : Int) < (n : Int) := by omega
      have HH : Hid (get3 l = (0, 0, false)) := by
        show _ = _
        rw [hI.out, List.drop_eq_nil_of_le (by have := H1.out; omega)]; rfl
      clear hI hu
      go_wp2
      go_ret3
      exact ⟨by rw [HH.out]; rfl, g_refl _ _⟩

set_option maxHeartbeats 1600000 in
theorem getVS_any (A : Option Addr) (n c : Nat) (l : List Int) (w : World) (h1 : Rd w 1 A n c (bc l)) (hb : By l) :
    Calls Try.prog 61 #[.slice A n c] w fun e w' => e = end2 (getV l) ∧ w.grownBy w' none := by
  have l1 : l.length = n := by have := h1.len; rw [bc_len] at this; omega
  have H1 := Lib.hid l1
  have nb : n ≤ 9223372036854775807 := Nat.le_trans h1.cap h1.lim
  have HE : Hid (getV l = getS 0 0 1 (l.drop 0)) := (getS_eq hb).symm
  have HB : Hid (By l) := hb
  clear l1 hb
  go_enter Try.func61, Try.ntmps61
  go_wp2
  go_loopw [4, 5, 6] (fun a b i wr => ∃ (k : Nat) (m u : Int), k ≤ n ∧ i = .int .i64 k ∧ a = .int .i64 m ∧ b = .int .i64 u ∧ 0 ≤ m ∧ m ≤ 3000000 ∧ w = wr ∧ (k = 0 ∧ u = 1 ∧ m = 0 ∨ k = 1 ∧ u = 128 ∧ m ≤ 127 ∨ k = 2 ∧ u = 16384 ∧ m ≤ 16383 ∨ k = 3 ∧ u = 2097152) ∧ Hid (getV l = getS k m u (l.drop k))) (fun _ _ i _ => n - (intOf i).toNat)
  case atStart => exact ⟨0, 0, 1, Nat.zero_le _, rfl, rfl, rfl, by omega, by omega, rfl, .inl ⟨rfl, rfl, rfl⟩, HE⟩
  case round =>
    clear HE
    obtain ⟨k, m, u, hk, rfl, rfl, rfl, hm0, hm1, rfl, hu, hI⟩ := hrel
    by_cases hlt : k < n
    · obtain ⟨x, hx, hdx⟩ := get_ex (l := l) (i := k) (by have := H1.out; omega)
      have hxb := HB.out.at_ hx
      obtain ⟨b1, o1, rfl, hc1⟩ := h1.cells hlt
      have cx := hc1 _ _ (bc_at hx)
      have HX := Lib.hid hdx
      have x0 := hxb.1
      have x1 := hxb.2
      clear hc1 hx hdx h1 hxb
      have hlt' : (k : Int) < (n : Int) := by omega
      have hlt2 : decide ((k : Int) < (n : Int)) = true := by simpa using hlt
      have hI2 : Hid (getV l = if k < 3 then (if x < 128 then (if 200000 < m + u * (x % 128) ∨ (0 < k ∧ x = 0) then (0, 0) else (m + u * (x % 128), (k : Int) + 1)) else getS (k + 1) (m + u * (x % 128)) (u * 128) (l.drop (k + 1))) else (0, 0)) := by
        show _ = _
        rw [hI.out, HX.out]; rfl
      clear hI HX H1 HB
      rcases hu with ⟨rfl, rfl, rfl⟩ | ⟨rfl, rfl, hm⟩ | ⟨rfl, rfl, hm⟩ | ⟨rfl, rfl⟩
      · have hI3 := Lib.hid hI2.out
        clear hI2
        rw [if_pos (by omega)] at hI3
        rw [Nat.add_zero] at cx
        simp only [Int.one_mul, Int.zero_add] at hI3
        by_cases a2 : x < 128
        · rw [if_pos a2] at hI3
          by_cases a1 : 200000 < x % 128
          · have b1 : decide (200000 < x % 128) = true := by simpa using a1
            rw [if_pos (.inl a1)] at hI3
            go_wp2
            go_ret2
            exact ⟨by rw [hI3.out]; rfl, g_refl _ _⟩
          · have b1 : decide (200000 < x % 128) = false := by simpa using a1
            by_cases a3 : x = 0
            · have a4 : (x == 0) = true := by simpa using a3
              have a5 : Hid (x = 0) := a3
              clear a3
              rw [if_neg (by omega)] at hI3
              go_wp2
              go_ret2
              exact ⟨by rw [hI3.out]; rfl, g_refl _ _⟩
            · have a4 : (x == 0) = false := by simpa using a3
              rw [if_neg (by omega)] at hI3
              go_wp2
              go_ret2
              exact ⟨by rw [hI3.out]; rfl, g_refl _ _⟩
        · rw [if_neg a2] at hI3
          go_wp2
          go_roundw
          case rel => exact ⟨0 + 1, x % 128, 128, by omega, by go_num, by go_num, by go_num, by omega, by omega, by first | rfl | trivial, by omega, hI3⟩
          case measure => simp [intOf]; omega
      · have hI3 := Lib.hid hI2.out
        clear hI2
        rw [if_pos (by omega)] at hI3
        by_cases a2 : x < 128
        · rw [if_pos a2] at hI3
          by_cases a1 : 200000 < m + 128 * (x % 128)
          · exfalso; omega
          · have b1 : decide (200000 < m + 128 * (x % 128)) = false := by simpa using a1
            by_cases a3 : x = 0
            · have a4 : (x == 0) = true := by simpa using a3
              have a5 : Hid (x = 0) := a3
              clear a3
              rw [if_pos (.inr ⟨by omega, a5.out⟩)] at hI3
              go_wp2
              go_ret2
              exact ⟨by rw [hI3.out]; rfl, g_refl _ _⟩
            · have a4 : (x == 0) = false := by simpa using a3
              rw [if_neg (by omega)] at hI3
              go_wp2
              go_ret2
              exact ⟨by rw [hI3.out]; rfl, g_refl _ _⟩
        · rw [if_neg a2] at hI3
          go_wp2
          go_roundw
          case rel => exact ⟨1 + 1, m + 128 * (x % 128), 128 * 128, by omega, by go_num, by go_num, by go_num, by omega, by omega, by first | rfl | trivial, by omega, hI3⟩
          case measure => simp [intOf]; omega
      · have hI3 := Lib.hid hI2.out
        clear hI2
        rw [if_pos (by omega)] at hI3
        by_cases a2 : x < 128
        · rw [if_pos a2] at hI3
          by_cases a1 : 200000 < m + 16384 * (x % 128)
          · have b1 : decide (200000 < m + 16384 * (x % 128)) = true := by simpa using a1
            rw [if_pos (.inl a1)] at hI3
            go_wp2
            go_ret2
            exact ⟨by rw [hI3.out]; rfl, g_refl _ _⟩
          · have b1 : decide (200000 < m + 16384 * (x % 128)) = false := by simpa using a1
            by_cases a3 : x = 0
            · have a4 : (x == 0) = true := by simpa using a3
              have a5 : Hid (x = 0) := a3
              clear a3
              rw [if_pos (.inr ⟨by omega, a5.out⟩)] at hI3
              go_wp2
              go_ret2
              exact ⟨by rw [hI3.out]; rfl, g_refl _ _⟩
            · have a4 : (x == 0) = false := by simpa using a3
              rw [if_neg (by omega)] at hI3
              go_wp2
              go_ret2
              exact ⟨by rw [hI3.out]; rfl, g_refl _ _⟩
        · rw [if_neg a2] at hI3
          go_wp2
          go_roundw
          case rel => exact ⟨2 + 1, m + 16384 * (x % 128), 16384 * 128, by omega, by go_num, by go_num, by go_num, by omega, by omega, by first | rfl | trivial, by omega, hI3⟩
          case measure => simp [intOf]; omega
      · have hI3 := Lib.hid hI2.out
        clear hI2
        rw [if_neg (by omega)] at hI3
        go_wp2
        go_ret2
        exact ⟨by rw [hI3.out]; rfl, g_refl _ _⟩
    · have hge : ¬ (k : Int) < (n : Int) := by omega
      have hge2 : decide ((k : Int) < (n : Int)) = false := by simpa using hge
      have HH : Hid (getV l = (0, 0)) := by
        show _ = _
        rw [hI.out, List.drop_eq_nil_of_le (by have := H1.out; omega)]; rfl
      clear hI hu
      go_wp2
      go_ret2
      exact ⟨by rw [HH.out]; rfl, g_refl _ _⟩
end Go.Proofs.Ytcgeagcfhjdpcaa
