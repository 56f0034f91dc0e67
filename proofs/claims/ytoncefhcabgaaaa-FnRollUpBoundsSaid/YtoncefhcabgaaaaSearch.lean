/- The contract of sort.Search with the program's two closures over a series: the first place whose time is greater than, or at least, a time. -/
import Derived.Test.YtoncefhcabgaaaaProg
import Derived.Test.YtoncefhcabgaaaaQuiet
import Derived.Deep.LoopGhost
namespace Go.Proofs.Ytoncefhcabgaaaa
set_option linter.unusedVariables false
open Go.RowKit

/-- the closure -/
theorem searchP_fn (ba bx : Nat) (A : Option Addr) (n c : Nat) (l : List Pt) (x : Int) (i : Nat) (t v : Int) (w : World) (ha : w.cell? ⟨ba, 0, none⟩ = some (.slice A n c)) (hx : w.cell? ⟨bx, 0, none⟩ = some (.int .i64 x)) (h : Rd w 2 A n c (pc l)) (hi : l[i]? = some (t, v)) :
    Calls Try.prog 43 #[.int .i64 i, .pointer (some ⟨ba, 0, none⟩), .pointer (some ⟨bx, 0, none⟩)] w fun e w' => e = .returned (.bool (decide (x ≤ t))) ∧ w.grownBy w' none := by
  have l1 : l.length = n := by have := h.len; rw [pc_len] at this; omega
  have hin : i < n := by have := (List.getElem?_eq_some_iff.1 hi).1; omega
  have nb : n ≤ 9223372036854775807 := Nat.le_trans h.cap h.lim
  have hin' : (i : Int) < (n : Int) := by omega
  obtain ⟨b, o, rfl, hc⟩ := h.cells hin
  have c0 := hc _ _ (pc_at hi).1
  simp at c0
  clear hc h l1 hi
  go_enter Try.func43, Try.ntmps43
  go_wp2
  go_quiet (fail)
  go_wp2
  go_ret
  exact ⟨rfl, g_drewN _ _ _⟩

set_option maxHeartbeats 1600000 in
theorem searchP_any (ba bx : Nat) (n : Nat) (p : Nat → Bool) (w : World) (hn : n ≤ 1000)
    (hf : ∀ i, i < n → ∀ W', w.grownBy W' none → Calls Try.prog 43 #[.int .i64 i, .pointer (some ⟨ba, 0, none⟩), .pointer (some ⟨bx, 0, none⟩)] W' fun e w'' => e = .returned (.bool (p i)) ∧ W'.grownBy w'' none)
    (hmono : ∀ a b, a ≤ b → b < n → p a = true → p b = true) :
    Calls Try.prog 42 #[.int .i64 n, .func (.func 43) #[] #[.pointer (some ⟨ba, 0, none⟩), .pointer (some ⟨bx, 0, none⟩)]] w fun e w' => ∃ r : Nat, e = .returned (.int .i64 r) ∧ r ≤ n ∧ Hid ((∀ t, t < r → p t = false) ∧ ∀ t, r ≤ t → t < n → p t = true) ∧ w.grownBy w' none := by
  have HF := Lib.hid hf
  have HM := Lib.hid hmono
  clear hf hmono
  go_enter Try.func42, Try.ntmps42
  go_wp2
  go_loopg [5, 6] n (fun kx s5 s6 wr => ∃ (lo hi : Nat), s5 = .int .i64 lo ∧ s6 = .int .i64 hi ∧ lo ≤ hi ∧ hi ≤ n ∧ hi - lo ≤ kx ∧ w.grownBy wr none ∧ Hid ((∀ t, t < lo → p t = false) ∧ (∀ t, hi ≤ t → t < n → p t = true)))
  case atStart => exact ⟨0, n, rfl, rfl, Nat.zero_le _, Nat.le_refl _, by omega, g_refl _ _, (⟨fun t ht => absurd ht (Nat.not_lt_zero _), fun t h1 h2 => by omega⟩ : (∀ t, t < 0 → p t = false) ∧ (∀ t, n ≤ t → t < n → p t = true))⟩
  case round =>
    obtain ⟨lo, hi, rfl, rfl, hlh, hin, hk, hg, I⟩ := hrel
    by_cases hlt : lo < hi
    · have hc := HF.out ((lo + hi) / 2) (by omega) wr hg
      rw [show (((lo + hi) / 2 : Nat) : Int) = ((lo : Int) + (hi : Int)) / 2 by omega] at hc
      obtain ⟨q, hq⟩ : ∃ q, p ((lo + hi) / 2) = q := ⟨_, rfl⟩
      rw [hq] at hc
      have HQ := Lib.hid hq
      have HC := Lib.hid hc
      clear hc hq
      go_wp2_with fail
      refine HC.out.mono ?_
      rintro e w2 ⟨rfl, hg2⟩
      have hg3 := g_trans hg hg2
      clear HC hg hg2
      cases q with
      | false =>
        go_wp2
        go_roundg (hi - ((lo + hi) / 2 + 1))
        case measure => omega
        case rel =>
          refine ⟨(lo + hi) / 2 + 1, hi, by rw [show ((lo : Int) + (hi : Int)) / 2 + 1 = (((lo + hi) / 2 + 1 : Nat) : Int) by omega], rfl, by omega, hin, Nat.le_refl _, hg3, ?_⟩
          refine (⟨fun t ht => ?_, I.out.2⟩ : _ ∧ _)
          cases h : p t with
          | false => rfl
          | true => have := HM.out t ((lo + hi) / 2) (by omega) (by omega) h; rw [HQ.out] at this; cases this
      | true =>
        go_wp2
        go_roundg ((lo + hi) / 2 - lo)
        case measure => omega
        case rel =>
          exact ⟨lo, (lo + hi) / 2, rfl, by rw [show ((lo : Int) + (hi : Int)) / 2 = (((lo + hi) / 2 : Nat) : Int) by omega], by omega, by omega, Nat.le_refl _, hg3, (⟨I.out.1, fun t ht htn => HM.out ((lo + hi) / 2) t ht htn HQ.out⟩ : _ ∧ _)⟩
    · obtain rfl : hi = lo := by omega
      go_wp2
      go_ret
      exact ⟨hi, rfl, hin, I, hg⟩
end Go.Proofs.Ytoncefhcabgaaaa
