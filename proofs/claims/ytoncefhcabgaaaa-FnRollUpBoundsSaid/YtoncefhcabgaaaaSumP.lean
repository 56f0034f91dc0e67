/- The contract of the laws' own sum over points. -/
import Derived.Test.YtoncefhcabgaaaaProg
import Derived.Test.YtoncefhcabgaaaaSer
import Derived.Test.YtoncefhcabgaaaaRng
import Derived.Test.YtoncefhcabgaaaaPlainE6
namespace Go.Proofs.Ytoncefhcabgaaaa
set_option linter.unusedVariables false
open Go.RowKit

theorem gw_kept {W : World} {x : GW W} {size n c : Nat} {A : Option Addr} {xs : List Value} (h : Rd W size A n c xs) : Rd x.1 size A n c xs := h.keptN x.2
set_option maxHeartbeats 800000 in
theorem sumOf_any (A : Option Addr) (n c : Nat) (l : List Pt) (w : World) (h : Rd w 2 A n c (pc l)) (hn : n ≤ 1000) (hb : ∀ p ∈ l, -1000 ≤ p.2 ∧ p.2 ≤ 1000) :
    Calls Try.prog 18 #[.slice A n c] w fun e w' => e = .returned (.int .i64 (sumV l)) ∧ w.grownBy w' none := by
  have hlen : l.length = n := by have := h.len; rw [pc_len] at this; omega
  have H1 := Lib.hid hlen
  have HB := Lib.hid hb
  clear hlen hb
  go_enter Try.func18, Try.ntmps18
  go_wp2
  go_loopw [3, 4] (fun a i wr => ∃ k : Nat, k ≤ n ∧ i = .int .i64 k ∧ a = .int .i64 (sumV (l.take k)) ∧ wr = w) (fun _ i _ => n - (intOf i).toNat)
  case atStart => exact ⟨0, Nat.zero_le _, rfl, by simp [sumV], rfl⟩
  case round =>
    obtain ⟨k, hk, rfl, rfl, hwk⟩ := hrel
    subst hwk
    by_cases hlt : k < n
    · obtain ⟨⟨t, v⟩, hx, -⟩ := get_ex (l := l) (i := k) (by have := H1.out; omega)
      have b0 := sumV_bd (l := l.take k) (fun p hp => HB.out p (List.mem_of_mem_take hp))
      have hll : (l.take k).length ≤ 1000 := by rw [List.length_take]; omega
      have bx := HB.out _ (List.mem_of_getElem? hx)
      have q2 := sumV_snoc hx
      obtain ⟨b1, o1, rfl, hc1⟩ := h.cells hlt
      have cx := hc1 _ _ (pc_at hx).2
      simp only [← Nat.add_assoc] at cx
      have hlt' : (k : Int) < (n : Int) := by omega
      have hw2 : IntKind.i64.wrap (sumV (l.take k) + v) = sumV (l.take k) + v := IntWalk.i64_in _ (by simp only at bx; omega)
      have Q2 := Lib.hid q2
      clear hx hc1 b0 hll bx q2
      go_wp2
      go_roundw
      case rel => exact ⟨k + 1, by omega, by go_num, by rw [Q2.out], by trivial⟩
      case measure => simp [intOf]; omega
    · have hge : ¬ (k : Int) < (n : Int) := by omega
      have e1 : sumV (l.take k) = sumV l := by rw [List.take_of_length_le (by have := H1.out; omega)]
      rw [e1]
      go_wp2
      go_ret
      exact ⟨rfl, g_refl _ _⟩
theorem sumOf_at (A : Option Addr) (n c : Nat) (l : List Pt) (u : Int) (w : World) (h : Rd w 2 A n c (pc l)) (hn : n ≤ 1000) (hb : ∀ p ∈ l, -1000 ≤ p.2 ∧ p.2 ≤ 1000) (hu : sumV l = u) :
    Calls Try.prog 18 #[.slice A n c] w fun e w' => e = .returned (.int .i64 u) ∧ w.grownBy w' none := by
  subst hu
  exact sumOf_any A n c l w h hn hb
theorem rangeI_at2 (A : Option Addr) (n c : Nat) (l : List Pt) (f t : Int) (L : List Pt) (w : World) (h : Rd w 2 A n c (pc l)) (hv : rangeL l f t = L) :
    Calls Try.prog 17 #[.slice A n c, .int .i64 f, .int .i64 t] w fun e w' => ∃ A' c', e = .returned (.slice A' L.length c') ∧ w'.ownsRow w.heap.size 33 2 (.slice A' L.length c') L.length (pc L) ∧ w.grownBy w' none := by
  subst hv
  exact rangeI_any A n c l f t w h
end Go.Proofs.Ytoncefhcabgaaaa
