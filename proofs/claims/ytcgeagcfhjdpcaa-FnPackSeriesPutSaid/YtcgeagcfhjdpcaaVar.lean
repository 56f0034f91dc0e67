/- Contracts of PutVar and GetVar, of the program and of the reference; the plain functions beside them. -/
import Derived.Test.YtcgeagcfhjdpcaaProg
import Derived.Test.YtcgeagcfhjdpcaaWords
import Derived.Test.YtcgeagcfhjdpcaaNum
import Derived.Test.YtcgeagcfhjdpcaaMark
namespace Go.Proofs.Ytcgeagcfhjdpcaa
set_option linter.unusedVariables false
open Go.RowKit

/-- the bytes of a number from 0 on, below 2 to the 21st -/
def putL (n : Int) : List Int := if n < 128 then [n] else if n < 16384 then [n % 128 + 128, n / 128] else [n % 128 + 128, n / 128 % 128 + 128, n / 16384]
def putV (n : Int) : List Int := if 0 ≤ n ∧ n ≤ 200000 then putL n else []
theorem putL_small {n : Int} (h : n < 128) : putL n = [n] := if_pos h
theorem putL_step {n : Int} (h : 128 ≤ n) (h2 : n < 2097152) : putL n = (n % 128 + 128) :: putL (n / 128) := by
  unfold putL
  rw [if_neg (by omega)]
  by_cases h3 : n < 16384
  · rw [if_pos h3, if_pos (by omega)]
  · rw [if_neg h3, if_neg (by omega), if_pos (by omega)]
    have : n / 128 / 128 = n / 16384 := by omega
    rw [this]
theorem putL_by {n : Int} (h : 0 ≤ n) (h2 : n < 2097152) : By (putL n) := by
  unfold putL By
  split
  · intro x hx; simp at hx; omega
  · split
    · intro x hx; simp at hx; omega
    · intro x hx; simp at hx; omega
theorem putL_len {n : Int} : 1 ≤ (putL n).length ∧ (putL n).length ≤ 3 := by
  unfold putL
  split
  · simp
  · split <;> simp
theorem putV_in {n : Int} (h : 0 ≤ n) (h2 : n ≤ 200000) : putV n = putL n := if_pos ⟨h, h2⟩
theorem putV_out {n : Int} (h : n < 0 ∨ 200000 < n) : putV n = [] := if_neg (by omega)
theorem putV_by (n : Int) : By (putV n) := by
  unfold putV
  split
  · exact putL_by (by omega) (by omega)
  · intro x hx; simp at hx
theorem putV_len (n : Int) : (putV n).length ≤ 3 := by
  unfold putV
  split
  · exact putL_len.2
  · simp

/-- the number at the beginning of bytes, and how many bytes it has (0: none) -/
def getV : List Int → Int × Int
  | [] => (0, 0)
  | a :: r => if a < 128 then (a, 1) else match r with
    | [] => (0, 0)
    | b :: r => if b < 128 then (if b = 0 then (0, 0) else (a - 128 + 128 * b, 2)) else match r with
      | [] => (0, 0)
      | c :: _ => if c < 128 then (if c = 0 ∨ 200000 < a - 128 + 128 * (b - 128) + 16384 * c then (0, 0) else (a - 128 + 128 * (b - 128) + 16384 * c, 3)) else (0, 0)

theorem infoU8 : (Try.prog.info? 5).map (fun i => (i.zero, i.size, i.bytes)) = some (some (.int .u8 0), 1, 1) := by kernel_rfl

set_option maxHeartbeats 400000 in
theorem putS_last (n : Int) (w : World) (h0 : 0 ≤ n) (h1 : n < 128) :
    Calls Try.prog 77 #[.int .i64 n] w fun e w' => ∃ A c, e = .returned (.slice A (putL n).length c) ∧ w'.ownsRow w.heap.size 5 1 (.slice A (putL n).length c) (putL n).length (bc (putL n)) ∧ w.grownBy w' none := by
  rw [putL_small h1]
  go_enter Try.func77, Try.ntmps77
  go_wp2
  go_ret
  exact ⟨_, _, rfl, World.ownsRow_lit w #[.int .u8 n] 1 (Nat.le_refl _) (by simp [maxLen]) rfl, g_alloc _ _ _⟩

set_option maxHeartbeats 400000 in
theorem putS_step (n : Int) (w : World) (h0 : 128 ≤ n) (h1 : n < 2097152)
    (ih : ∀ w : World, Calls Try.prog 77 #[.int .i64 (n / 128)] w fun e w' => ∃ A c, e = .returned (.slice A (putL (n / 128)).length c) ∧ w'.ownsRow w.heap.size 5 1 (.slice A (putL (n / 128)).length c) (putL (n / 128)).length (bc (putL (n / 128))) ∧ w.grownBy w' none) :
    Calls Try.prog 77 #[.int .i64 n] w fun e w' => ∃ A c, e = .returned (.slice A (putL n).length c) ∧ w'.ownsRow w.heap.size 5 1 (.slice A (putL n).length c) (putL n).length (bc (putL n)) ∧ w.grownBy w' none := by
  rw [putL_step h0 h1, Int.add_comm (n % 128) 128]
  have hl := @putL_len (n / 128)
  generalize hL : putL (n / 128) = L at *
  obtain ⟨i0, hi, hz0, hz1, hz2⟩ := info_parts infoU8
  have IH := Lib.hid ih
  clear ih hL
  go_enter Try.func77, Try.ntmps77
  go_wp2_with fail
  refine (IH.out _).mono ?_
  rintro e w1 ⟨A, c, rfl, hown, hg⟩
  have hg1 : w.grownBy w1 none := g_trans (g_alloc _ _ _) hg
  have hsz : w.heap.size + 1 ≤ w1.heap.size := by have := hg.size; simp at this; omega
  have hrow : w1.ownsRow w.heap.size 5 1 (.slice (some ⟨w.heap.size, 0, none⟩) 1 1) 1 [.int .u8 (128 + n % 128)] := by
    have := own_keptN (base := w.heap.size) (e := 5) (size := 1) (World.ownsRow_lit w #[.int .u8 (128 + n % 128)] 1 (Nat.le_refl _) (by simp [maxLen]) rfl) hg
    exact this
  obtain ⟨g, rfl, hgb, hgs⟩ := own_addr hown (by omega)
  have hcells := hown.cells (g := g) rfl
  have HC := Lib.hid hcells
  clear hcells hown hg IH
  go_wp2_with (at_builtin; refine wpList_append_own w1 rfl (.tmp 12) (.tmp 15) 22 rfl w.heap.size 5 i0 _ 1 1 Try.underlying22 hi hz0 hz1 hz2 rfl (by decide) (.slice (some ⟨w.heap.size, 0, none⟩) 1 1) 1 [.int .u8 (128 + n % 128)] rfl hrow ⟨g, 0, none⟩ L.length c (bc L) rfl (bc_len L) HC.out (bc_one L) (by simp only [maxLen]; omega) (by omega) (by omega) ?_; intro v' w2 hown2 hg2 _)
  go_wp2
  go_ret
  obtain ⟨A', c', rfl⟩ := own_form hown2
  have e1 : 1 + L.length = ((128 + n % 128) :: L).length := by simp; omega
  rw [e1] at hown2
  refine ⟨A', c', by rw [e1]; rfl, hown2, g_new hg1 hg2 (by simp [Value.ownBlock])⟩

theorem putS_any (n : Int) (w : World) (h0 : 0 ≤ n) (h1 : n < 2097152) :
    Calls Try.prog 77 #[.int .i64 n] w fun e w' => ∃ A c, e = .returned (.slice A (putL n).length c) ∧ w'.ownsRow w.heap.size 5 1 (.slice A (putL n).length c) (putL n).length (bc (putL n)) ∧ w.grownBy w' none := by
  by_cases h2 : n < 128
  · exact putS_last n w h0 h2
  refine putS_step n w (by omega) h1 fun w => ?_
  by_cases h3 : n / 128 < 128
  · exact putS_last _ w (by omega) h3
  refine putS_step _ w (by omega) (by omega) fun w => ?_
  exact putS_last _ w (by omega) (by omega)
set_option maxHeartbeats 800000 in
theorem putVI_any (n : Int) (w : World) :
    Calls Try.prog 54 #[.int .i64 n] w fun e w' => ∃ A c, e = .returned (.slice A (putV n).length c) ∧ w'.ownsRow w.heap.size 5 1 (.slice A (putV n).length c) (putV n).length (bc (putV n)) ∧ w.grownBy w' none := by
  by_cases h1 : n < 0
  · rw [putV_out (.inl h1)]
    have hd : decide (n < 0) = true := by simpa using h1
    go_enter Try.func54, Try.ntmps54
    go_wp2
    go_ret
    exact ⟨_, _, rfl, World.ownsRow_nil _ _ _ _, g_refl _ _⟩
  have hd1 : decide (n < 0) = false := by simpa using h1
  by_cases h2 : 200000 < n
  · rw [putV_out (.inr h2)]
    have hd : decide (200000 < n) = true := by simpa using h2
    go_enter Try.func54, Try.ntmps54
    go_wp2
    go_ret
    exact ⟨_, _, rfl, World.ownsRow_nil _ _ _ _, g_refl _ _⟩
  have hd2 : decide (200000 < n) = false := by simpa using h2
  rw [putV_in (n := n) (by omega) (by omega)]
  obtain ⟨i0, hi, hz0, hz1, hz2⟩ := info_parts infoU8
  go_enter Try.func54, Try.ntmps54
  go_wp2
  go_loopw [0, 3] (fun q v wr => ∃ (acc : List Int) (m : Int) (A : Option Addr) (c : Nat), q = .int .i64 m ∧ v = .slice A acc.length c ∧ 0 ≤ m ∧ m ≤ 200000 ∧ w.grownBy wr none ∧ acc.length ≤ 1000000 ∧ wr.ownsRow w.heap.size 5 1 (.slice A acc.length c) acc.length (bc acc) ∧ Hid (putL n = acc ++ putL m) ∧ Hid (acc.length + (putL m).length ≤ 3)) (fun q _ _ => (intOf q).toNat)
  case atStart => exact ⟨[], n, none, 0, rfl, rfl, by omega, by omega, g_refl _ _, by simp, World.ownsRow_nil _ _ _ _, rfl, by have := (@putL_len n).2; simpa [Hid] using this⟩
  case round =>
    obtain ⟨acc, m, A, c, rfl, rfl, hm0, hm1, hg, hacc, hown, hput, hln⟩ := hrel
    have hsz := hg.size
    by_cases hlt : 128 ≤ m
    · go_wp2_with (at_builtin; refine wpList_append_own _ rfl (.tmp 12) (.tmp 17) 22 rfl w.heap.size 5 i0 _ 1 1 Try.underlying22 hi hz0 hz1 hz2 rfl (by decide) _ _ _ rfl (hown.alloc _) ⟨wr.heap.size, 0, none⟩ 1 1 [.int .u8 (m % 128 + 128)] rfl rfl (cell_one_new _ _ _) (by simp [Value.oneCell']) (by simp only [maxLen]; omega) (by omega) (by simp; omega) ?_; intro v' w1 hown' hgrow _)
      obtain ⟨A', c', rfl⟩ := own_form hown'
      have HO := Lib.hid (And.intro hown' (And.intro hgrow hown))
      clear hown' hgrow hown
      go_wp2
      go_roundw
      case rel =>
        refine ⟨acc ++ [m % 128 + 128], m / 128, A', c', rfl, by simp, by omega, by omega, ?_, by simp; have := hln.out; omega, ?_, ?_, ?_⟩
        · exact g_new (g_trans hg (g_alloc _ _ _)) HO.out.2.1 (own_new HO.out.2.2)
        · have := HO.out.1
          rw [List.length_append, bc_app]
          exact this
        · show _ = _
          rw [hput.out, putL_step hlt (by omega)]
          simp
        · show _ ≤ 3
          have := hln.out
          rw [putL_step hlt (by omega)] at this
          simp at this ⊢
          omega
      case measure => simp [intOf]; omega
    · go_wp2_with (at_builtin; refine wpList_append_own _ rfl (.tmp 21) (.tmp 24) 22 rfl w.heap.size 5 i0 _ 1 1 Try.underlying22 hi hz0 hz1 hz2 rfl (by decide) _ _ _ rfl (hown.alloc _) ⟨wr.heap.size, 0, none⟩ 1 1 [.int .u8 m] rfl rfl (cell_one_new _ _ _) (by simp [Value.oneCell']) (by simp only [maxLen]; omega) (by omega) (by simp; omega) ?_; intro v' w1 hown' hgrow _)
      obtain ⟨A', c', rfl⟩ := own_form hown'
      have HO := Lib.hid (And.intro hown' (And.intro hgrow hown))
      clear hown' hgrow hown
      go_wp2
      go_ret
      have hp := hput.out
      rw [putL_small (n := m) (by omega)] at hp
      have hl : (putL n).length = acc.length + 1 := by rw [hp]; simp
      rw [hl]
      refine ⟨A', c', rfl, ?_, g_new (g_trans hg (g_alloc _ _ _)) HO.out.2.1 (own_new HO.out.2.2)⟩
      rw [hp, bc_app]
      exact HO.out.1
end Go.Proofs.Ytcgeagcfhjdpcaa
