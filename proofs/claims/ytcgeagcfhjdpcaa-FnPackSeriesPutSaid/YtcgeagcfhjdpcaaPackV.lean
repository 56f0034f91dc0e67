/- Contracts of PackSeries and PackedSize, of the program and of the reference, for an outcome that has a name. -/
import Derived.Test.YtcgeagcfhjdpcaaPack
namespace Go.Proofs.Ytcgeagcfhjdpcaa
set_option linter.unusedVariables false
open Go.RowKit

theorem packV_len (l : List Pt) : (packV l).length ≤ 97 := by
  cases hv : validL l with
  | false => rw [packV_no hv]; simp
  | true =>
    rw [packV_yes hv]
    have := packL_len l
    have := ((validL_iff l).1 hv).1
    omega
theorem packV_by (l : List Pt) : By (packV l) := by
  cases hv : validL l with
  | false => rw [packV_no hv]; intro x hx; cases hx
  | true => rw [packV_yes hv]; exact packL_by (valid_small hv) ((validL_iff l).1 hv).1
theorem stepsV_len (l : List Pt) : (stepsV l).length ≤ 16 := by
  cases hv : validL l with
  | false => rw [stepsV_no hv]; simp
  | true => rw [stepsV_yes hv, steps_len]; exact ((validL_iff l).1 hv).1
theorem sizeV_yes {l : List Pt} (h : validL l = true) : sizeV l = (packL l).length := if_pos h
theorem sizeV_no {l : List Pt} (h : validL l = false) : sizeV l = -1 := if_neg (by rw [h]; simp)
theorem packI_at (A : Option Addr) (n c : Nat) (l : List Pt) (L : List Int) (w : World) (h : Rd w 2 A n c (pc l)) (hv : packV l = L) :
    Calls Try.prog 19 #[.slice A n c] w (Bytes L w) := by
  subst hv
  cases hq : validL l with
  | false =>
    rw [packV_no hq]
    have HQ := Lib.hid hq
    clear hq
    go_enter Try.func19, Try.ntmps19
    go_wp2_with fail
    refine (validI_at A n c l false w h HQ.out).mono ?_
    rintro e w1 ⟨rfl, g1⟩
    go_wp2
    go_ret
    exact ⟨_, _, rfl, World.ownsRow_nil _ _ _ _, g1⟩
  | true =>
    rw [packV_yes hq]
    exact packI_any A n c l w h hq
theorem packS_at (A : Option Addr) (n c : Nat) (l : List Pt) (L : List Int) (w : World) (h : Rd w 2 A n c (pc l)) (hv : packV l = L) :
    Calls Try.prog 21 #[.slice A n c] w (Bytes L w) := by
  subst hv
  have hlen : l.length = n := by have := h.len; rw [pc_len] at this; omega
  cases hq : validL l with
  | false =>
    rw [packV_no hq]
    have HQ := Lib.hid hq
    clear hq hlen
    go_enter Try.func21, Try.ntmps21
    go_wp2_with fail
    refine (validSS_at A n c l false w h HQ.out).mono ?_
    rintro e w1 ⟨rfl, g1⟩
    go_wp2
    go_ret
    exact ⟨_, _, rfl, World.ownsRow_nil _ _ _ _, g1⟩
  | true =>
    rw [packV_yes hq]
    have hn : n ≤ 16 := by have := ((validL_iff l).1 hq).1; omega
    have HQ := Lib.hid hq
    clear hq hlen
    go_enter Try.func21, Try.ntmps21
    go_wp2_with fail
    refine (validSS_at A n c l true w h HQ.out).mono ?_
    rintro e w1 ⟨rfl, g1⟩
    go_wp2_with fail
    refine (pack_any A n c l w1 (h.keptN g1) (valid_small HQ.out) hn).mono ?_
    rintro e w2 ⟨A2, c2, rfl, o2, g2⟩
    have O2 := own_le o2 g1.size
    have G2 := g_trans g1 g2
    clear o2 g1 g2
    go_wp2
    go_ret
    exact ⟨A2, c2, rfl, O2, G2⟩
theorem sizeI_at (A : Option Addr) (n c : Nat) (l : List Pt) (v : Int) (w : World) (h : Rd w 2 A n c (pc l)) (hv : sizeV l = v) :
    Calls Try.prog 45 #[.slice A n c] w fun e w' => e = .returned (.int .i64 v) ∧ w.grownBy w' none := by
  subst hv
  have hlen : l.length = n := by have := h.len; rw [pc_len] at this; omega
  cases hq : validL l with
  | false =>
    rw [sizeV_no hq]
    have HQ := Lib.hid hq
    clear hq hlen
    go_enter Try.func45, Try.ntmps45
    go_wp2_with fail
    refine (validI_at A n c l false w h HQ.out).mono ?_
    rintro e w1 ⟨rfl, g1⟩
    go_wp2
    go_ret
    exact ⟨rfl, g1⟩
  | true =>
    rw [sizeV_yes hq]
    have hn : n ≤ 16 := by have := ((validL_iff l).1 hq).1; omega
    have HQ := Lib.hid hq
    clear hq hlen
    go_enter Try.func45, Try.ntmps45
    go_wp2_with fail
    refine (validI_at A n c l true w h HQ.out).mono ?_
    rintro e w1 ⟨rfl, g1⟩
    go_wp2_with fail
    refine (packI_at _ _ _ l (packL l) _ (h.keptN g1) (packV_yes HQ.out)).mono ?_
    rintro e w2 ⟨A2, c2, rfl, o2, g2⟩
    have G2 := g_trans g1 g2
    clear o2 g1 g2
    go_wp2
    go_ret
    exact ⟨rfl, G2⟩
theorem sizeS_at (A : Option Addr) (n c : Nat) (l : List Pt) (v : Int) (w : World) (h : Rd w 2 A n c (pc l)) (hv : sizeV l = v) :
    Calls Try.prog 44 #[.slice A n c] w fun e w' => e = .returned (.int .i64 v) ∧ w.grownBy w' none := by
  subst hv
  have hlen : l.length = n := by have := h.len; rw [pc_len] at this; omega
  cases hq : validL l with
  | false =>
    rw [sizeV_no hq]
    have HQ := Lib.hid hq
    clear hq hlen
    go_enter Try.func44, Try.ntmps44
    go_wp2_with fail
    refine (validSS_at A n c l false w h HQ.out).mono ?_
    rintro e w1 ⟨rfl, g1⟩
    go_wp2
    go_ret
    exact ⟨rfl, g1⟩
  | true =>
    rw [sizeV_yes hq]
    have hn : n ≤ 16 := by have := ((validL_iff l).1 hq).1; omega
    have HQ := Lib.hid hq
    clear hq hlen
    go_enter Try.func44, Try.ntmps44
    go_wp2_with fail
    refine (validSS_at A n c l true w h HQ.out).mono ?_
    rintro e w1 ⟨rfl, g1⟩
    go_wp2_with fail
    refine (pack_any A n c l w1 (h.keptN g1) (valid_small HQ.out) hn).mono ?_
    rintro e w2 ⟨A2, c2, rfl, o2, g2⟩
    have G2 := g_trans g1 g2
    clear o2 g1 g2
    go_wp2
    go_ret
    exact ⟨rfl, G2⟩
end Go.Proofs.Ytcgeagcfhjdpcaa
