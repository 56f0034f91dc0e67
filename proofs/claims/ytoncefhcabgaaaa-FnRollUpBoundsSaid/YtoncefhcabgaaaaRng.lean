/- Contracts of RangeOf and what it calls, of the program and of the reference. -/
import Derived.Test.YtoncefhcabgaaaaProg
import Derived.Test.YtoncefhcabgaaaaSearch
import Derived.Test.YtoncefhcabgaaaaPts
import Derived.Test.YtoncefhcabgaaaaPApp
namespace Go.Proofs.Ytoncefhcabgaaaa
set_option linter.unusedVariables false
open Go.RowKit

theorem inRange_b (n lo hi : Int) (w : World) (b : Bool) (h : (decide (lo ≤ n) && decide (n ≤ hi)) = b) : Calls Try.prog 24 #[.int .i64 n, .int .i64 lo, .int .i64 hi] w fun e w' => e = .returned (.bool b) ∧ w = w' := by
  subst h
  exact inRange_any n lo hi w

def pV (l : List Pt) (x : Int) (i : Nat) : Bool := match l[i]? with | some q => decide (x < q.1) | none => true
def pP (l : List Pt) (x : Int) (i : Nat) : Bool := match l[i]? with | some q => decide (x ≤ q.1) | none => true
/-- where a search ends -/
def SplitV (l : List Pt) (x : Int) (r : Nat) : Prop := (∀ i q, l[i]? = some q → i < r → q.1 ≤ x) ∧ ∀ i q, l[i]? = some q → r ≤ i → x < q.1
def SplitP (l : List Pt) (x : Int) (r : Nat) : Prop := (∀ i q, l[i]? = some q → i < r → q.1 < x) ∧ ∀ i q, l[i]? = some q → r ≤ i → x ≤ q.1
theorem splitV_of {l : List Pt} {x : Int} {r : Nat} (h1 : ∀ t, t < r → pV l x t = false) (h2 : ∀ t, r ≤ t → t < l.length → pV l x t = true) : SplitV l x r := by
  refine ⟨fun i q hq hi => ?_, fun i q hq hi => ?_⟩
  · have := h1 i hi
    simp only [pV, hq, decide_eq_false_iff_not] at this
    omega
  · have := h2 i hi (List.getElem?_eq_some_iff.1 hq).1
    simpa only [pV, hq, decide_eq_true_eq] using this
theorem splitP_of {l : List Pt} {x : Int} {r : Nat} (h1 : ∀ t, t < r → pP l x t = false) (h2 : ∀ t, r ≤ t → t < l.length → pP l x t = true) : SplitP l x r := by
  refine ⟨fun i q hq hi => ?_, fun i q hq hi => ?_⟩
  · have := h1 i hi
    simp only [pP, hq, decide_eq_false_iff_not] at this
    omega
  · have := h2 i hi (List.getElem?_eq_some_iff.1 hq).1
    simpa only [pP, hq, decide_eq_true_eq] using this
theorem pV_mono {l : List Pt} (h : Asc l) (x : Int) (a b : Nat) (hab : a ≤ b) (hb : b < l.length) (ha : pV l x a = true) : pV l x b = true := by
  have e1 : l[a]? = some l[a] := List.getElem?_eq_getElem (by omega)
  have e2 : l[b]? = some l[b] := List.getElem?_eq_getElem hb
  simp only [pV, e1, e2, decide_eq_true_eq] at ha ⊢
  rcases Nat.lt_or_ge a b with hlt | hge
  · have := asc_get h e1 e2 hlt; omega
  · obtain rfl : a = b := by omega
    exact ha
theorem pP_mono {l : List Pt} (h : Asc l) (x : Int) (a b : Nat) (hab : a ≤ b) (hb : b < l.length) (ha : pP l x a = true) : pP l x b = true := by
  have e1 : l[a]? = some l[a] := List.getElem?_eq_getElem (by omega)
  have e2 : l[b]? = some l[b] := List.getElem?_eq_getElem hb
  simp only [pP, e1, e2, decide_eq_true_eq] at ha ⊢
  rcases Nat.lt_or_ge a b with hlt | hge
  · have := asc_get h e1 e2 hlt; omega
  · obtain rfl : a = b := by omega
    exact ha

theorem searchP_sp {l : List Pt} {x : Int} {r n : Nat} (H : (∀ t, t < r → pP l x t = false) ∧ ∀ t, r ≤ t → t < n → pP l x t = true) (l1 : l.length = n) : SplitP l x r := by
  subst l1
  exact splitP_of H.1 H.2
theorem searchP_use (ba bx n c : Nat) (A : Option Addr) (l : List Pt) (x : Int) (w : World) (ha : w.cell? ⟨ba, 0, none⟩ = some (.slice A n c)) (hx : w.cell? ⟨bx, 0, none⟩ = some (.int .i64 x)) (h : Rd w 2 A n c (pc l)) (hasc : Asc l) (hn : n ≤ 1000) :
    Calls Try.prog 42 #[.int .i64 n, .func (.func 43) #[] #[.pointer (some ⟨ba, 0, none⟩), .pointer (some ⟨bx, 0, none⟩)]] w fun e w' => ∃ r : Nat, e = .returned (.int .i64 r) ∧ r ≤ n ∧ Hid (SplitP l x r) ∧ w.grownBy w' none := by
  have l1 : l.length = n := by have := h.len; rw [pc_len] at this; omega
  refine (searchP_any ba bx n (pP l x) w hn (fun i hi W' hg => ?_) (fun a b hab hb hp => pP_mono hasc x a b hab (by omega) hp)).mono ?_
  · obtain ⟨⟨t, v⟩, hq, _⟩ := get_ex (l := l) (i := i) (by omega)
    refine (searchP_fn ba bx A n c l x i t v W' (hg.cell ha (by simp)) (hg.cell hx (by simp)) (h.keptN hg) hq).mono ?_
    rintro e w2 ⟨rfl, hg2⟩
    refine ⟨ret_b ?_, hg2⟩
    simp only [pP, hq]
  · rintro e w2 ⟨r, rfl, hr, H, hg⟩
    exact ⟨r, rfl, hr, searchP_sp H.out l1, hg⟩

theorem placeOf_any (A : Option Addr) (n c : Nat) (l : List Pt) (x : Int) (w : World) (h : Rd w 2 A n c (pc l)) (hasc : Asc l) (hn : n ≤ 1000) :
    Calls Try.prog 34 #[.slice A n c, .int .i64 x] w fun e w' => ∃ r : Nat, e = .returned (.int .i64 r) ∧ r ≤ n ∧ Hid (SplitP l x r) ∧ w.grownBy w' none := by
  have H := Lib.hid (And.intro h hasc)
  clear h hasc
  go_enter Try.func34, Try.ntmps34
  go_wp2_with fail
  have g1 := g_trans (g_alloc w (.cells #[.slice A n c] 23) none) (g_alloc _ (.cells #[.int .i64 x] 3) none)
  refine (searchP_use w.heap.size (w.heap.size + 1) n c A l x _ ?_ ?_ (H.out.1.keptN g1) H.out.2 hn).mono ?_
  · go_simp
  · go_simp
  rintro e w2 ⟨r, rfl, hr, HS, hg⟩
  have G := g_trans g1 hg
  clear g1 hg
  go_wp2
  go_ret
  exact ⟨r, rfl, hr, HS, G⟩
theorem copyPoints_any (A : Option Addr) (n c : Nat) (l : List Pt) (w : World) (h : Rd w 2 A n c (pc l)) (hn : n ≤ 1000000) :
    Calls Try.prog 33 #[.slice A n c] w fun e w' => ∃ A' c', e = .returned (.slice A' l.length c') ∧ w'.ownsRow w.heap.size 33 2 (.slice A' l.length c') l.length (pc l) ∧ w.grownBy w' none := by
  go_enter Try.func33, Try.ntmps33
  go_wp2_with (at_builtin; refine apps_pt rfl _ _ rfl w.heap.size [] l w none A 0 n c rfl (World.ownsRow_nil _ _ _ _) rfl h (by simp) hn (Nat.le_refl _) ?_; intro A' c' w1 hown hg _)
  go_ret
  exact ⟨A', c', rfl, hown, hg⟩
theorem inRangeI_b (x : Int) (w : World) (b : Bool) (h : (decide (-2000 ≤ x) && decide (x ≤ 2000)) = b) : Calls Try.prog 41 #[.int .i64 x] w fun e w' => e = .returned (.bool b) ∧ w = w' := by
  subst h
  by_cases h1 : -2000 ≤ x
  · have hd : decide (-2000 ≤ x) = true := by simpa using h1
    rw [hd]
    go_enter Try.func41, Try.ntmps41
    go_wp2
    go_ret
    exact ⟨rfl, rfl⟩
  · have hd : decide (-2000 ≤ x) = false := by simpa using h1
    rw [hd]
    go_enter Try.func41, Try.ntmps41
    go_wp2
    go_ret
    exact ⟨rfl, rfl⟩
theorem okR_parts (l : List Pt) (f t : Int) : ∃ a b c : Bool, validL l = a ∧ (decide (-2000 ≤ f) && decide (f ≤ 2000)) = b ∧ (decide (-2000 ≤ t) && decide (t ≤ 2000)) = c ∧ okR l f t = (a && b && c) := ⟨_, _, _, rfl, rfl, rfl, rfl⟩
theorem validRangeI_b (A : Option Addr) (n c : Nat) (l : List Pt) (f t : Int) (b : Bool) (w : World) (h : Rd w 2 A n c (pc l)) (hb : okR l f t = b) :
    Calls Try.prog 32 #[.slice A n c, .int .i64 f, .int .i64 t] w fun e w' => e = .returned (.bool b) ∧ w.grownBy w' none := by
  obtain ⟨p, q, r, hp, hq, hr, e⟩ := okR_parts l f t
  rw [e] at hb
  subst hb
  have HP := Lib.hid (And.intro h (And.intro hp (And.intro hq hr)))
  clear h hp hq hr e
  cases p with
  | false =>
    go_enter Try.func32, Try.ntmps32
    go_wp2_with fail
    refine (validI_at A n c l _ _ HP.out.1 HP.out.2.1).mono ?_
    rintro e w1 ⟨rfl, g1⟩
    go_wp2
    go_ret
    exact ⟨rfl, g1⟩
  | true =>
    cases q with
    | false =>
      go_enter Try.func32, Try.ntmps32
      go_wp2_with fail
      refine (validI_at A n c l _ _ HP.out.1 HP.out.2.1).mono ?_
      rintro e w1 ⟨rfl, g1⟩
      go_wp2_with fail
      refine (inRangeI_b _ _ _ HP.out.2.2.1).mono ?_
      rintro e w2 ⟨rfl, rfl⟩
      go_wp2
      go_ret
      exact ⟨rfl, g1⟩
    | true =>
      go_enter Try.func32, Try.ntmps32
      go_wp2_with fail
      refine (validI_at A n c l _ _ HP.out.1 HP.out.2.1).mono ?_
      rintro e w1 ⟨rfl, g1⟩
      go_wp2_with fail
      refine (inRangeI_b _ _ _ HP.out.2.2.1).mono ?_
      rintro e w2 ⟨rfl, rfl⟩
      go_wp2_with fail
      refine (inRangeI_b _ _ _ HP.out.2.2.2).mono ?_
      rintro e w2 ⟨rfl, rfl⟩
      go_wp2
      go_ret
      exact ⟨rfl, g1⟩
set_option maxHeartbeats 800000 in
theorem rangeI_any (A : Option Addr) (n c : Nat) (l : List Pt) (f t : Int) (w : World) (h : Rd w 2 A n c (pc l)) :
    Calls Try.prog 17 #[.slice A n c, .int .i64 f, .int .i64 t] w fun e w' => ∃ A' c', e = .returned (.slice A' (rangeL l f t).length c') ∧ w'.ownsRow w.heap.size 33 2 (.slice A' (rangeL l f t).length c') (rangeL l f t).length (pc (rangeL l f t)) ∧ w.grownBy w' none := by
  have l1 : l.length = n := by have := h.len; rw [pc_len] at this; omega
  obtain ⟨q, hq⟩ : ∃ q, okR l f t = q := ⟨_, rfl⟩
  cases q with
  | false =>
    have HQ := Lib.hid (And.intro h hq)
    rw [range_no hq]
    clear h hq l1
    go_enter Try.func17, Try.ntmps17
    go_wp2_with fail
    refine (validRangeI_b A n c l f t _ _ HQ.out.1 HQ.out.2).mono ?_
    rintro e w1 ⟨rfl, g1⟩
    go_wp2
    go_ret
    exact ⟨none, 0, rfl, World.ownsRow_nil _ _ _ _, g1⟩
  | true =>
    rw [range_yes hq]
    have hasc := (validL_iff l).1 (okR_iff.1 hq).1
    by_cases hft : t ≤ f
    · have HQ := Lib.hid (And.intro h hq)
      rw [part_none hft]
      clear h hq l1
      go_enter Try.func17, Try.ntmps17
      go_wp2_with fail
      refine (validRangeI_b A n c l f t _ _ HQ.out.1 HQ.out.2).mono ?_
      rintro e w1 ⟨rfl, g1⟩
      go_wp2
      go_ret
      exact ⟨none, 0, rfl, World.ownsRow_nil _ _ _ _, g1⟩
    · have hn : n ≤ 1000 := by omega
      have hcap := h.cap
      have hlim := h.lim
      have HQ := Lib.hid (And.intro h (And.intro hq (And.intro hasc.2.2 l1)))
      clear h hq l1 hasc
      go_enter Try.func17, Try.ntmps17
      go_wp2_with fail
      refine (validRangeI_b A n c l f t _ _ HQ.out.1 HQ.out.2.1).mono ?_
      rintro e w1 ⟨rfl, g1⟩
      go_wp2_with fail
      refine (placeOf_any A n c l f _ (HQ.out.1.keptN g1) HQ.out.2.2.1 hn).mono ?_
      rintro e w2 ⟨a, rfl, ha, Ha, g2⟩
      go_wp2_with fail
      refine (placeOf_any A n c l t _ (HQ.out.1.keptN (g_trans g1 g2)) HQ.out.2.2.1 hn).mono ?_
      rintro e w3 ⟨b, rfl, hb, Hb, g3⟩
      have hab : a ≤ b := place_le (l := l) (f := f) (t := t) (by omega) (by have := HQ.out.2.2.2; omega) Ha.out.1 Hb.out.2
      have hab' : (a : Int) ≤ (b : Int) := by omega
      have hbc' : (b : Int) ≤ (c : Int) := by omega
      have HE := Lib.hid (part_piece Ha.out.1 Ha.out.2 Hb.out.1 Hb.out.2)
      have G := g_trans g1 (g_trans g2 g3)
      have hR := ((HQ.out.1.keptN G).to_ hb).from_ hab
      rw [pc_take, pc_drop, ← HE.out] at hR
      by_cases hc : c = a
      · rw [if_pos hc] at hR
        subst hc
        rw [Nat.sub_self] at hR
        have HR := Lib.hid hR
        clear hR g1 g2 g3 Ha Hb
        go_wp2_with fail
        refine (copyPoints_any _ _ _ _ _ HR.out (by omega)).mono ?_
        rintro e w4 ⟨A4, c4, rfl, o4, g4⟩
        go_wp2
        go_ret
        exact ⟨A4, c4, rfl, own_le o4 G.size, g_trans G g4⟩
      · rw [if_neg hc] at hR
        have hA : ∃ b0 o0, A = some ⟨b0, o0, none⟩ ∨ b - a = 0 := by
          by_cases h0 : 0 < n
          · obtain ⟨b0, o0, e, _⟩ := HQ.out.1.at_ h0
            exact ⟨b0, o0, .inl e⟩
          · exact ⟨0, 0, .inr (by omega)⟩
        have HR := Lib.hid hR
        clear hR g1 g2 g3 Ha Hb
        go_wp2_with fail
        refine (copyPoints_any _ _ _ _ _ HR.out (by omega)).mono ?_
        rintro e w4 ⟨A4, c4, rfl, o4, g4⟩
        go_wp2
        go_ret
        exact ⟨A4, c4, rfl, own_le o4 G.size, g_trans G g4⟩
end Go.Proofs.Ytoncefhcabgaaaa
