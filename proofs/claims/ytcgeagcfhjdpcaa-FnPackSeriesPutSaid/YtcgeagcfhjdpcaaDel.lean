/- Contracts of differences, sums and times of the reference, and of the tests on numbers. -/
import Derived.Test.YtcgeagcfhjdpcaaPlainC
import Derived.Test.YtcgeagcfhjdpcaaPApp
import Derived.Test.YtcgeagcfhjdpcaaNum
import Derived.Test.YtcgeagcfhjdpcaaPts
namespace Go.Proofs.Ytcgeagcfhjdpcaa
set_option linter.unusedVariables false
open Go.RowKit

def Numbers (L : List Int) (w : World) (e : Ending) (w' : World) : Prop := ∃ A c, e = .returned (.slice A L.length c) ∧ w'.ownsRow w.heap.size 3 1 (.slice A L.length c) L.length (ic L) ∧ w.grownBy w' none
theorem okN_len {l : List Int} (h : 16 < l.length) : okN l = false := by
  cases hk : okN l with
  | false => rfl
  | true => exfalso; have := (okN_iff.1 hk).1; omega
theorem okN_bad {l : List Int} {x : Int} (h : x ∈ l) (h2 : ¬ (-100000 ≤ x ∧ x ≤ 100000)) : okN l = false := by
  cases hk : okN l with
  | false => rfl
  | true => exact absurd ((okN_iff.1 hk).2 x h) h2
theorem inRange_bC (n lo hi : Int) (w : World) (b : Bool) (h : (decide (lo ≤ n) && decide (n ≤ hi)) = b) : Calls Try.prog 87 #[.int .i64 n, .int .i64 lo, .int .i64 hi] w fun e w' => e = .returned (.bool b) ∧ w = w' := by
  subst h
  exact inRange_any n lo hi w
theorem mem_snoc {l : List Int} {k : Nat} {x : Int} {P : Int → Prop} (hx : l[k]? = some x) (h : ∀ y ∈ l.take k, P y) (hp : P x) : ∀ y ∈ l.take (k + 1), P y := by
  rw [take_get hx]
  intro y hy
  rcases List.mem_append.1 hy with hy | hy
  · exact h y hy
  · simp at hy
    subst hy
    exact hp

set_option maxHeartbeats 800000 in
theorem validNI_at (A : Option Addr) (n c : Nat) (l : List Int) (v : Bool) (w : World) (h : Rd w 1 A n c (ic l)) (hv : okN l = v) :
    Calls Try.prog 66 #[.slice A n c] w fun e w' => e = .returned (.bool v) ∧ w.grownBy w' none := by
  have hlen : l.length = n := by have := h.len; rw [ic_len] at this; omega
  have nb : n ≤ 9223372036854775807 := Nat.le_trans h.cap h.lim
  by_cases hbig : (16 : Int) < (n : Int)
  · obtain rfl : v = false := by rw [← hv]; exact okN_len (by omega)
    clear hv hlen
    go_enter Try.func66, Try.ntmps66
    go_wp2
    go_ret
    exact ⟨rfl, g_refl _ _⟩
  have H1 := Lib.hid hlen
  have HV := Lib.hid hv
  clear hlen hv
  go_enter Try.func66, Try.ntmps66
  go_wp2
  go_loopw [10] (fun i wr => ∃ k : Nat, k ≤ n ∧ i = .int .i64 k ∧ wr = w ∧ Hid (∀ x ∈ l.take k, -100000 ≤ x ∧ x ≤ 100000)) (fun i _ => n - (intOf i).toNat)
  case atStart => exact ⟨0, Nat.zero_le _, rfl, rfl, fun x hx => by simp at hx⟩
  case round =>
    obtain ⟨k, hk, rfl, rfl, hI⟩ := hrel
    by_cases hlt : k < n
    · obtain ⟨x, hx, hdx⟩ := get_ex (l := l) (i := k) (by have := H1.out; omega)
      obtain ⟨b1, o1, rfl, hc1⟩ := h.cells hlt
      have cx := hc1 _ _ (ic_at hx)
      have hmem := List.mem_of_getElem? hx
      have hlt' : (k : Int) < (n : Int) := by omega
      by_cases b1' : x < -100000
      · obtain rfl : v = false := by rw [← HV.out]; exact okN_bad hmem (by omega)
        have d1 : decide (x < -100000) = true := by simpa using b1'
        clear hc1 hx hdx hmem
        go_wp2
        go_ret
        exact ⟨rfl, g_refl _ _⟩
      have d1 : decide (x < -100000) = false := by simpa using b1'
      by_cases b2 : 100000 < x
      · obtain rfl : v = false := by rw [← HV.out]; exact okN_bad hmem (by omega)
        have d2 : decide (100000 < x) = true := by simpa using b2
        clear hc1 hx hdx hmem
        go_wp2
        go_ret
        exact ⟨rfl, g_refl _ _⟩
      have d2 : decide (100000 < x) = false := by simpa using b2
      have HI : Hid (∀ y ∈ l.take (k + 1), -100000 ≤ y ∧ y ≤ 100000) := mem_snoc (P := fun y => -100000 ≤ y ∧ y ≤ 100000) hx hI.out ⟨by omega, by omega⟩
      clear hc1 hx hdx hmem hI
      go_wp2
      go_roundw
      case rel => exact ⟨k + 1, by omega, by go_num, by first | rfl | trivial, HI⟩
      case measure => simp [intOf]; omega
    · have hge : ¬ (k : Int) < (n : Int) := by omega
      obtain rfl : v = true := by
        rw [← HV.out]
        refine okN_iff.2 ⟨by have := H1.out; omega, fun x hx => hI.out x ?_⟩
        rw [List.take_of_length_le (by have := H1.out; omega)]
        exact hx
      go_wp2
      go_ret
      exact ⟨rfl, g_refl _ _⟩
set_option maxHeartbeats 800000 in
theorem allIn_at (A : Option Addr) (n c : Nat) (l : List Int) (lo hi : Int) (v : Bool) (w : World) (h : Rd w 1 A n c (ic l)) (hv : l.all (fun x => decide (lo ≤ x) && decide (x ≤ hi)) = v) :
    Calls Try.prog 85 #[.slice A n c, .int .i64 lo, .int .i64 hi] w fun e w' => e = .returned (.bool v) ∧ w.grownBy w' none := by
  have hlen : l.length = n := by have := h.len; rw [ic_len] at this; omega
  have nb : n ≤ 9223372036854775807 := Nat.le_trans h.cap h.lim
  have H1 := Lib.hid hlen
  have HV := Lib.hid hv
  clear hlen hv
  go_enter Try.func85, Try.ntmps85
  go_wp2
  go_loopw [7] (fun i wr => ∃ k : Nat, k ≤ n ∧ i = .int .i64 k ∧ wr = w ∧ Hid (∀ x ∈ l.take k, (decide (lo ≤ x) && decide (x ≤ hi)) = true)) (fun i _ => n - (intOf i).toNat)
  case atStart => exact ⟨0, Nat.zero_le _, rfl, rfl, fun x hx => by simp at hx⟩
  case round =>
    obtain ⟨k, hk, rfl, rfl, hI⟩ := hrel
    by_cases hlt : k < n
    · obtain ⟨x, hx, hdx⟩ := get_ex (l := l) (i := k) (by have := H1.out; omega)
      obtain ⟨b1, o1, rfl, hc1⟩ := h.cells hlt
      have cx := hc1 _ _ (ic_at hx)
      have hmem := List.mem_of_getElem? hx
      have hlt' : (k : Int) < (n : Int) := by omega
      obtain ⟨q, hq⟩ : ∃ q, (decide (lo ≤ x) && decide (x ≤ hi)) = q := ⟨_, rfl⟩
      have HQ := Lib.hid hq
      cases q with
      | false =>
        obtain rfl : v = false := by
          rw [← HV.out]
          cases hall : l.all (fun x => decide (lo ≤ x) && decide (x ≤ hi)) with
          | false => rfl
          | true => rw [List.all_eq_true.1 hall x hmem] at hq; cases hq
        clear hc1 hx hdx hmem hq
        go_wp2_with fail
        refine (inRange_bC x lo hi _ false HQ.out).mono ?_
        rintro e w1 ⟨rfl, rfl⟩
        go_wp2
        go_ret
        exact ⟨rfl, g_refl _ _⟩
      | true =>
        have HI : Hid (∀ y ∈ l.take (k + 1), (decide (lo ≤ y) && decide (y ≤ hi)) = true) := mem_snoc (P := fun y => (decide (lo ≤ y) && decide (y ≤ hi)) = true) hx hI.out hq
        clear hc1 hx hdx hmem hI hq
        go_wp2_with fail
        refine (inRange_bC x lo hi _ true HQ.out).mono ?_
        rintro e w1 ⟨rfl, rfl⟩
        go_wp2
        go_roundw
        case rel => exact ⟨k + 1, by omega, by go_num, by first | rfl | trivial, HI⟩
        case measure => simp [intOf]; omega
    · have hge : ¬ (k : Int) < (n : Int) := by omega
      obtain rfl : v = true := by
        rw [← HV.out]
        refine List.all_eq_true.2 fun x hx => hI.out x ?_
        rw [List.take_of_length_le (by have := H1.out; omega)]
        exact hx
      go_wp2
      go_ret
      exact ⟨rfl, g_refl _ _⟩
theorem validNS_at (A : Option Addr) (n c : Nat) (l : List Int) (v : Bool) (w : World) (h : Rd w 1 A n c (ic l)) (hv : okN l = v) :
    Calls Try.prog 69 #[.slice A n c] w fun e w' => e = .returned (.bool v) ∧ w.grownBy w' none := by
  have hlen : l.length = n := by have := h.len; rw [ic_len] at this; omega
  by_cases hbig : (n : Int) ≤ 16
  · have hd : decide ((n : Int) ≤ 16) = true := by simpa using hbig
    have hv2 : l.all (fun n => decide (-100000 ≤ n) && decide (n ≤ 100000)) = v := by
      rw [← hv]
      unfold okN
      rw [decide_eq_true (show l.length ≤ 16 by omega), Bool.true_and]
    have HV := Lib.hid hv2
    clear hv hv2 hlen
    go_enter Try.func69, Try.ntmps69
    go_wp2_with fail
    refine (allIn_at A n c l (-100000) 100000 v w h HV.out).mono ?_
    rintro e w1 ⟨rfl, g1⟩
    go_wp2
    go_ret
    exact ⟨rfl, g1⟩
  · have hd : decide ((n : Int) ≤ 16) = false := by simpa using hbig
    obtain rfl : v = false := by rw [← hv]; exact okN_len (by omega)
    clear hv hlen
    go_enter Try.func69, Try.ntmps69
    go_wp2
    go_ret
    exact ⟨rfl, g_refl _ _⟩
set_option maxHeartbeats 800000 in
theorem deltas_any (A : Option Addr) (n c : Nat) (l : List Int) (w : World) (h : Rd w 1 A n c (ic l)) (hn : n ≤ 100) (hb : ∀ x ∈ l, -1000000 ≤ x ∧ x ≤ 1000000) :
    Calls Try.prog 70 #[.slice A n c] w (Numbers (delL 0 l) w) := by
  have hlen : l.length = n := by have := h.len; rw [ic_len] at this; omega
  have H1 := Lib.hid hlen
  have HB : Hid (∀ x ∈ l, -1000000 ≤ x ∧ x ≤ 1000000) := hb
  clear hlen hb
  go_enter Try.func70, Try.ntmps70
  go_wp2
  have o1 := lit_own w w.heap.size 3 1 [] 0 (Nat.le_refl _) (by omega) rfl
  have g1 := g_alloc w (.cells [].toArray 3) none
  go_loopw [3, 4, 5] (fun o q i wr => ∃ (k : Nat) (A' : Option Addr) (c' : Nat) (L : List Int) (p : Int), k ≤ n ∧ i = .int .i64 k ∧ o = .slice A' L.length c' ∧ q = .int .i64 p ∧ -1000000 ≤ p ∧ p ≤ 1000000 ∧ L.length ≤ 1000 ∧ wr.ownsRow w.heap.size 3 1 (.slice A' L.length c') L.length (ic L) ∧ w.grownBy wr none ∧ Hid (L = delL 0 (l.take k)) ∧ Hid (p = lastN 0 (l.take k))) (fun _ _ i _ => n - (intOf i).toNat)
  case atStart => exact ⟨0, _, 0, [], 0, Nat.zero_le _, rfl, rfl, rfl, by omega, by omega, by simp, o1, g1, rfl, rfl⟩
  case round =>
    obtain ⟨k, A', c', L, p, hk, rfl, rfl, rfl, p0, p1, hL, hown, hg, hI, hP⟩ := hrel
    have hsz := hg.size
    by_cases hlt : k < n
    · obtain ⟨x, hx, hdx⟩ := get_ex (l := l) (i := k) (by have := H1.out; omega)
      obtain ⟨x0, x1⟩ := HB.out x (List.mem_of_getElem? hx)
      obtain ⟨b1, o2, rfl, hc1⟩ := (h.keptN hg).cells hlt
      have cx := hc1 _ _ (ic_at hx)
      have hlt' : (k : Int) < (n : Int) := by omega
      have hfar : b1 < w.heap.size := h.lt (by omega) (by omega) _ rfl
      have HI2 : Hid (L ++ [x - p] = delL 0 (l.take (k + 1))) := by
        show _ = _
        rw [take_get hx, del_snoc, ← hI.out, ← hP.out]
      have HP2 : Hid (x = lastN 0 (l.take (k + 1))) := by
        show _ = _
        rw [take_get hx, last_snoc]
      have HL2 : Hid ((L ++ [x - p]).length ≤ 1000) := by
        show _ ≤ _
        rw [HI2.out, del_len, List.length_take]
        omega
      clear hc1 hx hdx hI hP o1 g1
      go_wp2_with (at_builtin; refine app_in rfl (.tmp 13) (.tmp 20) rfl w.heap.size L wr (x - p) A' c' rfl hown rfl (by omega) hsz ?_; intro A6 c6 w6 hown6 hg6 _; have cx6 := far_cell hown hg6 hfar cx)
      have G6 := g_new hg hg6 (own_new hown)
      clear hown hg6 cx hg
      go_wp2
      go_roundw
      case rel => exact ⟨k + 1, A6, c6, L ++ [x - p], x, by omega, by go_num, by simp, rfl, x0, x1, HL2.out, hown6, G6, HI2, HP2⟩
      case measure => simp [intOf]; omega
    · have hge : ¬ (k : Int) < (n : Int) := by omega
      have e1 : L = delL 0 l := by rw [hI.out, List.take_of_length_le (by have := H1.out; omega)]
      have E1 := Lib.hid e1
      clear e1 hI hP o1 g1
      go_wp2
      go_ret
      rw [← E1.out]
      exact ⟨A', c', rfl, hown, hg⟩
set_option maxHeartbeats 800000 in
theorem sums_any (A : Option Addr) (n c : Nat) (l : List Int) (w : World) (h : Rd w 1 A n c (ic l)) (hn : n ≤ 100) (hb : ∀ x ∈ l, -10000000 ≤ x ∧ x ≤ 10000000) :
    Calls Try.prog 63 #[.slice A n c] w (Numbers (sumL 0 l) w) := by
  have hlen : l.length = n := by have := h.len; rw [ic_len] at this; omega
  have H1 := Lib.hid hlen
  have HB : Hid (∀ x ∈ l, -10000000 ≤ x ∧ x ≤ 10000000) := hb
  clear hlen hb
  go_enter Try.func63, Try.ntmps63
  go_wp2
  have o1 := lit_own w w.heap.size 3 1 [] 0 (Nat.le_refl _) (by omega) rfl
  have g1 := g_alloc w (.cells [].toArray 3) none
  go_loopw [3, 4, 5] (fun o q i wr => ∃ (k : Nat) (A' : Option Addr) (c' : Nat) (L : List Int) (p : Int), k ≤ n ∧ i = .int .i64 k ∧ o = .slice A' L.length c' ∧ q = .int .i64 p ∧ -1000000000 ≤ p ∧ p ≤ 1000000000 ∧ L.length ≤ 1000 ∧ wr.ownsRow w.heap.size 3 1 (.slice A' L.length c') L.length (ic L) ∧ w.grownBy wr none ∧ Hid (L = sumL 0 (l.take k)) ∧ Hid (p = totN (l.take k))) (fun _ _ i _ => n - (intOf i).toNat)
  case atStart => exact ⟨0, _, 0, [], 0, Nat.zero_le _, rfl, rfl, rfl, by omega, by omega, by simp, o1, g1, rfl, rfl⟩
  case round =>
    obtain ⟨k, A', c', L, p, hk, rfl, rfl, rfl, p0, p1, hL, hown, hg, hI, hP⟩ := hrel
    have hsz := hg.size
    by_cases hlt : k < n
    · obtain ⟨x, hx, hdx⟩ := get_ex (l := l) (i := k) (by have := H1.out; omega)
      obtain ⟨x0, x1⟩ := HB.out x (List.mem_of_getElem? hx)
      obtain ⟨b1, o2, rfl, hc1⟩ := (h.keptN hg).cells hlt
      have cx := hc1 _ _ (ic_at hx)
      have hlt' : (k : Int) < (n : Int) := by omega
      have hbd := tot_bd (B := 10000000) (l := l.take (k + 1)) (fun y hy => HB.out y (List.mem_of_mem_take hy))
      have hle : (l.take (k + 1)).length ≤ 100 := by rw [List.length_take]; omega
      have hq : totN (l.take (k + 1)) = p + x := by rw [take_get hx, tot_snoc, ← hP.out]
      have q0 : -1000000000 ≤ p + x ∧ p + x ≤ 1000000000 := by omega
      have HI2 : Hid (L ++ [p + x] = sumL 0 (l.take (k + 1))) := by
        show _ = _
        rw [take_get hx, sum_snoc, ← hI.out, ← hP.out, Int.zero_add]
      have HP2 : Hid (p + x = totN (l.take (k + 1))) := hq.symm
      have HL2 : Hid ((L ++ [p + x]).length ≤ 1000) := by
        show _ ≤ _
        rw [HI2.out, sum_len, List.length_take]
        omega
      obtain ⟨q0, q1⟩ := q0
      clear hc1 hx hdx hI hP o1 g1 hbd hle hq
      go_wp2_with (at_builtin; refine app_in rfl (.tmp 19) (.tmp 21) rfl w.heap.size L wr (p + x) A' c' rfl hown rfl (by omega) hsz ?_; intro A6 c6 w6 hown6 hg6 _)
      have G6 := g_new hg hg6 (own_new hown)
      clear hown hg6 cx hg
      go_wp2
      go_roundw
      case rel => exact ⟨k + 1, A6, c6, L ++ [p + x], p + x, by omega, by go_num, by simp, rfl, q0, q1, HL2.out, hown6, G6, HI2, HP2⟩
      case measure => simp [intOf]; omega
    · have hge : ¬ (k : Int) < (n : Int) := by omega
      have e1 : L = sumL 0 l := by rw [hI.out, List.take_of_length_le (by have := H1.out; omega)]
      have E1 := Lib.hid e1
      clear e1 hI hP o1 g1
      go_wp2
      go_ret
      rw [← E1.out]
      exact ⟨A', c', rfl, hown, hg⟩
set_option maxHeartbeats 800000 in
theorem timesOf_any (A : Option Addr) (n c : Nat) (l : List Pt) (w : World) (h : Rd w 2 A n c (pc l)) (hn : n ≤ 100) :
    Calls Try.prog 72 #[.slice A n c] w (Numbers (timesL l) w) := by
  have hlen : l.length = n := by have := h.len; rw [pc_len] at this; omega
  have H1 := Lib.hid hlen
  clear hlen
  go_enter Try.func72, Try.ntmps72
  go_wp2
  have o1 := lit_own w w.heap.size 3 1 [] 0 (Nat.le_refl _) (by omega) rfl
  have g1 := g_alloc w (.cells [].toArray 3) none
  go_loopw [3, 4] (fun o i wr => ∃ (k : Nat) (A' : Option Addr) (c' : Nat) (L : List Int), k ≤ n ∧ i = .int .i64 k ∧ o = .slice A' L.length c' ∧ L.length ≤ 1000 ∧ wr.ownsRow w.heap.size 3 1 (.slice A' L.length c') L.length (ic L) ∧ w.grownBy wr none ∧ Hid (L = timesL (l.take k))) (fun _ i _ => n - (intOf i).toNat)
  case atStart => exact ⟨0, _, 0, [], Nat.zero_le _, rfl, rfl, by simp, o1, g1, rfl⟩
  case round =>
    obtain ⟨k, A', c', L, hk, rfl, rfl, hL, hown, hg, hI⟩ := hrel
    have hsz := hg.size
    by_cases hlt : k < n
    · obtain ⟨⟨t, v⟩, hx, hdx⟩ := get_ex (l := l) (i := k) (by have := H1.out; omega)
      obtain ⟨b1, o2, rfl, hc1⟩ := (h.keptN hg).cells hlt
      have cx := hc1 _ _ (pc_at hx).1
      simp only [Nat.add_zero] at cx
      have hlt' : (k : Int) < (n : Int) := by omega
      have HI2 : Hid (L ++ [t] = timesL (l.take (k + 1))) := by
        show _ = _
        rw [take_get hx, hI.out]
        unfold timesL
        rw [List.map_append]
        rfl
      have HL2 : Hid ((L ++ [t]).length ≤ 1000) := by
        show _ ≤ _
        rw [HI2.out]
        unfold timesL
        rw [List.length_map, List.length_take]
        omega
      clear hc1 hx hdx hI o1 g1
      go_wp2_with (at_builtin; refine app_in rfl (.tmp 12) (.tmp 18) rfl w.heap.size L wr t A' c' rfl hown rfl (by omega) hsz ?_; intro A6 c6 w6 hown6 hg6 _)
      have G6 := g_new hg hg6 (own_new hown)
      clear hown hg6 cx hg
      go_wp2
      go_roundw
      case rel => exact ⟨k + 1, A6, c6, L ++ [t], by omega, by go_num, by simp, HL2.out, hown6, G6, HI2⟩
      case measure => simp [intOf]; omega
    · have hge : ¬ (k : Int) < (n : Int) := by omega
      have e1 : L = timesL l := by rw [hI.out, List.take_of_length_le (by have := H1.out; omega)]
      have E1 := Lib.hid e1
      clear e1 hI o1 g1
      go_wp2
      go_ret
      rw [← E1.out]
      exact ⟨A', c', rfl, hown, hg⟩
theorem deltasS_at (A : Option Addr) (n c : Nat) (l L : List Int) (w : World) (h : Rd w 1 A n c (ic l)) (hL : delV l = L) :
    Calls Try.prog 30 #[.slice A n c] w (Numbers L w) := by
  subst hL
  have hlen : l.length = n := by have := h.len; rw [ic_len] at this; omega
  cases hv : okN l with
  | false =>
    rw [delV_no hv]
    have HV := Lib.hid hv
    clear hv hlen
    go_enter Try.func30, Try.ntmps30
    go_wp2_with fail
    refine (validNS_at A n c l false w h HV.out).mono ?_
    rintro e w1 ⟨rfl, g1⟩
    go_wp2
    go_ret
    exact ⟨_, _, rfl, World.ownsRow_nil _ _ _ _, g1⟩
  | true =>
    rw [delV_yes hv]
    obtain ⟨h16, hb⟩ := okN_iff.1 hv
    have HB : Hid (∀ x ∈ l, -100000 ≤ x ∧ x ≤ 100000) := hb
    have HV := Lib.hid hv
    clear hv hb
    go_enter Try.func30, Try.ntmps30
    go_wp2_with fail
    refine (validNS_at A n c l true w h HV.out).mono ?_
    rintro e w1 ⟨rfl, g1⟩
    go_wp2_with fail
    refine (deltas_any A n c l w1 (h.keptN g1) (by omega) (fun x hx => by have := HB.out x hx; omega)).mono ?_
    rintro e w2 ⟨A2, c2, rfl, o2, g2⟩
    have O2 := own_le o2 g1.size
    have G2 := g_trans g1 g2
    clear o2 g1 g2
    go_wp2
    go_ret
    exact ⟨A2, c2, rfl, O2, G2⟩
theorem sumsS_at (A : Option Addr) (n c : Nat) (l L : List Int) (w : World) (h : Rd w 1 A n c (ic l)) (hL : sumX l = L) :
    Calls Try.prog 33 #[.slice A n c] w (Numbers L w) := by
  subst hL
  have hlen : l.length = n := by have := h.len; rw [ic_len] at this; omega
  cases hv : okN l with
  | false =>
    rw [sumX_no hv]
    have HV := Lib.hid hv
    clear hv hlen
    go_enter Try.func33, Try.ntmps33
    go_wp2_with fail
    refine (validNS_at A n c l false w h HV.out).mono ?_
    rintro e w1 ⟨rfl, g1⟩
    go_wp2
    go_ret
    exact ⟨_, _, rfl, World.ownsRow_nil _ _ _ _, g1⟩
  | true =>
    rw [sumX_yes hv]
    obtain ⟨h16, hb⟩ := okN_iff.1 hv
    have HB : Hid (∀ x ∈ l, -100000 ≤ x ∧ x ≤ 100000) := hb
    have HV := Lib.hid hv
    clear hv hb
    go_enter Try.func33, Try.ntmps33
    go_wp2_with fail
    refine (validNS_at A n c l true w h HV.out).mono ?_
    rintro e w1 ⟨rfl, g1⟩
    go_wp2_with fail
    refine (sums_any A n c l w1 (h.keptN g1) (by omega) (fun x hx => by have := HB.out x hx; omega)).mono ?_
    rintro e w2 ⟨A2, c2, rfl, o2, g2⟩
    have O2 := own_le o2 g1.size
    have G2 := g_trans g1 g2
    clear o2 g1 g2
    go_wp2
    go_ret
    exact ⟨A2, c2, rfl, O2, G2⟩
theorem stepsS_at (A : Option Addr) (n c : Nat) (l : List Pt) (L : List Int) (w : World) (h : Rd w 2 A n c (pc l)) (hL : stepsV l = L) :
    Calls Try.prog 36 #[.slice A n c] w (Numbers L w) := by
  subst hL
  have hlen : l.length = n := by have := h.len; rw [pc_len] at this; omega
  cases hv : validL l with
  | false =>
    rw [stepsV_no hv]
    have HV := Lib.hid hv
    clear hv hlen
    go_enter Try.func36, Try.ntmps36
    go_wp2_with fail
    refine (validSS_at A n c l false w h HV.out).mono ?_
    rintro e w1 ⟨rfl, g1⟩
    go_wp2
    go_ret
    exact ⟨_, _, rfl, World.ownsRow_nil _ _ _ _, g1⟩
  | true =>
    rw [stepsV_yes hv]
    have h16 := ((validL_iff l).1 hv).1
    have HS : Hid (smallP l) := valid_small hv
    have HV := Lib.hid hv
    have HL := Lib.hid hlen
    have hn16 : n ≤ 16 := by omega
    clear hv h16 hlen
    go_enter Try.func36, Try.ntmps36
    go_wp2_with fail
    refine (validSS_at A n c l true w h HV.out).mono ?_
    rintro e w1 ⟨rfl, g1⟩
    go_wp2_with fail
    refine (timesOf_any A n c l w1 (h.keptN g1) (by omega)).mono ?_
    rintro e w2 ⟨A2, c2, rfl, o2, g2⟩
    go_wp2_with fail
    refine (deltas_any A2 _ c2 (timesL l) w2 (Rd.own o2) (by unfold timesL; rw [List.length_map]; have := HL.out; omega) (fun x hx => by have := times_bd HS.out x hx; omega)).mono ?_
    rintro e w3 ⟨A3, c3, rfl, o3, g3⟩
    go_wp2_with fail
    refine (deltas_any A3 _ c3 (delL 0 (timesL l)) w3 (Rd.own o3) (by unfold timesL; rw [del_len, List.length_map]; have := HL.out; omega) (fun x hx => by have := dtimes_bd HS.out x hx; omega)).mono ?_
    rintro e w4 ⟨A4, c4, rfl, o4, g4⟩
    have O4 := own_le o4 (Nat.le_trans g1.size (Nat.le_trans g2.size g3.size))
    have G4 := g_trans g1 (g_trans g2 (g_trans g3 g4))
    clear o2 o3 o4 g1 g2 g3 g4
    go_wp2
    go_ret
    exact ⟨A4, c4, rfl, O4, G4⟩
end Go.Proofs.Ytcgeagcfhjdpcaa
