/- Contracts of the loops that copy, compare, mark and look at marks, over slices of buckets. -/
import Derived.Test.YtmokolccohobpaaProg
import Derived.Test.YtmokolccohobpaaSer
import Derived.Test.YtmokolccohobpaaMark
import Derived.Test.YtmokolccohobpaaPApp
import Derived.Test.YtmokolccohobpaaBk
namespace Go.Proofs.Ytmokolccohobpaa
set_option linter.unusedVariables false
open Go.RowKit

/-- marks on buckets -/
def mkBs (k : Int) : Nat → List Bk
  | 0 => []
  | n + 1 => mkBs k n ++ [(k + 5 * n, k + 5 * n + 1, k + 5 * n + 2, k + 5 * n + 3, k + 5 * n + 4)]
theorem mkBs_len (k : Int) (n : Nat) : (mkBs k n).length = n := by
  induction n with
  | zero => rfl
  | succ n ih => simp [mkBs, ih]
theorem mkBs_at (k : Int) (n i : Nat) (h : i < n) : (mkBs k n)[i]? = some (k + 5 * i, k + 5 * i + 1, k + 5 * i + 2, k + 5 * i + 3, k + 5 * i + 4) := by
  induction n with
  | zero => omega
  | succ n ih =>
    unfold mkBs
    by_cases hi : i < n
    · rw [List.getElem?_append_left (by rw [mkBs_len]; exact hi)]
      exact ih hi
    · have : i = n := by omega
      subst this
      rw [List.getElem?_append_right (by rw [mkBs_len]; exact Nat.le_refl _), mkBs_len]
      simp
theorem mkBs_cells (k : Int) (n : Nat) : bkc (mkBs k (n + 1)) = bkc (mkBs k n) ++ [.int .i64 (k + 5 * n), .int .i64 (k + 5 * n + 1), .int .i64 (k + 5 * n + 1 + 1), .int .i64 (k + 5 * n + 1 + 1 + 1), .int .i64 (k + 5 * n + 1 + 1 + 1 + 1)] := by
  show bkc (mkBs k n ++ [_]) = _
  rw [bkc_app, show k + 5 * (n : Int) + 1 + 1 + 1 + 1 = k + 5 * (n : Int) + 4 by omega, show k + 5 * (n : Int) + 1 + 1 + 1 = k + 5 * (n : Int) + 3 by omega, show k + 5 * (n : Int) + 1 + 1 = k + 5 * (n : Int) + 2 by omega]
  rfl
theorem set_five {α : Type} (a : List α) (x0 x1 x2 x3 x4 y0 y1 y2 y3 y4 : α) (b : List α) (k : Nat) (h : a.length = k) : (((((a ++ x0 :: x1 :: x2 :: x3 :: x4 :: b).set k y0).set (k + 1) y1).set (k + 2) y2).set (k + 3) y3).set (k + 4) y4 = (a ++ [y0, y1, y2, y3, y4]) ++ b := by
  subst h
  simp
/-- five stores into a row -/
theorem own_five {w : World} {base g n c k : Nat} {e : TypeId} {xs : List Value} (h : w.ownsRow base e 5 (.slice (some ⟨g, 0, none⟩) n c) n xs) (v0 v1 v2 v3 v4 : Value) :
    (((((w.setCell ⟨g, k, none⟩ v0).setCell ⟨g, k + 1, none⟩ v1).setCell ⟨g, k + 2, none⟩ v2).setCell ⟨g, k + 3, none⟩ v3).setCell ⟨g, k + 4, none⟩ v4).ownsRow base e 5 (.slice (some ⟨g, 0, none⟩) n c) n (((((xs.set k v0).set (k + 1) v1).set (k + 2) v2).set (k + 3) v3).set (k + 4) v4) ∧
    w.grownBy (((((w.setCell ⟨g, k, none⟩ v0).setCell ⟨g, k + 1, none⟩ v1).setCell ⟨g, k + 2, none⟩ v2).setCell ⟨g, k + 3, none⟩ v3).setCell ⟨g, k + 4, none⟩ v4) (some g) := by
  have h0 := h.stored k v0
  have h1 := h0.1.stored (k + 1) v1
  have h2 := h1.1.stored (k + 2) v2
  have h3 := h2.1.stored (k + 3) v3
  have h4 := h3.1.stored (k + 4) v4
  exact ⟨h4.1, g_trans (g_trans (g_trans (g_trans h0.2 h1.2) h2.2) h3.2) h4.2⟩

theorem szBucketS_any (A : Option Addr) (n c : Nat) (left : Int) (w : World) (hn : n ≤ 9223372036854775807) (h0 : 0 ≤ left) (h1 : left ≤ 1048576) :
    Calls Try.prog 18 #[.slice A n c, .int .i64 left] w fun e w' => e = .returned (.int .i64 (if left < n then -1 else left - n)) ∧ w = w' := by
  by_cases h : left < (n : Int)
  · rw [if_pos h]
    go_enter Try.func18, Try.ntmps18
    go_wp2
    go_ret
    exact ⟨rfl, rfl⟩
  · rw [if_neg h]
    go_enter Try.func18, Try.ntmps18
    go_wp2
    go_ret
    exact ⟨rfl, rfl⟩
set_option maxHeartbeats 1600000 in
theorem toBucketS_any (A : Option Addr) (n c : Nat) (la : List Bk) (w : World) (h1 : Rd w 5 A n c (bkc la)) (hn : n ≤ 16777216) :
    Calls Try.prog 20 #[.slice A n c] w fun e w' => ∃ A' c', e = .returned (.slice A' n c') ∧ w'.ownsRow w.heap.size 39 5 (.slice A' n c') n (bkc la) ∧ w.grownBy w' none := by
  have la1 : la.length = n := by have := h1.len; rw [bkc_len] at this; omega
  have H1 := Lib.hid la1
  clear la1
  obtain ⟨i0, hi0, hz0, hz1, hz2⟩ := info_parts infoBk
  go_enter Try.func20, Try.ntmps20
  go_wp2_with (at_make; refine wpList_make_full w rfl _ _ 25 rfl w.heap.size 39 i0 _ 5 Try.underlying25 hi0 hz0 hz1 _ _ _ _ n rfl rfl rfl rfl (by rw [hz2]; omega) (by simp only [maxLen]; omega) (Nat.le_refl _) ?_; intro w1 hown1 hg1)
  clear hz0 hz1 hz2
  have hlen := hown1.1
  have HL : Hid (∃ tl : List Value, tl.length = n * 5 - 0 * 5 ∧ w1.ownsRow w.heap.size 39 5 (.slice (some ⟨w.heap.size, 0, none⟩) n n) n (bkc (la.take 0) ++ tl)) := ⟨_, by rw [hlen]; omega, hown1⟩
  clear hlen hown1
  go_wp2
  go_loopw [4] (fun i wr => ∃ k : Nat, k ≤ n ∧ i = .int .i64 k ∧ w.grownBy wr none ∧ Hid (∃ tl : List Value, tl.length = n * 5 - k * 5 ∧ wr.ownsRow w.heap.size 39 5 (.slice (some ⟨w.heap.size, 0, none⟩) n n) n (bkc (la.take k) ++ tl))) (fun i _ => n - (intOf i).toNat)
  case atStart => exact ⟨0, Nat.zero_le _, rfl, hg1, HL⟩
  case round =>
    obtain ⟨k, hk, rfl, hg, hO⟩ := hrel
    by_cases hlt : k < n
    · obtain ⟨⟨s, ct, u, lo, hi⟩, hx, hdx⟩ := get_ex (l := la) (i := k) (by have := H1.out; omega)
      obtain ⟨b1, o1, rfl, hc1⟩ := (h1.keptN hg).cells hlt
      obtain ⟨x0, x1, x2, x3, x4⟩ := bkc_at hx
      have c0 := hc1 _ _ x0
      have c1 := hc1 _ _ x1
      have c2 := hc1 _ _ x2
      have c3 := hc1 _ _ x3
      have c4 := hc1 _ _ x4
      simp only [Nat.add_zero, ← Nat.add_assoc] at c0 c1 c2 c3 c4
      have HX := Lib.hid (And.intro hx hg)
      clear hc1 hx hdx HL x0 x1 x2 x3 x4
      have hlt' : (k : Int) < (n : Int) := by omega
      go_wp2_with fail
      refine (toBucket_any s ct u lo hi _).mono ?_
      rintro e w2 ⟨rfl, hg2⟩
      obtain ⟨tl, htl, hO⟩ := hO.out
      have hO2 := own_keptN hO hg2
      have hlen : (bkc (la.take k)).length = k * 5 := by rw [bkc_len, List.length_take]; have := H1.out; omega
      obtain ⟨t0, t1, t2, t3, t4, tl', rfl⟩ : ∃ t0 t1 t2 t3 t4 tl', tl = t0 :: t1 :: t2 :: t3 :: t4 :: tl' := by
        match tl, htl with
        | [], htl => simp at htl; omega
        | [_], htl => simp at htl; omega
        | [_, _], htl => simp at htl; omega
        | [_, _, _], htl => simp at htl; omega
        | [_, _, _, _], htl => simp at htl; omega
        | t0 :: t1 :: t2 :: t3 :: t4 :: tl', _ => exact ⟨t0, t1, t2, t3, t4, tl', rfl⟩
      have cd0 : w2.cell? ⟨w.heap.size, k * 5, none⟩ = some t0 := by
        rw [hO2.cellAt (k * 5) (by omega), List.getElem?_append_right (by rw [hlen]; omega), hlen]
        simp
      have cd1 : w2.cell? ⟨w.heap.size, k * 5 + 1, none⟩ = some t1 := by
        rw [hO2.cellAt (k * 5 + 1) (by omega), List.getElem?_append_right (by rw [hlen]; omega), hlen]
        simp
      have cd2 : w2.cell? ⟨w.heap.size, k * 5 + 2, none⟩ = some t2 := by
        rw [hO2.cellAt (k * 5 + 2) (by omega), List.getElem?_append_right (by rw [hlen]; omega), hlen]
        simp
      have cd3 : w2.cell? ⟨w.heap.size, k * 5 + 3, none⟩ = some t3 := by
        rw [hO2.cellAt (k * 5 + 3) (by omega), List.getElem?_append_right (by rw [hlen]; omega), hlen]
        simp
      have cd4 : w2.cell? ⟨w.heap.size, k * 5 + 4, none⟩ = some t4 := by
        rw [hO2.cellAt (k * 5 + 4) (by omega), List.getElem?_append_right (by rw [hlen]; omega), hlen]
        simp
      have fd0 := hO2.frozenAt (k * 5)
      have fd1 := hO2.frozenAt (k * 5 + 1)
      have fd2 := hO2.frozenAt (k * 5 + 2)
      have fd3 := hO2.frozenAt (k * 5 + 3)
      have fd4 := hO2.frozenAt (k * 5 + 4)
      have HO : Hid (_ ∧ _) := own_five (k := k * 5) hO2 (.int .i64 s) (.int .i64 ct) (.int .i64 u) (.int .i64 lo) (.int .i64 hi)
      have HT := Lib.hid (And.intro hlen (And.intro htl hg2))
      clear hO hO2 hlen htl hg2
      go_wp2
      go_roundw
      case rel =>
        refine ⟨k + 1, by omega, by go_num, ?_, tl', by have := HT.out.2.1; simp at this; omega, ?_⟩
        · exact g_new (g_trans HX.out.2 HT.out.2.2) HO.out.2 (by intro g e; injection e with e; omega)
        · have := HO.out.1
          rw [set_five _ _ _ _ _ _ _ _ _ _ _ _ _ HT.out.1] at this
          rw [take_get HX.out.1, bkc_app]
          exact this
      case measure => simp [intOf]; omega
    · have hkn : k = n := by omega
      have hge : ¬ (k : Int) < (n : Int) := by omega
      have HK := Lib.hid hkn
      clear hkn HL
      go_wp2
      go_ret
      refine ⟨_, _, rfl, ?_, hg⟩
      obtain ⟨tl, htl, hO⟩ := hO.out
      rw [HK.out, Nat.sub_self] at htl
      rw [List.eq_nil_of_length_eq_zero htl, List.append_nil, List.take_of_length_le (by have := H1.out; have := HK.out; omega)] at hO
      exact hO

set_option maxHeartbeats 8000000 in
theorem markBucketS_any (A : Option Addr) (n c : Nat) (la : List Bk) (k0 : Int) (base : Nat) (w : World) (h1 : w.ownsRow base 39 5 (.slice A n c) n (bkc la)) (hn : n ≤ 16777216) (hk0 : 0 ≤ k0) (hk1 : k0 ≤ 1000000000000) :
    Calls Try.prog 37 #[.slice A n c, .int .i64 k0] w fun e w' => e = .returned (.int .i64 (k0 + 5 * n)) ∧ w'.ownsRow base 39 5 (.slice A n c) n (bkc (mkBs k0 n)) ∧ w.grownBy w' (Value.slice A n c).ownBlock := by
  have la1 : la.length = n := by have := h1.1; rw [bkc_len] at this; omega
  have H1 := Lib.hid la1
  have HL : Hid (w.ownsRow base 39 5 (.slice A n c) n (bkc (mkBs k0 0) ++ bkc (la.drop 0))) := h1
  have HA : Hid (0 < n → ∃ g, A = some ⟨g, 0, none⟩ ∧ base ≤ g ∧ g < w.heap.size) := own_addr h1
  clear la1 h1
  go_enter Try.func37, Try.ntmps37
  go_wp2
  go_loopw [1, 5] (fun q i wr => ∃ k : Nat, k ≤ n ∧ i = .int .i64 k ∧ q = .int .i64 (k0 + 5 * k) ∧ w.grownBy wr (Value.slice A n c).ownBlock ∧ Hid (wr.ownsRow base 39 5 (.slice A n c) n (bkc (mkBs k0 k) ++ bkc (la.drop k)))) (fun _ i _ => n - (intOf i).toNat)
  case atStart => exact ⟨0, Nat.zero_le _, rfl, by go_num, g_refl _ _, HL⟩
  case round =>
    obtain ⟨k, hk, rfl, rfl, hg, hO⟩ := hrel
    by_cases hlt : k < n
    · obtain ⟨⟨s, ct, u, lo, hi⟩, hx, hdx⟩ := get_ex (l := la) (i := k) (by have := H1.out; omega)
      obtain ⟨g, rfl, hgb, hgs⟩ := HA.out (by omega)
      have hO := hO.out
      have hlen : (bkc (mkBs k0 k)).length = k * 5 := by rw [bkc_len, mkBs_len]
      have hsplit : bkc (la.drop k) = .int .i64 s :: .int .i64 ct :: .int .i64 u :: .int .i64 lo :: .int .i64 hi :: bkc (la.drop (k + 1)) := by rw [hdx]; rfl
      rw [hsplit] at hO
      have cd0 : wr.cell? ⟨g, k * 5, none⟩ = some (.int .i64 s) := by
        rw [hO.cellAt (k * 5) (by omega), List.getElem?_append_right (by rw [hlen]; omega), hlen]
        simp
      have cd1 : wr.cell? ⟨g, k * 5 + 1, none⟩ = some (.int .i64 ct) := by
        rw [hO.cellAt (k * 5 + 1) (by omega), List.getElem?_append_right (by rw [hlen]; omega), hlen]
        simp
      have cd2 : wr.cell? ⟨g, k * 5 + 2, none⟩ = some (.int .i64 u) := by
        rw [hO.cellAt (k * 5 + 2) (by omega), List.getElem?_append_right (by rw [hlen]; omega), hlen]
        simp
      have cd3 : wr.cell? ⟨g, k * 5 + 3, none⟩ = some (.int .i64 lo) := by
        rw [hO.cellAt (k * 5 + 3) (by omega), List.getElem?_append_right (by rw [hlen]; omega), hlen]
        simp
      have cd4 : wr.cell? ⟨g, k * 5 + 4, none⟩ = some (.int .i64 hi) := by
        rw [hO.cellAt (k * 5 + 4) (by omega), List.getElem?_append_right (by rw [hlen]; omega), hlen]
        simp
      have fd0 := hO.frozenAt (k * 5)
      have fd1 := hO.frozenAt (k * 5 + 1)
      have fd2 := hO.frozenAt (k * 5 + 2)
      have fd3 := hO.frozenAt (k * 5 + 3)
      have fd4 := hO.frozenAt (k * 5 + 4)
      have HO : Hid (_ ∧ _) := own_five (k := k * 5) hO (.int .i64 (k0 + 5 * k)) (.int .i64 (k0 + 5 * k + 1)) (.int .i64 (k0 + 5 * k + 1 + 1)) (.int .i64 (k0 + 5 * k + 1 + 1 + 1)) (.int .i64 (k0 + 5 * k + 1 + 1 + 1 + 1))
      have HT := Lib.hid hlen
      have HG := Lib.hid hg
      clear hx hdx hO hlen hsplit HL HA hgb hgs hg
      have hlt' : (k : Int) < (n : Int) := by omega
      go_wp2
      go_roundw
      case rel =>
        refine ⟨k + 1, by omega, by go_num, by go_num, g_trans HG.out HO.out.2, ?_⟩
        have := HO.out.1
        rw [set_five _ _ _ _ _ _ _ _ _ _ _ _ _ HT.out, ← mkBs_cells] at this
        exact this
      case measure => simp [intOf]; omega
    · have hkn : k = n := by omega
      have hge : ¬ (k : Int) < (n : Int) := by omega
      have HK := Lib.hid hkn
      clear hkn HL HA
      go_wp2
      go_ret
      have hO := hO.out
      rw [HK.out, List.drop_eq_nil_of_le (by have := H1.out; omega)] at hO
      have e0 : bkc ([] : List Bk) = [] := rfl
      rw [e0, List.append_nil] at hO
      exact ⟨ret_i (by rw [HK.out]), hO, hg⟩

set_option maxHeartbeats 800000 in
theorem heldBucketS_any (A : Option Addr) (n c : Nat) (k0 : Int) (w : World) (h1 : Rd w 5 A n c (bkc (mkBs k0 n))) (hn : n ≤ 16777216) (hk0 : 0 ≤ k0) (hk1 : k0 ≤ 1000000000000) :
    Calls Try.prog 38 #[.slice A n c, .int .i64 k0] w fun e w' => e = .returned (.int .i64 (k0 + 5 * n)) ∧ w.grownBy w' none := by
  go_enter Try.func38, Try.ntmps38
  go_wp2
  go_loopw [1, 5] (fun q i wr => ∃ k : Nat, k ≤ n ∧ i = .int .i64 k ∧ q = .int .i64 (k0 + 5 * k) ∧ w.grownBy wr none) (fun _ i _ => n - (intOf i).toNat)
  case atStart => exact ⟨0, Nat.zero_le _, rfl, by go_num, g_refl _ _⟩
  case round =>
    obtain ⟨k, hk, rfl, rfl, hg⟩ := hrel
    by_cases hlt : k < n
    · obtain ⟨b1, o1, rfl, hc1⟩ := (h1.keptN hg).cells hlt
      obtain ⟨x0, x1, x2, x3, x4⟩ := bkc_at (mkBs_at k0 n k hlt)
      have c0 := hc1 _ _ x0
      have c1 := hc1 _ _ x1
      have c2 := hc1 _ _ x2
      have c3 := hc1 _ _ x3
      have c4 := hc1 _ _ x4
      simp only [Nat.add_zero, ← Nat.add_assoc] at c0 c1 c2 c3 c4
      clear hc1 h1 x0 x1 x2 x3 x4
      have hlt' : (k : Int) < (n : Int) := by omega
      go_wp2
      go_roundw
      case rel => exact ⟨k + 1, by omega, by go_num, by go_num, hg⟩
      case measure => simp [intOf]; omega
    · have hkn : k = n := by omega
      have hge : ¬ (k : Int) < (n : Int) := by omega
      have HK := Lib.hid hkn
      clear hkn
      go_wp2
      go_ret
      exact ⟨ret_i (by rw [HK.out]), hg⟩

end Go.Proofs.Ytmokolccohobpaa
