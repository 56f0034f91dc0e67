/- What the generators of buckets give. -/
import Derived.Test.YtoncefhcabgaaaaProg
import Derived.Test.YtoncefhcabgaaaaPick
import Derived.Test.YtoncefhcabgaaaaPApp
import Derived.Test.YtoncefhcabgaaaaDrawS
import Derived.Test.YtoncefhcabgaaaaRoll
import Derived.Test.YtoncefhcabgaaaaBMark
import Derived.Deep.RegionLaw
namespace Go.Proofs.Ytoncefhcabgaaaa
set_option linter.unusedVariables false
open Go.RowKit
attribute [local irreducible] wpQuiet

theorem someWidth_any (R : Nat) (p : Int) (w : World) (h : Rdr w R p) (hp : p ≤ 900000000) :
    Calls Try.prog 21 #[.pointer (some ⟨R, 0, none⟩)] w fun e w' => ∃ x, e = .returned (.int .i64 x) ∧ (0 ≤ x ∧ x ≤ 101) ∧ Rdr w' R (p + 1) ∧ w.grownBy w' (some R) := by
  go_enter Try.func21, Try.ntmps21
  go_wp2_with fail
  refine (one_lit _ _ [10, 5, 20, 1, 100, 7, 10, 0, 101] _ w h (by omega) (by simp) (by simp)).mono ?_
  rintro e w4 ⟨x, rfl, hx, hr4, hg4⟩
  have hx2 : 0 ≤ x ∧ x ≤ 101 := by simp at hx; omega
  clear hx
  go_wp2
  go_ret
  exact ⟨x, rfl, hx2, hr4, hg4⟩
def SomeB (R : Nat) (p : Int) (d : Int) (w : World) (e : Ending) (w' : World) : Prop := ∃ (A : Option Addr) (c : Nat) (l : List Bk) (q : Int), e = .returned (.slice A l.length c) ∧ w'.ownsRow w.heap.size 31 5 (.slice A l.length c) l.length (bkc l) ∧ l.length ≤ 17 ∧ Rdr w' R q ∧ q ≤ p + d ∧ w.grownBy w' (some R)
theorem bucketsOf_at (A : Option Addr) (n c : Nat) (l : List Pt) (W : Int) (w : World) (h : Rd w 2 A n c (pc l)) (hm : midT l) (hW : 1 ≤ W) (hW2 : W ≤ 100) :
    Calls Try.prog 25 #[.slice A n c, .int .i64 W] w fun e w' => ∃ (L : List Bk), L.length ≤ 17 ∧ Rolled L w e w' := by
  have hl : l.length = n := by have := h.len; rw [pc_len] at this; omega
  have h17 := hm.1.1
  refine (bucketsOf_any A n c l W w h (by omega) (fun p hp => ?_) hW hW2).mono fun e w' h' => ⟨_, ?_, h'⟩
  · have h1 := hm.1.2 p hp
    have h2 := hm.2 p hp
    unfold midP at h1
    omega
  · exact Nat.le_trans roll_len h17

def posB (l : List Bk) : Prop := l.length ≤ 17
theorem len_set {l : List Bk} {k : Nat} {b : Bk} : (l.set k b).length = l.length := by simp
/-- five cells of a row of buckets, set to a new bucket -/
theorem bkc_set {l : List Bk} {k : Nat} (hk : k < l.length) (b : Bk) : (((((bkc l).set (k * 5) (.int .i64 b.1)).set (k * 5 + 1) (.int .i64 b.2.1)).set (k * 5 + 2) (.int .i64 b.2.2.1)).set (k * 5 + 3) (.int .i64 b.2.2.2.1)).set (k * 5 + 4) (.int .i64 b.2.2.2.2) = bkc (l.set k b) := by
  have hx : l[k]? = some l[k] := List.getElem?_eq_getElem hk
  have e1 : l = l.take k ++ l[k] :: l.drop (k + 1) := by
    rw [← List.drop_eq_getElem_cons hk, List.take_append_drop]
  have e2 : l.set k b = l.take k ++ b :: l.drop (k + 1) := by
    rw [List.set_eq_take_append_cons_drop, if_pos hk]
  rw [e2]
  have e3 : bkc l = bkc (l.take k) ++ .int .i64 l[k].1 :: .int .i64 l[k].2.1 :: .int .i64 l[k].2.2.1 :: .int .i64 l[k].2.2.2.1 :: .int .i64 l[k].2.2.2.2 :: bkc (l.drop (k + 1)) := by
    conv => lhs; rw [e1]
    rw [bkc_app]
    rfl
  rw [e3, set_five _ _ _ _ _ _ _ _ _ _ _ _ _ (by rw [bkc_len, List.length_take]; omega), bkc_app]
  rw [List.append_assoc]
  rfl
theorem bk_cells {w : World} {base g c : Nat} {l : List Bk} {k : Nat} (hown : w.ownsRow base 31 5 (.slice (some ⟨g, 0, none⟩) l.length c) l.length (bkc l)) {s n u lo hi : Int} (hx : l[k]? = some (s, n, u, lo, hi)) :
    (w.cell? ⟨g, k * 5, none⟩ = some (.int .i64 s) ∧ w.cell? ⟨g, k * 5 + 1, none⟩ = some (.int .i64 n) ∧ w.cell? ⟨g, k * 5 + 2, none⟩ = some (.int .i64 u) ∧ w.cell? ⟨g, k * 5 + 3, none⟩ = some (.int .i64 lo) ∧ w.cell? ⟨g, k * 5 + 4, none⟩ = some (.int .i64 hi)) := by
  have hk : k < l.length := (List.getElem?_eq_some_iff.1 hx).1
  obtain ⟨x0, x1, x2, x3, x4⟩ := bkc_at hx
  exact ⟨(hown.cellAt (k * 5) (by omega)).trans x0, (hown.cellAt (k * 5 + 1) (by omega)).trans x1, (hown.cellAt (k * 5 + 2) (by omega)).trans x2, (hown.cellAt (k * 5 + 3) (by omega)).trans x3, (hown.cellAt (k * 5 + 4) (by omega)).trans x4⟩

theorem bkc_split {l : List Bk} {k : Nat} {b : Bk} (hx : l[k]? = some b) : bkc l = bkc (l.take k) ++ (bf b ++ bkc (l.drop (k + 1))) := by
  obtain ⟨hk, rfl⟩ := List.getElem?_eq_some_iff.1 hx
  have e1 : l = l.take k ++ l[k] :: l.drop (k + 1) := by
    rw [← List.drop_eq_getElem_cons hk, List.take_append_drop]
  conv => lhs; rw [e1]
  rw [bkc_app]
  rfl
theorem bkc_put {l : List Bk} {k : Nat} (hk : k < l.length) (b : Bk) : bkc (l.set k b) = bkc (l.take k) ++ (bf b ++ bkc (l.drop (k + 1))) := by
  rw [List.set_eq_take_append_cons_drop, if_pos hk, bkc_app]
  rfl
theorem set_at {α : Type} (a b : List α) (k j : Nat) (v : α) (h : a.length = k) : (a ++ b).set (k + j) v = a ++ b.set j v := by
  subst h
  rw [List.set_append_right _ _ (by omega)]
  simp
theorem bkc_set1 {l : List Bk} {k : Nat} {s n u lo hi : Int} (hx : l[k]? = some (s, n, u, lo, hi)) (v : Int) : (bkc l).set (k * 5 + 1) (.int .i64 v) = bkc (l.set k (s, v, u, lo, hi)) := by
  have hk : k < l.length := (List.getElem?_eq_some_iff.1 hx).1
  rw [bkc_split hx, bkc_put hk, set_at _ _ _ _ _ (by rw [bkc_len, List.length_take]; omega)]
  rfl
theorem bkc_set2 {l : List Bk} {k : Nat} {s n u lo hi : Int} (hx : l[k]? = some (s, n, u, lo, hi)) (v : Int) : (bkc l).set (k * 5 + 2) (.int .i64 v) = bkc (l.set k (s, n, v, lo, hi)) := by
  have hk : k < l.length := (List.getElem?_eq_some_iff.1 hx).1
  rw [bkc_split hx, bkc_put hk, set_at _ _ _ _ _ (by rw [bkc_len, List.length_take]; omega)]
  rfl

set_option maxHeartbeats 3200000 in
theorem someBkA_any (R : Nat) (p x : Int) (w : World) (h : Rdr w R p) (hp : p ≤ 700000000) (hx : 0 ≤ x ∧ x ≤ 101) (hV : x ≤ 1) :
    Calls Try.prog 27 #[.pointer (some ⟨R, 0, none⟩), .int .i64 x] w (SomeB R p 2000 w) := by
  have hR := h.lt
  obtain ⟨x0, x1⟩ := hx
  go_enter Try.func27, Try.ntmps27
  go_wp2_with fail
  refine (someSeries_any R p _ h (by omega)).mono ?_
  rintro e w2 ⟨A, c, l, q, rfl, o2, hmid, hl16, hr2, hq, hg2⟩
  clear h
  go_wp2_with fail
  refine (bucketsOf_at A l.length c l 1 _ (Rd.own o2) hmid (by omega) (by omega)).mono ?_
  rintro e w3 ⟨L, hL17, A3, c3, rfl, o3, hg3⟩
  have hs2 := hg2.size
  have O3 := own_le (base' := w.heap.size) o3 hs2
  have G3 := g_trans hg2 (g_any hg3 _)
  have hr3 := hr2.kept hg3
  have hq3 : q ≤ p + 1000 := hq
  clear o2 o3 hg2 hg3 hr2 hmid hl16 hs2 hq
  by_cases hL0 : L.length = 0
  · have hL : L = [] := List.eq_nil_of_length_eq_zero hL0
    subst hL
    simp only [List.length_nil] at *
    go_wp2
    go_ret
    exact ⟨A3, c3, [], q, rfl, O3, by simp, hr3, by omega, G3⟩
  have hLp : decide (0 < L.length) = true := by simp; omega
  obtain ⟨g, rfl, hgb, hgs⟩ := own_addr O3 (by omega)
  go_wp2_with fail
  refine (pick_any R _ _ _ hr3 (by omega) (by omega)).mono ?_
  rintro e w4 ⟨y, rfl, y0, y1, hr4, hg4⟩
  have O4 := keep_row O3 hg4 hR
  have G4 := g_trans G3 hg4
  clear O3 hr3 G3 hg4 y1
  by_cases hy4 : y = 0
  rotate_left
  · have hy' : (y == 0) = false := by simpa using hy4
    -- the second half
    go_wp2_with fail
    refine (pick_any R _ _ _ hr4 (by omega) (by omega)).mono ?_
    rintro e w8 ⟨y, rfl, y0, y1, hr8, hg8⟩
    have O8 := keep_row O4 hg8 hR
    have G8 := g_trans G4 hg8
    clear O4 hr4 G4 hg8 y1
    by_cases hy : y = 0
    · subst hy
      go_wp2_with fail
      refine (pick_any R _ _ _ hr8 (by omega) (by omega)).mono ?_
      rintro e w9 ⟨z, rfl, z0, z1, hr9, hg9⟩
      obtain ⟨k, rfl⟩ := Int.eq_ofNat_of_zero_le z0
      have hkn : k < L.length := by omega
      have O9 := keep_row O8 hg9 hR
      have G9 := g_trans G8 hg9
      clear hr8 O8 hg9 G8 z1
      go_wp2_with fail
      refine (one_lit R _ [0, 3, 1000, -1] _ w9 hr9 (by omega) (by simp) (by simp)).mono ?_
      rintro e w10 ⟨v0, rfl, -, hr10, hg10⟩
      clear hr9
      go_wp2_with fail
      refine (one_lit R _ [0, 101, 1] _ w10 hr10 (by omega) (by simp) (by simp)).mono ?_
      rintro e w11 ⟨v1, rfl, -, hr11, hg11⟩
      clear hr10
      go_wp2_with fail
      refine (one_lit R _ [0, 5] _ w11 hr11 (by omega) (by simp) (by simp)).mono ?_
      rintro e w12 ⟨v2, rfl, -, hr12, hg12⟩
      clear hr11
      go_wp2_with fail
      refine (one_lit R _ [1, 0] _ w12 hr12 (by omega) (by simp) (by simp)).mono ?_
      rintro e w13 ⟨v3, rfl, -, hr13, hg13⟩
      clear hr12
      go_wp2_with fail
      refine (one_lit R _ [0, 1001] _ w13 hr13 (by omega) (by simp) (by simp)).mono ?_
      rintro e w14 ⟨v4, rfl, -, hr14, hg14⟩
      have GG := g_trans hg10 (g_trans hg11 (g_trans hg12 (g_trans hg13 hg14)))
      have O14 := keep_row O9 GG hR
      have G14 := g_trans G9 GG
      clear hr13 hg10 hg11 hg12 hg13 hg14 GG O9 G9
      obtain ⟨⟨s0, n0, u0, lo0, hi0⟩, hx, -⟩ := get_ex (l := L) (i := k) (by omega)
      have hcc := bk_cells O14 hx
      obtain ⟨b0, b1, b2, b3, b4⟩ := hcc
      have f0 := O14.frozenAt (k * 5)
      have f1 := O14.frozenAt (k * 5 + 1)
      have f2 := O14.frozenAt (k * 5 + 2)
      have f3 := O14.frozenAt (k * 5 + 3)
      have f4 := O14.frozenAt (k * 5 + 4)
      have hF := own_five (k := k * 5) O14 (.int .i64 v0) (.int .i64 v1) (.int .i64 v2) (.int .i64 v3) (.int .i64 v4)
      rw [bkc_set hkn (v0, v1, v2, v3, v4)] at hF
      have hlen2 : (L.set k (v0, v1, v2, v3, v4)).length = L.length := by simp
      have R15 := Lib.hid (Rdr.far hr14 O14 hR hF.2)
      have HO := Lib.hid hF.1
      have HG := Lib.hid (g_new G14 hF.2 (own_new O14))
      have hk' : (k : Int) < (L.length : Int) := by omega
      clear hx hF O14 G14 hr14
      go_wp2
      go_ret
      exact ⟨some ⟨g, 0, none⟩, c3, L.set k (v0, v1, v2, v3, v4), _, by rw [hlen2]; rfl, by rw [hlen2]; exact HO.out, by rw [hlen2]; omega, R15.out, by omega, HG.out⟩
    · have hy' : (y == 0) = false := by simpa using hy
      go_wp2
      go_ret
      exact ⟨_, c3, L, _, rfl, O8, by omega, hr8, by omega, G8⟩
  · subst hy4
    go_wp2_with fail
    refine (pick_any R _ _ _ hr4 (by omega) (by omega)).mono ?_
    rintro e w5 ⟨z, rfl, z0, z1, hr5, hg5⟩
    obtain ⟨k5, rfl⟩ := Int.eq_ofNat_of_zero_le z0
    have hkn5 : k5 < L.length := by omega
    have O5 := keep_row O4 hg5 hR
    have G5 := g_trans G4 hg5
    clear hr4 O4 hg5 G4 z1
    go_wp2_with fail
    refine (one_lit R _ [2, 50, 100] _ w5 hr5 (by omega) (by simp) (by simp)).mono ?_
    rintro e w6 ⟨v, rfl, hv, hr6, hg6⟩
    have O6 := keep_row O5 hg6 hR
    have G6 := g_trans G5 hg6
    clear hr5 O5 hg6 G5 hv
    obtain ⟨⟨s0, n0, u0, lo0, hi0⟩, hx, -⟩ := get_ex (l := L) (i := k5) (by omega)
    have hcc := bk_cells O6 hx
    obtain ⟨b0, b1, b2, b3, b4⟩ := hcc
    have f1 := O6.frozenAt (k5 * 5 + 1)
    have f2 := O6.frozenAt (k5 * 5 + 2)
    have hk5' : (k5 : Int) < (L.length : Int) := by omega
    obtain ⟨m, hm⟩ : ∃ m, IntKind.i64.wrap (lo0 * v) = m := ⟨_, rfl⟩
    have hx2 : (L.set k5 (s0, v, u0, lo0, hi0))[k5]? = some (s0, v, u0, lo0, hi0) := by simp [hkn5]
    have t1 := O6.stored (k5 * 5 + 1) (.int .i64 v)
    rw [bkc_set1 hx] at t1
    have t2 := t1.1.stored (k5 * 5 + 2) (.int .i64 m)
    rw [bkc_set2 hx2] at t2
    have hlen1 : ((L.set k5 (s0, v, u0, lo0, hi0)).set k5 (s0, v, m, lo0, hi0)).length = L.length := by simp
    obtain ⟨L2, hL2⟩ : ∃ L2, (L.set k5 (s0, v, u0, lo0, hi0)).set k5 (s0, v, m, lo0, hi0) = L2 := ⟨_, rfl⟩
    rw [hL2] at t2 hlen1
    rw [← hlen1] at t2
    have TG := g_trans t1.2 t2.2
    have R7 := Lib.hid (Rdr.far hr6 O6 hR TG)
    have HO := Lib.hid t2.1
    have HG := Lib.hid (g_new G6 TG (own_new O6))
    clear hx hx2 t1 t2 TG O6 G6 hr6 hL2
    go_wp2_with fail
    go_region_law (fail)
    all_goals
        rw [← hlen1]
        have hLp2 : decide (0 < L2.length) = true := by rw [hlen1]; exact hLp
        have O7 := own_keptN HO.out (g_drew _ none)
        have hr7 := R7.out.kept (g_drew _ none)
        have G7 := g_trans HG.out (g_drew _ _)
        have h217 : L2.length ≤ 17 := by omega
        have h20 : ¬ L2.length = 0 := by omega
        clear HO R7 HG f1 f2 b0 b1 b2 b3 b4 hm hk5' hkn5 hLp hlen1
        generalize ((w6.setCell ⟨g, k5 * 5 + 1, none⟩ (.int .i64 v)).setCell ⟨g, k5 * 5 + 2, none⟩ (.int .i64 m)).drew = wd at O7 hr7 G7 ⊢
        go_wp2_with fail
        refine (pick_any R _ _ _ hr7 (by omega) (by omega)).mono ?_
        rintro e w8 ⟨y, rfl, y0, y1, hr8, hg8⟩
        have O8 := keep_row O7 hg8 hR
        have G8 := g_trans G7 hg8
        clear O7 hr7 G7 hg8 y1
        by_cases hy : y = 0
        · subst hy
          go_wp2_with fail
          refine (pick_any R _ _ _ hr8 (by omega) (by omega)).mono ?_
          rintro e w9 ⟨z, rfl, z0, z1, hr9, hg9⟩
          obtain ⟨k, rfl⟩ := Int.eq_ofNat_of_zero_le z0
          have hkn : k < L2.length := by omega
          have O9 := keep_row O8 hg9 hR
          have G9 := g_trans G8 hg9
          clear hr8 O8 hg9 G8 z1
          go_wp2_with fail
          refine (one_lit R _ [0, 3, 1000, -1] _ w9 hr9 (by omega) (by simp) (by simp)).mono ?_
          rintro e w10 ⟨v0, rfl, -, hr10, hg10⟩
          clear hr9
          go_wp2_with fail
          refine (one_lit R _ [0, 101, 1] _ w10 hr10 (by omega) (by simp) (by simp)).mono ?_
          rintro e w11 ⟨v1, rfl, -, hr11, hg11⟩
          clear hr10
          go_wp2_with fail
          refine (one_lit R _ [0, 5] _ w11 hr11 (by omega) (by simp) (by simp)).mono ?_
          rintro e w12 ⟨v2, rfl, -, hr12, hg12⟩
          clear hr11
          go_wp2_with fail
          refine (one_lit R _ [1, 0] _ w12 hr12 (by omega) (by simp) (by simp)).mono ?_
          rintro e w13 ⟨v3, rfl, -, hr13, hg13⟩
          clear hr12
          go_wp2_with fail
          refine (one_lit R _ [0, 1001] _ w13 hr13 (by omega) (by simp) (by simp)).mono ?_
          rintro e w14 ⟨v4, rfl, -, hr14, hg14⟩
          have GG := g_trans hg10 (g_trans hg11 (g_trans hg12 (g_trans hg13 hg14)))
          have O14 := keep_row O9 GG hR
          have G14 := g_trans G9 GG
          clear hr13 hg10 hg11 hg12 hg13 hg14 GG O9 G9
          obtain ⟨⟨s0, n0, u0, lo0, hi0⟩, hx, -⟩ := get_ex (l := L2) (i := k) (by omega)
          have hcc := bk_cells O14 hx
          obtain ⟨b0, b1, b2, b3, b4⟩ := hcc
          have f0 := O14.frozenAt (k * 5)
          have f1 := O14.frozenAt (k * 5 + 1)
          have f2 := O14.frozenAt (k * 5 + 2)
          have f3 := O14.frozenAt (k * 5 + 3)
          have f4 := O14.frozenAt (k * 5 + 4)
          have hF := own_five (k := k * 5) O14 (.int .i64 v0) (.int .i64 v1) (.int .i64 v2) (.int .i64 v3) (.int .i64 v4)
          rw [bkc_set hkn (v0, v1, v2, v3, v4)] at hF
          have hlen2 : (L2.set k (v0, v1, v2, v3, v4)).length = L2.length := by simp
          have R15 := Lib.hid (Rdr.far hr14 O14 hR hF.2)
          have HO := Lib.hid hF.1
          have HG := Lib.hid (g_new G14 hF.2 (own_new O14))
          have hk' : (k : Int) < (L2.length : Int) := by omega
          clear hx hF O14 G14 hr14
          go_wp2
          go_ret
          exact ⟨some ⟨g, 0, none⟩, c3, L2.set k (v0, v1, v2, v3, v4), _, by rw [hlen2]; rfl, by rw [hlen2]; exact HO.out, by rw [hlen2]; omega, R15.out, by omega, HG.out⟩
        · have hy' : (y == 0) = false := by simpa using hy
          go_wp2
          go_ret
          exact ⟨_, c3, L2, _, rfl, O8, by omega, hr8, by omega, G8⟩
set_option maxHeartbeats 3200000 in
theorem someBkB_any (R : Nat) (p x : Int) (w : World) (h : Rdr w R p) (hp : p ≤ 700000000) (hx : 0 ≤ x ∧ x ≤ 101) (hV : 1 < x ∧ x ≤ 100) :
    Calls Try.prog 27 #[.pointer (some ⟨R, 0, none⟩), .int .i64 x] w (SomeB R p 2000 w) := by
  have hR := h.lt
  obtain ⟨x0, x1⟩ := hx
  obtain ⟨x2, x3⟩ := hV
  go_enter Try.func27, Try.ntmps27
  go_wp2_with fail
  refine (someSeries_any R p _ h (by omega)).mono ?_
  rintro e w2 ⟨A, c, l, q, rfl, o2, hmid, hl16, hr2, hq, hg2⟩
  clear h
  go_wp2_with fail
  refine (bucketsOf_at A l.length c l x _ (Rd.own o2) hmid (by omega) (by omega)).mono ?_
  rintro e w3 ⟨L, hL17, A3, c3, rfl, o3, hg3⟩
  have hs2 := hg2.size
  have O3 := own_le (base' := w.heap.size) o3 hs2
  have G3 := g_trans hg2 (g_any hg3 _)
  have hr3 := hr2.kept hg3
  have hq3 : q ≤ p + 1000 := hq
  clear o2 o3 hg2 hg3 hr2 hmid hl16 hs2 hq
  by_cases hL0 : L.length = 0
  · have hL : L = [] := List.eq_nil_of_length_eq_zero hL0
    subst hL
    simp only [List.length_nil] at *
    go_wp2
    go_ret
    exact ⟨A3, c3, [], q, rfl, O3, by simp, hr3, by omega, G3⟩
  have hLp : decide (0 < L.length) = true := by simp; omega
  obtain ⟨g, rfl, hgb, hgs⟩ := own_addr O3 (by omega)
  go_wp2_with fail
  refine (pick_any R _ _ _ hr3 (by omega) (by omega)).mono ?_
  rintro e w4 ⟨y, rfl, y0, y1, hr4, hg4⟩
  have O4 := keep_row O3 hg4 hR
  have G4 := g_trans G3 hg4
  clear O3 hr3 G3 hg4 y1
  by_cases hy4 : y = 0
  rotate_left
  · have hy' : (y == 0) = false := by simpa using hy4
    -- the second half
    go_wp2_with fail
    refine (pick_any R _ _ _ hr4 (by omega) (by omega)).mono ?_
    rintro e w8 ⟨y, rfl, y0, y1, hr8, hg8⟩
    have O8 := keep_row O4 hg8 hR
    have G8 := g_trans G4 hg8
    clear O4 hr4 G4 hg8 y1
    by_cases hy : y = 0
    · subst hy
      go_wp2_with fail
      refine (pick_any R _ _ _ hr8 (by omega) (by omega)).mono ?_
      rintro e w9 ⟨z, rfl, z0, z1, hr9, hg9⟩
      obtain ⟨k, rfl⟩ := Int.eq_ofNat_of_zero_le z0
      have hkn : k < L.length := by omega
      have O9 := keep_row O8 hg9 hR
      have G9 := g_trans G8 hg9
      clear hr8 O8 hg9 G8 z1
      go_wp2_with fail
      refine (one_lit R _ [0, 3, 1000, -1] _ w9 hr9 (by omega) (by simp) (by simp)).mono ?_
      rintro e w10 ⟨v0, rfl, -, hr10, hg10⟩
      clear hr9
      go_wp2_with fail
      refine (one_lit R _ [0, 101, 1] _ w10 hr10 (by omega) (by simp) (by simp)).mono ?_
      rintro e w11 ⟨v1, rfl, -, hr11, hg11⟩
      clear hr10
      go_wp2_with fail
      refine (one_lit R _ [0, 5] _ w11 hr11 (by omega) (by simp) (by simp)).mono ?_
      rintro e w12 ⟨v2, rfl, -, hr12, hg12⟩
      clear hr11
      go_wp2_with fail
      refine (one_lit R _ [1, 0] _ w12 hr12 (by omega) (by simp) (by simp)).mono ?_
      rintro e w13 ⟨v3, rfl, -, hr13, hg13⟩
      clear hr12
      go_wp2_with fail
      refine (one_lit R _ [0, 1001] _ w13 hr13 (by omega) (by simp) (by simp)).mono ?_
      rintro e w14 ⟨v4, rfl, -, hr14, hg14⟩
      have GG := g_trans hg10 (g_trans hg11 (g_trans hg12 (g_trans hg13 hg14)))
      have O14 := keep_row O9 GG hR
      have G14 := g_trans G9 GG
      clear hr13 hg10 hg11 hg12 hg13 hg14 GG O9 G9
      obtain ⟨⟨s0, n0, u0, lo0, hi0⟩, hx, -⟩ := get_ex (l := L) (i := k) (by omega)
      have hcc := bk_cells O14 hx
      obtain ⟨b0, b1, b2, b3, b4⟩ := hcc
      have f0 := O14.frozenAt (k * 5)
      have f1 := O14.frozenAt (k * 5 + 1)
      have f2 := O14.frozenAt (k * 5 + 2)
      have f3 := O14.frozenAt (k * 5 + 3)
      have f4 := O14.frozenAt (k * 5 + 4)
      have hF := own_five (k := k * 5) O14 (.int .i64 v0) (.int .i64 v1) (.int .i64 v2) (.int .i64 v3) (.int .i64 v4)
      rw [bkc_set hkn (v0, v1, v2, v3, v4)] at hF
      have hlen2 : (L.set k (v0, v1, v2, v3, v4)).length = L.length := by simp
      have R15 := Lib.hid (Rdr.far hr14 O14 hR hF.2)
      have HO := Lib.hid hF.1
      have HG := Lib.hid (g_new G14 hF.2 (own_new O14))
      have hk' : (k : Int) < (L.length : Int) := by omega
      clear hx hF O14 G14 hr14
      go_wp2
      go_ret
      exact ⟨some ⟨g, 0, none⟩, c3, L.set k (v0, v1, v2, v3, v4), _, by rw [hlen2]; rfl, by rw [hlen2]; exact HO.out, by rw [hlen2]; omega, R15.out, by omega, HG.out⟩
    · have hy' : (y == 0) = false := by simpa using hy
      go_wp2
      go_ret
      exact ⟨_, c3, L, _, rfl, O8, by omega, hr8, by omega, G8⟩
  · subst hy4
    go_wp2_with fail
    refine (pick_any R _ _ _ hr4 (by omega) (by omega)).mono ?_
    rintro e w5 ⟨z, rfl, z0, z1, hr5, hg5⟩
    obtain ⟨k5, rfl⟩ := Int.eq_ofNat_of_zero_le z0
    have hkn5 : k5 < L.length := by omega
    have O5 := keep_row O4 hg5 hR
    have G5 := g_trans G4 hg5
    clear hr4 O4 hg5 G4 z1
    go_wp2_with fail
    refine (one_lit R _ [2, 50, 100] _ w5 hr5 (by omega) (by simp) (by simp)).mono ?_
    rintro e w6 ⟨v, rfl, hv, hr6, hg6⟩
    have O6 := keep_row O5 hg6 hR
    have G6 := g_trans G5 hg6
    clear hr5 O5 hg6 G5 hv
    obtain ⟨⟨s0, n0, u0, lo0, hi0⟩, hx, -⟩ := get_ex (l := L) (i := k5) (by omega)
    have hcc := bk_cells O6 hx
    obtain ⟨b0, b1, b2, b3, b4⟩ := hcc
    have f1 := O6.frozenAt (k5 * 5 + 1)
    have f2 := O6.frozenAt (k5 * 5 + 2)
    have hk5' : (k5 : Int) < (L.length : Int) := by omega
    obtain ⟨m, hm⟩ : ∃ m, IntKind.i64.wrap (lo0 * v) = m := ⟨_, rfl⟩
    have hx2 : (L.set k5 (s0, v, u0, lo0, hi0))[k5]? = some (s0, v, u0, lo0, hi0) := by simp [hkn5]
    have t1 := O6.stored (k5 * 5 + 1) (.int .i64 v)
    rw [bkc_set1 hx] at t1
    have t2 := t1.1.stored (k5 * 5 + 2) (.int .i64 m)
    rw [bkc_set2 hx2] at t2
    have hlen1 : ((L.set k5 (s0, v, u0, lo0, hi0)).set k5 (s0, v, m, lo0, hi0)).length = L.length := by simp
    obtain ⟨L2, hL2⟩ : ∃ L2, (L.set k5 (s0, v, u0, lo0, hi0)).set k5 (s0, v, m, lo0, hi0) = L2 := ⟨_, rfl⟩
    rw [hL2] at t2 hlen1
    rw [← hlen1] at t2
    have TG := g_trans t1.2 t2.2
    have R7 := Lib.hid (Rdr.far hr6 O6 hR TG)
    have HO := Lib.hid t2.1
    have HG := Lib.hid (g_new G6 TG (own_new O6))
    clear hx hx2 t1 t2 TG O6 G6 hr6 hL2
    go_wp2_with fail
    go_region_law (fail)
    all_goals
        rw [← hlen1]
        have hLp2 : decide (0 < L2.length) = true := by rw [hlen1]; exact hLp
        have O7 := own_keptN HO.out (g_drew _ none)
        have hr7 := R7.out.kept (g_drew _ none)
        have G7 := g_trans HG.out (g_drew _ _)
        have h217 : L2.length ≤ 17 := by omega
        have h20 : ¬ L2.length = 0 := by omega
        clear HO R7 HG f1 f2 b0 b1 b2 b3 b4 hm hk5' hkn5 hLp hlen1
        generalize ((w6.setCell ⟨g, k5 * 5 + 1, none⟩ (.int .i64 v)).setCell ⟨g, k5 * 5 + 2, none⟩ (.int .i64 m)).drew = wd at O7 hr7 G7 ⊢
        go_wp2_with fail
        refine (pick_any R _ _ _ hr7 (by omega) (by omega)).mono ?_
        rintro e w8 ⟨y, rfl, y0, y1, hr8, hg8⟩
        have O8 := keep_row O7 hg8 hR
        have G8 := g_trans G7 hg8
        clear O7 hr7 G7 hg8 y1
        by_cases hy : y = 0
        · subst hy
          go_wp2_with fail
          refine (pick_any R _ _ _ hr8 (by omega) (by omega)).mono ?_
          rintro e w9 ⟨z, rfl, z0, z1, hr9, hg9⟩
          obtain ⟨k, rfl⟩ := Int.eq_ofNat_of_zero_le z0
          have hkn : k < L2.length := by omega
          have O9 := keep_row O8 hg9 hR
          have G9 := g_trans G8 hg9
          clear hr8 O8 hg9 G8 z1
          go_wp2_with fail
          refine (one_lit R _ [0, 3, 1000, -1] _ w9 hr9 (by omega) (by simp) (by simp)).mono ?_
          rintro e w10 ⟨v0, rfl, -, hr10, hg10⟩
          clear hr9
          go_wp2_with fail
          refine (one_lit R _ [0, 101, 1] _ w10 hr10 (by omega) (by simp) (by simp)).mono ?_
          rintro e w11 ⟨v1, rfl, -, hr11, hg11⟩
          clear hr10
          go_wp2_with fail
          refine (one_lit R _ [0, 5] _ w11 hr11 (by omega) (by simp) (by simp)).mono ?_
          rintro e w12 ⟨v2, rfl, -, hr12, hg12⟩
          clear hr11
          go_wp2_with fail
          refine (one_lit R _ [1, 0] _ w12 hr12 (by omega) (by simp) (by simp)).mono ?_
          rintro e w13 ⟨v3, rfl, -, hr13, hg13⟩
          clear hr12
          go_wp2_with fail
          refine (one_lit R _ [0, 1001] _ w13 hr13 (by omega) (by simp) (by simp)).mono ?_
          rintro e w14 ⟨v4, rfl, -, hr14, hg14⟩
          have GG := g_trans hg10 (g_trans hg11 (g_trans hg12 (g_trans hg13 hg14)))
          have O14 := keep_row O9 GG hR
          have G14 := g_trans G9 GG
          clear hr13 hg10 hg11 hg12 hg13 hg14 GG O9 G9
          obtain ⟨⟨s0, n0, u0, lo0, hi0⟩, hx, -⟩ := get_ex (l := L2) (i := k) (by omega)
          have hcc := bk_cells O14 hx
          obtain ⟨b0, b1, b2, b3, b4⟩ := hcc
          have f0 := O14.frozenAt (k * 5)
          have f1 := O14.frozenAt (k * 5 + 1)
          have f2 := O14.frozenAt (k * 5 + 2)
          have f3 := O14.frozenAt (k * 5 + 3)
          have f4 := O14.frozenAt (k * 5 + 4)
          have hF := own_five (k := k * 5) O14 (.int .i64 v0) (.int .i64 v1) (.int .i64 v2) (.int .i64 v3) (.int .i64 v4)
          rw [bkc_set hkn (v0, v1, v2, v3, v4)] at hF
          have hlen2 : (L2.set k (v0, v1, v2, v3, v4)).length = L2.length := by simp
          have R15 := Lib.hid (Rdr.far hr14 O14 hR hF.2)
          have HO := Lib.hid hF.1
          have HG := Lib.hid (g_new G14 hF.2 (own_new O14))
          have hk' : (k : Int) < (L2.length : Int) := by omega
          clear hx hF O14 G14 hr14
          go_wp2
          go_ret
          exact ⟨some ⟨g, 0, none⟩, c3, L2.set k (v0, v1, v2, v3, v4), _, by rw [hlen2]; rfl, by rw [hlen2]; exact HO.out, by rw [hlen2]; omega, R15.out, by omega, HG.out⟩
        · have hy' : (y == 0) = false := by simpa using hy
          go_wp2
          go_ret
          exact ⟨_, c3, L2, _, rfl, O8, by omega, hr8, by omega, G8⟩
set_option maxHeartbeats 3200000 in
theorem someBkC_any (R : Nat) (p x : Int) (w : World) (h : Rdr w R p) (hp : p ≤ 700000000) (hx : 0 ≤ x ∧ x ≤ 101) (hV : 100 < x) :
    Calls Try.prog 27 #[.pointer (some ⟨R, 0, none⟩), .int .i64 x] w (SomeB R p 2000 w) := by
  have hR := h.lt
  obtain ⟨x0, x1⟩ := hx
  go_enter Try.func27, Try.ntmps27
  go_wp2_with fail
  refine (someSeries_any R p _ h (by omega)).mono ?_
  rintro e w2 ⟨A, c, l, q, rfl, o2, hmid, hl16, hr2, hq, hg2⟩
  clear h
  go_wp2_with fail
  refine (bucketsOf_at A l.length c l 100 _ (Rd.own o2) hmid (by omega) (by omega)).mono ?_
  rintro e w3 ⟨L, hL17, A3, c3, rfl, o3, hg3⟩
  have hs2 := hg2.size
  have O3 := own_le (base' := w.heap.size) o3 hs2
  have G3 := g_trans hg2 (g_any hg3 _)
  have hr3 := hr2.kept hg3
  have hq3 : q ≤ p + 1000 := hq
  clear o2 o3 hg2 hg3 hr2 hmid hl16 hs2 hq
  by_cases hL0 : L.length = 0
  · have hL : L = [] := List.eq_nil_of_length_eq_zero hL0
    subst hL
    simp only [List.length_nil] at *
    go_wp2
    go_ret
    exact ⟨A3, c3, [], q, rfl, O3, by simp, hr3, by omega, G3⟩
  have hLp : decide (0 < L.length) = true := by simp; omega
  obtain ⟨g, rfl, hgb, hgs⟩ := own_addr O3 (by omega)
  go_wp2_with fail
  refine (pick_any R _ _ _ hr3 (by omega) (by omega)).mono ?_
  rintro e w4 ⟨y, rfl, y0, y1, hr4, hg4⟩
  have O4 := keep_row O3 hg4 hR
  have G4 := g_trans G3 hg4
  clear O3 hr3 G3 hg4 y1
  by_cases hy4 : y = 0
  rotate_left
  · have hy' : (y == 0) = false := by simpa using hy4
    -- the second half
    go_wp2_with fail
    refine (pick_any R _ _ _ hr4 (by omega) (by omega)).mono ?_
    rintro e w8 ⟨y, rfl, y0, y1, hr8, hg8⟩
    have O8 := keep_row O4 hg8 hR
    have G8 := g_trans G4 hg8
    clear O4 hr4 G4 hg8 y1
    by_cases hy : y = 0
    · subst hy
      go_wp2_with fail
      refine (pick_any R _ _ _ hr8 (by omega) (by omega)).mono ?_
      rintro e w9 ⟨z, rfl, z0, z1, hr9, hg9⟩
      obtain ⟨k, rfl⟩ := Int.eq_ofNat_of_zero_le z0
      have hkn : k < L.length := by omega
      have O9 := keep_row O8 hg9 hR
      have G9 := g_trans G8 hg9
      clear hr8 O8 hg9 G8 z1
      go_wp2_with fail
      refine (one_lit R _ [0, 3, 1000, -1] _ w9 hr9 (by omega) (by simp) (by simp)).mono ?_
      rintro e w10 ⟨v0, rfl, -, hr10, hg10⟩
      clear hr9
      go_wp2_with fail
      refine (one_lit R _ [0, 101, 1] _ w10 hr10 (by omega) (by simp) (by simp)).mono ?_
      rintro e w11 ⟨v1, rfl, -, hr11, hg11⟩
      clear hr10
      go_wp2_with fail
      refine (one_lit R _ [0, 5] _ w11 hr11 (by omega) (by simp) (by simp)).mono ?_
      rintro e w12 ⟨v2, rfl, -, hr12, hg12⟩
      clear hr11
      go_wp2_with fail
      refine (one_lit R _ [1, 0] _ w12 hr12 (by omega) (by simp) (by simp)).mono ?_
      rintro e w13 ⟨v3, rfl, -, hr13, hg13⟩
      clear hr12
      go_wp2_with fail
      refine (one_lit R _ [0, 1001] _ w13 hr13 (by omega) (by simp) (by simp)).mono ?_
      rintro e w14 ⟨v4, rfl, -, hr14, hg14⟩
      have GG := g_trans hg10 (g_trans hg11 (g_trans hg12 (g_trans hg13 hg14)))
      have O14 := keep_row O9 GG hR
      have G14 := g_trans G9 GG
      clear hr13 hg10 hg11 hg12 hg13 hg14 GG O9 G9
      obtain ⟨⟨s0, n0, u0, lo0, hi0⟩, hx, -⟩ := get_ex (l := L) (i := k) (by omega)
      have hcc := bk_cells O14 hx
      obtain ⟨b0, b1, b2, b3, b4⟩ := hcc
      have f0 := O14.frozenAt (k * 5)
      have f1 := O14.frozenAt (k * 5 + 1)
      have f2 := O14.frozenAt (k * 5 + 2)
      have f3 := O14.frozenAt (k * 5 + 3)
      have f4 := O14.frozenAt (k * 5 + 4)
      have hF := own_five (k := k * 5) O14 (.int .i64 v0) (.int .i64 v1) (.int .i64 v2) (.int .i64 v3) (.int .i64 v4)
      rw [bkc_set hkn (v0, v1, v2, v3, v4)] at hF
      have hlen2 : (L.set k (v0, v1, v2, v3, v4)).length = L.length := by simp
      have R15 := Lib.hid (Rdr.far hr14 O14 hR hF.2)
      have HO := Lib.hid hF.1
      have HG := Lib.hid (g_new G14 hF.2 (own_new O14))
      have hk' : (k : Int) < (L.length : Int) := by omega
      clear hx hF O14 G14 hr14
      go_wp2
      go_ret
      exact ⟨some ⟨g, 0, none⟩, c3, L.set k (v0, v1, v2, v3, v4), _, by rw [hlen2]; rfl, by rw [hlen2]; exact HO.out, by rw [hlen2]; omega, R15.out, by omega, HG.out⟩
    · have hy' : (y == 0) = false := by simpa using hy
      go_wp2
      go_ret
      exact ⟨_, c3, L, _, rfl, O8, by omega, hr8, by omega, G8⟩
  · subst hy4
    go_wp2_with fail
    refine (pick_any R _ _ _ hr4 (by omega) (by omega)).mono ?_
    rintro e w5 ⟨z, rfl, z0, z1, hr5, hg5⟩
    obtain ⟨k5, rfl⟩ := Int.eq_ofNat_of_zero_le z0
    have hkn5 : k5 < L.length := by omega
    have O5 := keep_row O4 hg5 hR
    have G5 := g_trans G4 hg5
    clear hr4 O4 hg5 G4 z1
    go_wp2_with fail
    refine (one_lit R _ [2, 50, 100] _ w5 hr5 (by omega) (by simp) (by simp)).mono ?_
    rintro e w6 ⟨v, rfl, hv, hr6, hg6⟩
    have O6 := keep_row O5 hg6 hR
    have G6 := g_trans G5 hg6
    clear hr5 O5 hg6 G5 hv
    obtain ⟨⟨s0, n0, u0, lo0, hi0⟩, hx, -⟩ := get_ex (l := L) (i := k5) (by omega)
    have hcc := bk_cells O6 hx
    obtain ⟨b0, b1, b2, b3, b4⟩ := hcc
    have f1 := O6.frozenAt (k5 * 5 + 1)
    have f2 := O6.frozenAt (k5 * 5 + 2)
    have hk5' : (k5 : Int) < (L.length : Int) := by omega
    obtain ⟨m, hm⟩ : ∃ m, IntKind.i64.wrap (lo0 * v) = m := ⟨_, rfl⟩
    have hx2 : (L.set k5 (s0, v, u0, lo0, hi0))[k5]? = some (s0, v, u0, lo0, hi0) := by simp [hkn5]
    have t1 := O6.stored (k5 * 5 + 1) (.int .i64 v)
    rw [bkc_set1 hx] at t1
    have t2 := t1.1.stored (k5 * 5 + 2) (.int .i64 m)
    rw [bkc_set2 hx2] at t2
    have hlen1 : ((L.set k5 (s0, v, u0, lo0, hi0)).set k5 (s0, v, m, lo0, hi0)).length = L.length := by simp
    obtain ⟨L2, hL2⟩ : ∃ L2, (L.set k5 (s0, v, u0, lo0, hi0)).set k5 (s0, v, m, lo0, hi0) = L2 := ⟨_, rfl⟩
    rw [hL2] at t2 hlen1
    rw [← hlen1] at t2
    have TG := g_trans t1.2 t2.2
    have R7 := Lib.hid (Rdr.far hr6 O6 hR TG)
    have HO := Lib.hid t2.1
    have HG := Lib.hid (g_new G6 TG (own_new O6))
    clear hx hx2 t1 t2 TG O6 G6 hr6 hL2
    go_wp2_with fail
    go_region_law (fail)
    all_goals
        rw [← hlen1]
        have hLp2 : decide (0 < L2.length) = true := by rw [hlen1]; exact hLp
        have O7 := own_keptN HO.out (g_drew _ none)
        have hr7 := R7.out.kept (g_drew _ none)
        have G7 := g_trans HG.out (g_drew _ _)
        have h217 : L2.length ≤ 17 := by omega
        have h20 : ¬ L2.length = 0 := by omega
        clear HO R7 HG f1 f2 b0 b1 b2 b3 b4 hm hk5' hkn5 hLp hlen1
        generalize ((w6.setCell ⟨g, k5 * 5 + 1, none⟩ (.int .i64 v)).setCell ⟨g, k5 * 5 + 2, none⟩ (.int .i64 m)).drew = wd at O7 hr7 G7 ⊢
        go_wp2_with fail
        refine (pick_any R _ _ _ hr7 (by omega) (by omega)).mono ?_
        rintro e w8 ⟨y, rfl, y0, y1, hr8, hg8⟩
        have O8 := keep_row O7 hg8 hR
        have G8 := g_trans G7 hg8
        clear O7 hr7 G7 hg8 y1
        by_cases hy : y = 0
        · subst hy
          go_wp2_with fail
          refine (pick_any R _ _ _ hr8 (by omega) (by omega)).mono ?_
          rintro e w9 ⟨z, rfl, z0, z1, hr9, hg9⟩
          obtain ⟨k, rfl⟩ := Int.eq_ofNat_of_zero_le z0
          have hkn : k < L2.length := by omega
          have O9 := keep_row O8 hg9 hR
          have G9 := g_trans G8 hg9
          clear hr8 O8 hg9 G8 z1
          go_wp2_with fail
          refine (one_lit R _ [0, 3, 1000, -1] _ w9 hr9 (by omega) (by simp) (by simp)).mono ?_
          rintro e w10 ⟨v0, rfl, -, hr10, hg10⟩
          clear hr9
          go_wp2_with fail
          refine (one_lit R _ [0, 101, 1] _ w10 hr10 (by omega) (by simp) (by simp)).mono ?_
          rintro e w11 ⟨v1, rfl, -, hr11, hg11⟩
          clear hr10
          go_wp2_with fail
          refine (one_lit R _ [0, 5] _ w11 hr11 (by omega) (by simp) (by simp)).mono ?_
          rintro e w12 ⟨v2, rfl, -, hr12, hg12⟩
          clear hr11
          go_wp2_with fail
          refine (one_lit R _ [1, 0] _ w12 hr12 (by omega) (by simp) (by simp)).mono ?_
          rintro e w13 ⟨v3, rfl, -, hr13, hg13⟩
          clear hr12
          go_wp2_with fail
          refine (one_lit R _ [0, 1001] _ w13 hr13 (by omega) (by simp) (by simp)).mono ?_
          rintro e w14 ⟨v4, rfl, -, hr14, hg14⟩
          have GG := g_trans hg10 (g_trans hg11 (g_trans hg12 (g_trans hg13 hg14)))
          have O14 := keep_row O9 GG hR
          have G14 := g_trans G9 GG
          clear hr13 hg10 hg11 hg12 hg13 hg14 GG O9 G9
          obtain ⟨⟨s0, n0, u0, lo0, hi0⟩, hx, -⟩ := get_ex (l := L2) (i := k) (by omega)
          have hcc := bk_cells O14 hx
          obtain ⟨b0, b1, b2, b3, b4⟩ := hcc
          have f0 := O14.frozenAt (k * 5)
          have f1 := O14.frozenAt (k * 5 + 1)
          have f2 := O14.frozenAt (k * 5 + 2)
          have f3 := O14.frozenAt (k * 5 + 3)
          have f4 := O14.frozenAt (k * 5 + 4)
          have hF := own_five (k := k * 5) O14 (.int .i64 v0) (.int .i64 v1) (.int .i64 v2) (.int .i64 v3) (.int .i64 v4)
          rw [bkc_set hkn (v0, v1, v2, v3, v4)] at hF
          have hlen2 : (L2.set k (v0, v1, v2, v3, v4)).length = L2.length := by simp
          have R15 := Lib.hid (Rdr.far hr14 O14 hR hF.2)
          have HO := Lib.hid hF.1
          have HG := Lib.hid (g_new G14 hF.2 (own_new O14))
          have hk' : (k : Int) < (L2.length : Int) := by omega
          clear hx hF O14 G14 hr14
          go_wp2
          go_ret
          exact ⟨some ⟨g, 0, none⟩, c3, L2.set k (v0, v1, v2, v3, v4), _, by rw [hlen2]; rfl, by rw [hlen2]; exact HO.out, by rw [hlen2]; omega, R15.out, by omega, HG.out⟩
        · have hy' : (y == 0) = false := by simpa using hy
          go_wp2
          go_ret
          exact ⟨_, c3, L2, _, rfl, O8, by omega, hr8, by omega, G8⟩
theorem someBuckets_any (R : Nat) (p x : Int) (w : World) (h : Rdr w R p) (hp : p ≤ 700000000) (hx : 0 ≤ x ∧ x ≤ 101) :
    Calls Try.prog 27 #[.pointer (some ⟨R, 0, none⟩), .int .i64 x] w (SomeB R p 2000 w) := by
  by_cases h1 : x ≤ 1
  · exact someBkA_any R p x w h hp hx h1
  by_cases h2 : 100 < x
  · exact someBkC_any R p x w h hp hx h2
  · exact someBkB_any R p x w h hp hx (by omega)
def BksInt (w w' : World) (e : Ending) : Prop := ∃ (A : Option Addr) (c : Nat) (l : List Bk) (x : Int), e = .returned (.tuple #[.slice A l.length c, .int .i64 x]) ∧ (0 ≤ x ∧ x ≤ 101) ∧ w'.ownsRow w.heap.size 31 5 (.slice A l.length c) l.length (bkc l) ∧ l.length ≤ 17 ∧ w.grownBy w' none
def PtsInt (w w' : World) (e : Ending) : Prop := ∃ (A : Option Addr) (c : Nat) (l : List Pt) (x : Int), e = .returned (.tuple #[.slice A l.length c, .int .i64 x]) ∧ (0 ≤ x ∧ x ≤ 101) ∧ w'.ownsRow w.heap.size 33 2 (.slice A l.length c) l.length (pc l) ∧ midL l ∧ w.grownBy w' none
set_option maxHeartbeats 800000 in
theorem drawRU_any (A : Option Addr) (n c : Nat) (l : List Int) (w : World) (h : Rd w 1 A n c (bc l)) (hb : By l) (hn : n ≤ 1048576) :
    Calls Try.prog 8 #[.slice A n c] w fun e w' => PtsInt w w' e := by
  go_enter Try.func8, Try.ntmps8
  go_wp2_with fail
  refine (newReader_any A n c l w h hb hn).mono ?_
  rintro e w1 ⟨rfl, hr, hg1⟩
  have hR := hr.lt
  clear h hb
  go_wp2_with fail
  refine (anySeries_any _ _ _ hr (by omega)).mono ?_
  rintro e w2 ⟨A2, c2, l2, q, rfl, o2, hm, hml, hr2, hq, hg2⟩
  have HM := Lib.hid hm
  clear hm hr
  go_wp2_with fail
  refine (someWidth_any _ _ _ hr2 (by omega)).mono ?_
  rintro e w3 ⟨x, rfl, hx, hr3, hg3⟩
  have o3 := own_le (base' := w.heap.size) (keep_row o2 hg3 hR) (by have := hg1.size; omega)
  have G := g_rdS (g_trans hg2 hg3) (Nat.le_refl _) hg1
  clear o2 hr3 hr2 hg1 hg2 hg3
  go_wp2
  go_ret2
  exact ⟨A2, c2, l2, x, rfl, hx, o3, HM.out, G⟩
def BksInts (w w' : World) (e : Ending) : Prop := ∃ (A : Option Addr) (c : Nat) (l : List Bk) (x y : Int), e = .returned (.tuple #[.slice A l.length c, .int .i64 x, .int .i64 y]) ∧ (0 ≤ x ∧ x ≤ 101) ∧ (0 ≤ y ∧ y ≤ 20) ∧ w'.ownsRow w.heap.size 31 5 (.slice A l.length c) l.length (bkc l) ∧ l.length ≤ 17 ∧ w.grownBy w' none
def BksBks (w w' : World) (e : Ending) : Prop := ∃ (A : Option Addr) (c : Nat) (l : List Bk) (B : Option Addr) (d : Nat) (m : List Bk) (x : Int), e = .returned (.tuple #[.slice A l.length c, .slice B m.length d, .int .i64 x]) ∧ (0 ≤ x ∧ x ≤ 101) ∧ (w'.ownsRow w.heap.size 31 5 (.slice A l.length c) l.length (bkc l) ∧ l.length ≤ 17) ∧ (w'.ownsRow w.heap.size 31 5 (.slice B m.length d) m.length (bkc m) ∧ m.length ≤ 17) ∧ w.grownBy w' none
set_option maxHeartbeats 800000 in
theorem drawMB_any (A : Option Addr) (n c : Nat) (l : List Int) (w : World) (h : Rd w 1 A n c (bc l)) (hb : By l) (hn : n ≤ 1048576) :
    Calls Try.prog 13 #[.slice A n c] w fun e w' => BksBks w w' e := by
  go_enter Try.func13, Try.ntmps13
  go_wp2_with fail
  refine (newReader_any A n c l w h hb hn).mono ?_
  rintro e w1 ⟨rfl, hr, hg1⟩
  have hR := hr.lt
  clear h hb
  go_wp2_with fail
  refine (someWidth_any _ _ _ hr (by omega)).mono ?_
  rintro e w2 ⟨x, rfl, hx, hr2, hg2⟩
  have hs1 := hg1.size
  have hs2 := hg2.size
  clear hr
  go_wp2_with fail
  refine (someBuckets_any _ _ x _ hr2 (by omega) hx).mono ?_
  rintro e w3 ⟨A2, c2, l2, q, rfl, o2, hl2, hr3, hq, hg3⟩
  have hs3 := hg3.size
  clear hr2
  go_wp2_with fail
  refine (someBuckets_any _ _ x _ hr3 (by omega) hx).mono ?_
  rintro e w4 ⟨A3, c3, l3, q3, rfl, o4, hl3, hr4, hq4, hg4⟩
  have o3 := own_le (base' := w.heap.size) (keep_row o2 hg4 (by omega)) (by omega)
  have o5 := own_le (base' := w.heap.size) o4 (by omega)
  have G := g_rdS (g_trans hg2 (g_trans hg3 hg4)) (Nat.le_refl _) hg1
  clear o2 o4 hr3 hr4 hg1 hg2 hg3 hg4
  go_wp2
  go_ret3
  exact ⟨A2, c2, l2, A3, c3, l3, x, rfl, hx, ⟨o3, hl2⟩, ⟨o5, hl3⟩, G⟩
end Go.Proofs.Ytoncefhcabgaaaa
