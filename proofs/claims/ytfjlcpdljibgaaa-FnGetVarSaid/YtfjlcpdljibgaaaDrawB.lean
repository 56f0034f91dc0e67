/- What the generator of bytes for GetVar gives. -/
import Derived.Test.YtfjlcpdljibgaaaProg
import Derived.Test.YtfjlcpdljibgaaaDrawA
namespace Go.Proofs.Ytfjlcpdljibgaaa
set_option linter.unusedVariables false
open Go.RowKit

theorem bc_take (l : List Int) (k : Nat) : (bc l).take (k * 1) = bc (l.take k) := by simp [bc, List.map_take]
theorem bc_drop (l : List Int) (k : Nat) : (bc l).drop (k * 1) = bc (l.drop k) := by simp [bc, List.map_drop]
theorem By.app {a b : List Int} (h : By a) (k : By b) : By (a ++ b) := by
  intro x hx
  rcases List.mem_append.1 hx with hx | hx
  · exact h x hx
  · exact k x hx
theorem By.drop {a : List Int} (h : By a) (k : Nat) : By (a.drop k) := fun x hx => h x (List.mem_of_mem_drop hx)
theorem By.take {a : List Int} (h : By a) (k : Nat) : By (a.take k) := fun x hx => h x (List.mem_of_mem_take hx)
theorem By.set {a : List Int} (h : By a) (k : Nat) {x : Int} (h0 : 0 ≤ x) (h1 : x ≤ 255) : By (a.set k x) := by
  intro y hy
  rcases List.mem_or_eq_of_mem_set hy with hy | rfl
  · exact h y hy
  · exact ⟨h0, h1⟩
theorem bc_set (l : List Int) (k : Nat) (x : Int) : (bc l).set k (.int .u8 x) = bc (l.set k x) := by simp [bc, List.map_set]
theorem own_lit (w : World) (base : Nat) (e : TypeId) (size : Nat) (cs : List Value) (n : Nat) (hb : base ≤ w.heap.size) (hn : n ≤ 1000) (hs : cs.length = n * size) :
    (w.alloc (.cells cs.toArray e)).ownsRow base e size (.slice (some ⟨w.heap.size, 0, none⟩) n n) n cs := by
  have := World.ownsRow_lit (base := base) (e := e) (size := size) w cs.toArray n hb (by simp only [maxLen]; omega) (by simpa using hs)
  simpa using this

def Bytes (w w' : World) (e : Ending) : Prop := ∃ (A : Option Addr) (n c : Nat) (l : List Int), e = .returned (.slice A n c) ∧ Rd w' 1 A n c (bc l) ∧ By l ∧ n ≤ 100 ∧ w.grownBy w' none

set_option maxHeartbeats 1600000 in
theorem drawGet_any (A : Option Addr) (n c : Nat) (l : List Int) (w : World) (h : Rd w 1 A n c (bc l)) (hb : By l) (hn : n ≤ 1048576) :
    Calls Try.prog 38 #[.slice A n c] w fun e w' => Bytes w w' e := by
  obtain ⟨i0, hi, hz0, hz1, hz2⟩ := info_parts infoU8
  go_enter Try.func38, Try.ntmps38
  go_wp2_with fail
  refine (newReader_any A n c l w h hb hn).mono ?_
  rintro e w1 ⟨rfl, hr, hg1⟩
  clear h hb
  go_wp2_with fail
  refine (pick_any _ _ _ _ hr (by omega) (by omega)).mono ?_
  rintro e w2 ⟨z, rfl, z0, z1, hr2, hg2⟩
  go_wp2_with fail
  refine (one_lit _ _ [0, 1, 127, 128, 16383, 16384, 200000, 80 * z] _ w2 hr2 (by omega) (by simp) (by simp)).mono ?_
  rintro e w3 ⟨x, rfl, hx, hr3, hg3⟩
  have hx2 : 0 ≤ x ∧ x < 2097152 := by simp at hx; omega
  have G3 : w.grownBy w3 none := g_rd hg3 (Nat.le_refl _) (g_rd hg2 (Nat.le_refl _) hg1)
  clear hx z0 z1 hr hr2 hg1 hg2 hg3
  go_wp2_with fail
  refine (putS_any x w3 hx2.1 hx2.2).mono ?_
  rintro e w4 ⟨A1, c1, rfl, o1, hg4⟩
  have hlen := @putL_len x
  have hby := putL_by hx2.1 hx2.2
  have hr4 := hr3.kept hg4
  have G4 : w.grownBy w4 none := g_trans G3 hg4
  have hR : w.heap.size < w3.heap.size := hr3.lt
  have hS := hg4.size
  generalize putL x = L at *
  go_wp2_with fail
  refine (pick_any _ _ _ _ hr4 (by omega) (by omega)).mono ?_
  rintro e w5 ⟨y, rfl, y0, y1, hr5, hg5⟩
  have G5 : w.grownBy w5 none := g_rd hg5 (Nat.le_refl _) G4
  have o5 := own_kept o1 hg5 (by intro g e; injection e with e; omega)
  have hS5 := hg5.size
  clear hr3 hr4 o1 hg4 hg5 G3 G4 y1 hx2
  have HBY := Lib.hid hby
  clear hby
  by_cases d0 : y = 0
  · subst d0
    go_wp2_with fail
    refine (pick_any _ _ _ _ hr5 (by omega) (by omega)).mono ?_
    rintro e w6 ⟨v, rfl, v0, v1, hr6, hg6⟩
    have G6 : w.grownBy w6 none := g_rd hg6 (Nat.le_refl _) G5
    have o6 := own_kept o5 hg6 (by intro g e; injection e with e; omega)
    have hS6 := hg6.size
    have v2 : v ≤ 255 := by omega
    clear hr5 hr6 hg6 o5 G5 v1
    go_wp2_with (at_builtin; refine wpList_append_own _ rfl (.tmp 18) (.tmp 22) 27 rfl w3.heap.size 5 i0 _ 1 1 Try.underlying27 hi hz0 hz1 hz2 rfl (by decide) _ _ _ rfl (o6.alloc _) ⟨w6.heap.size, 0, none⟩ 1 1 [.int .u8 v] rfl rfl (cell_one_new _ _ _) (by simp [Value.oneCell']) (by simp only [maxLen]; omega) (by omega) (by simp; omega) ?_; intro v' w7 hown' hgrow _)
    obtain ⟨A', c', rfl⟩ := own_form hown'
    have HO := Lib.hid (And.intro hown' (And.intro hgrow o6))
    clear hown' hgrow o6
    go_wp2
    go_ret
    refine ⟨A', _, c', L ++ [v], rfl, ?_, HBY.out.app (fun a ha => by simp at ha; omega), by omega, g_new (g_trans G6 (g_alloc _ _ _)) HO.out.2.1 (fun g e => by have := own_new HO.out.2.2 g e; omega)⟩
    rw [bc_app]
    exact Rd.own HO.out.1
  by_cases d1 : y = 1
  · subst d1
    obtain ⟨g, rfl, hgb, hgs⟩ := own_addr o5 (by omega)
    go_wp2_with fail
    refine (pick_any _ _ _ _ hr5 (by omega) (by omega)).mono ?_
    rintro e w6 ⟨u, rfl, u0, u1, hr6, hg6⟩
    have G6 : w.grownBy w6 none := g_rd hg6 (Nat.le_refl _) G5
    have o6 := own_kept o5 hg6 (by intro g e; injection e with e; omega)
    have hS6 := hg6.size
    clear hr5 hg6 o5 G5
    go_wp2_with fail
    refine (pick_any _ _ _ _ hr6 (by omega) (by omega)).mono ?_
    rintro e w7 ⟨v, rfl, v0, v1, hr7, hg7⟩
    have G7 : w.grownBy w7 none := g_rd hg7 (Nat.le_refl _) G6
    have o7 := own_kept o6 hg7 (by intro g e; injection e with e; omega)
    have hS7 := hg7.size
    have v2 : v ≤ 255 := by omega
    obtain ⟨k, rfl⟩ := Int.eq_ofNat_of_zero_le u0
    have hk : k < L.length := by omega
    have hk' : (k : Int) < (L.length : Int) := by omega
    obtain ⟨x0, hx0, _⟩ := get_ex hk
    have cc := (o7.cellAt k (by omega)).trans (bc_at hx0)
    have ff := o7.frozenAt k
    have HO := Lib.hid (And.intro o7 (o7.stored k (.int .u8 v)))
    clear hr6 hr7 hg7 o6 o7 G6 v1 u1 hx0
    go_wp2
    go_ret
    refine ⟨_, _, _, L.set k v, rfl, ?_, HBY.out.set k v0 v2, by omega, g_new G7 HO.out.2.2 (by intro g e; injection e with e; omega)⟩
    rw [← bc_set]
    exact Rd.own HO.out.2.1
  by_cases d2 : y = 2
  · subst d2
    obtain ⟨g, rfl, hgb, hgs⟩ := own_addr o5 (by omega)
    have hF := (Rd.own o5).from_ (k := 1) (by omega)
    have hl1 : (1 : Int) ≤ (L.length : Int) := by omega
    rw [bc_drop] at hF
    by_cases hc : c1 = 1
    · subst hc
      rw [if_pos rfl] at hF
      have HO := Lib.hid hF
      clear o5 hr5 hF
      go_wp2
      go_ret
      exact ⟨_, _, _, L.drop 1, rfl, HO.out, HBY.out.drop 1, by omega, G5⟩
    · rw [if_neg hc] at hF
      have HO := Lib.hid hF
      clear o5 hr5 hF
      go_wp2
      go_ret
      refine ⟨_, _, _, L.drop 1, rfl, ?_, HBY.out.drop 1, by omega, G5⟩
      have := HO.out
      simpa [add_lit'] using this
  by_cases d3 : y = 3
  · subst d3
    clear o5
    go_wp2_with fail
    refine (one_lit _ _ [128, 255, 5] _ w5 hr5 (by omega) (by simp) (by simp)).mono ?_
    rintro e w6 ⟨u1, rfl, hu1, hr6, hg6⟩
    have G6 : w.grownBy w6 none := g_rd hg6 (Nat.le_refl _) G5
    have b1 : 0 ≤ u1 ∧ u1 ≤ 255 := by simp at hu1; omega
    clear hr5 hg6 G5 hu1
    go_wp2_with fail
    refine (one_lit _ _ [0, 128, 255] _ w6 hr6 (by omega) (by simp) (by simp)).mono ?_
    rintro e w7 ⟨u2, rfl, hu2, hr7, hg7⟩
    have G7 : w.grownBy w7 none := g_rd hg7 (Nat.le_refl _) G6
    have b2 : 0 ≤ u2 ∧ u2 ≤ 255 := by simp at hu2; omega
    clear hr6 hg7 G6 hu2
    go_wp2_with fail
    refine (one_lit _ _ [0, 1, 12, 13, 128] _ w7 hr7 (by omega) (by simp) (by simp)).mono ?_
    rintro e w8 ⟨u3, rfl, hu3, hr8, hg8⟩
    have G8 : w.grownBy w8 none := g_rd hg8 (Nat.le_refl _) G7
    have b3 : 0 ≤ u3 ∧ u3 ≤ 255 := by simp at hu3; omega
    clear hr7 hg8 G7 hu3 hr8
    go_wp2
    go_ret
    refine ⟨_, _, _, [u1, u2, u3], rfl, Rd.own (own_lit w8 0 _ 1 (bc [u1, u2, u3]) 3 (Nat.zero_le _) (by omega) rfl), ?_, by omega, g_trans G8 (g_alloc _ _ _)⟩
    intro a ha
    simp at ha
    omega
  have e0 : (y == 0) = false := by simpa using d0
  have e1 : (y == 1) = false := by simpa using d1
  have e2 : (y == 2) = false := by simpa using d2
  have e3 : (y == 3) = false := by simpa using d3
  have HO := Lib.hid (Rd.own o5)
  clear o5 hr5 d0 d1 d2 d3
  go_wp2
  go_ret
  exact ⟨_, _, _, L, rfl, HO.out, HBY.out, by omega, G5⟩
end Go.Proofs.Ytfjlcpdljibgaaa
