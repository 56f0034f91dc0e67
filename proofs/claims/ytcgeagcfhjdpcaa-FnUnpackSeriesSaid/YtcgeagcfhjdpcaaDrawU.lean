/- What the generator of packed bytes gives. -/
import Derived.Test.YtcgeagcfhjdpcaaDrawS
import Derived.Test.YtcgeagcfhjdpcaaDrawN
import Derived.Test.YtcgeagcfhjdpcaaPack
namespace Go.Proofs.Ytcgeagcfhjdpcaa
set_option linter.unusedVariables false
open Go.RowKit

theorem bc_set (l : List Int) (k : Nat) (x : Int) : (bc l).set k (.int .u8 x) = bc (l.set k x) := by simp [bc, List.map_set]
theorem by_set {l : List Int} {x : Int} (k : Nat) (h : By l) (hx : 0 ≤ x ∧ x ≤ 255) : By (l.set k x) := by
  intro y hy
  rcases List.mem_or_eq_of_mem_set hy with hy | rfl
  · exact h y hy
  · exact hx
theorem by_snoc {l : List Int} {x : Int} (h : By l) (hx : 0 ≤ x ∧ x ≤ 255) : By (l ++ [x]) := by
  intro y hy
  rcases List.mem_append.1 hy with hy | hy
  · exact h y hy
  · simp at hy
    subst hy
    exact hx
def DrawnB (w : World) (e : Ending) (w' : World) : Prop := ∃ (A : Option Addr) (c : Nat) (L : List Int), e = .returned (.slice A L.length c) ∧ Rd w' 1 A L.length c (bc L) ∧ By L ∧ L.length ≤ 200 ∧ w.grownBy w' none
theorem pack_at (A : Option Addr) (n c : Nat) (l : List Pt) (P : List Int) (w : World) (h : Rd w 2 A n c (pc l)) (hs : smallP l) (hn : n ≤ 16) (hP : packL l = P) :
    Calls Try.prog 57 #[.slice A n c] w (Bytes P w) := by
  subst hP
  exact pack_any A n c l w h hs hn
set_option maxHeartbeats 1600000 in
theorem drawUP_any (A : Option Addr) (n c : Nat) (l : List Int) (w : World) (h : Rd w 1 A n c (bc l)) (hb : By l) (hn : n ≤ 1048576) :
    Calls Try.prog 24 #[.slice A n c] w (DrawnB w) := by
  go_enter Try.func24, Try.ntmps24
  go_wp2_with fail
  refine (newReader_any A n c l w h hb hn).mono ?_
  rintro e w1 ⟨rfl, hr, hg1⟩
  clear h hb
  go_wp2_with fail
  refine (someSeries_any _ _ _ hr (by omega)).mono ?_
  rintro e w2 ⟨A2, c2, l2, q, rfl, o2, hm, hl16, hr2, hq, hg2⟩
  have G2 := g_rdS hg2 (Nat.le_refl _) hg1
  have hR := hr2.lt
  obtain ⟨P, hP⟩ : ∃ P, packL l2 = P := ⟨_, rfl⟩
  have hs : smallP l2 := fun p hp => by have := hm.2 p hp; omega
  have hPl := packL_len l2
  have hPb := packL_by hs hl16
  rw [hP] at hPl hPb
  obtain ⟨hP1, hP2⟩ := hPl
  have HS := Lib.hid (And.intro hs hP)
  have HB := Lib.hid hPb
  have R2 := Lib.hid (Rd.own o2)
  clear hs hP hPb hm o2 hr hg1 hg2
  go_wp2_with fail
  refine (pack_at _ _ _ l2 P w2 R2.out HS.out.1 hl16 HS.out.2).mono ?_
  rintro e w3 ⟨A3, c3, rfl, o3, g3⟩
  have hr3 := hr2.kept g3
  have g3s := g3.size
  have G3 := g_trans G2 g3
  clear hr2 G2 g3
  go_wp2_with fail
  refine (pick_any _ _ _ _ hr3 (by omega) (by omega)).mono ?_
  rintro e w4 ⟨y, rfl, y0, y1, hr4, hg4⟩
  have o4 := own_kept o3 hg4 (fun g e => by injection e with e; omega)
  have G4 := g_new G3 hg4 (fun g e => by injection e with e; omega)
  have hw2 : w2.heap.size ≤ w4.heap.size := by exact Nat.le_trans g3s hg4.size
  clear hr3 o3 hg4 G3 y1
  by_cases d0 : y = 0
  · subst d0
    obtain ⟨g, rfl, hgb, hgs⟩ := own_addr o4 (by omega)
    go_wp2_with fail
    refine (pick_any _ _ _ _ hr4 (by omega) (by omega)).mono ?_
    rintro e w5 ⟨u, rfl, u0, u1, hr5, hg5⟩
    have o5 := own_kept o4 hg5 (fun g e => by injection e with e; omega)
    have G5 := g_new G4 hg5 (fun g e => by injection e with e; omega)
    have u2 : u < (P.length : Int) := by omega
    clear hr4 o4 hg5 G4 u1
    go_wp2_with fail
    refine (pick_any _ _ _ _ hr5 (by omega) (by omega)).mono ?_
    rintro e w6 ⟨v, rfl, v0, v1, hr6, hg6⟩
    have o6 := own_kept o5 hg6 (fun g e => by injection e with e; omega)
    have G6 := g_new G5 hg6 (fun g e => by injection e with e; omega)
    have v2 : v ≤ 250 := by omega
    clear hr5 o5 hg6 G5 v1
    obtain ⟨k, rfl⟩ := Int.eq_ofNat_of_zero_le u0
    have hk : k < P.length := by omega
    have hw : IntKind.u8.wrap v = v := IntWalk.u8_in _ (by omega)
    obtain ⟨x0, hx0, -⟩ := get_ex hk
    have cc := (o6.cellAt k (by omega)).trans (bc_at hx0)
    have ff := o6.frozenAt k
    have HO := Lib.hid (And.intro o6 (o6.stored k (.int .u8 v)))
    have HLN : Hid (P.length = (P.set k v).length) := by show _ = _; simp
    have HM2 := Lib.hid (by_set k HB.out (x := v) (by omega))
    clear o6 hr6 hx0
    go_wp2
    go_ret
    rw [HLN.out]
    refine ⟨_, _, P.set k v, rfl, ?_, HM2.out, by rw [← HLN.out]; omega, g_new G6 HO.out.2.2 (by intro g e; injection e with e; omega)⟩
    rw [← HLN.out, ← bc_set]
    exact Rd.own HO.out.2.1
  by_cases d1 : y = 1
  · subst d1
    go_wp2_with fail
    refine (pick_any _ _ _ _ hr4 (by omega) (by omega)).mono ?_
    rintro e w5 ⟨u, rfl, u0, u1, hr5, hg5⟩
    have o5 := own_kept o4 hg5 (fun g e => by injection e with e; omega)
    have G5 := g_new G4 hg5 (fun g e => by injection e with e; omega)
    have u2 : u ≤ 5 := by omega
    have hb5 : w2.heap.size ≤ w5.heap.size := Nat.le_trans hw2 hg5.size
    have hw : IntKind.u8.wrap u = u := IntWalk.u8_in _ (by omega)
    have hww : Hid (w.heap.size ≤ w2.heap.size) := by show _ ≤ _; omega
    clear hr4 o4 hg5 G4 u1 hr5
    go_wp2_with (at_builtin; refine app_by rfl (.tmp 25) (.tmp 29) rfl w2.heap.size P w5 u A3 c3 rfl o5 rfl (by omega) hb5 ?_; intro A6 c6 w6 o6 g6 _)
    have G6 := g_new G5 g6 (fun g e => by have := own_new o5 g e; have := hww.out; omega)
    have R6 := Lib.hid (Rd.own o6)
    have HM2 := Lib.hid (by_snoc HB.out (x := u) (by omega))
    clear o5 g6 G5 o6
    go_wp2
    go_ret
    exact ⟨A6, c6, P ++ [u], by simp, R6.out, HM2.out, by simp; omega, G6⟩
  by_cases d2 : y = 2
  · subst d2
    obtain ⟨g, hg0⟩ : ∃ g, P.length = g + 1 := ⟨P.length - 1, by omega⟩
    have hT := (Rd.own o4).to_ (k := g) (by omega)
    rw [show (bc P).take (g * 1) = bc (P.take g) by simp [bc, List.map_take]] at hT
    have hcap := (Rd.own o4).cap
    have hw : IntKind.i64.wrap ((P.length : Int) - 1) = (g : Int) := by rw [show ((P.length : Int) - 1) = (g : Int) by omega]; exact IntWalk.i64_in _ (by omega)
    have k0 : (0 : Int) ≤ (g : Int) := by omega
    have hg200 : g ≤ 200 := by omega
    have k1 : (g : Int) ≤ (c3 : Int) := by omega
    have HT := Lib.hid hT
    have HL := Lib.hid (show (P.take g).length = g by rw [List.length_take]; omega)
    have HM2 : Hid (By (P.take g)) := fun z hz => HB.out z (List.mem_of_mem_take hz)
    clear o4 hr4 hT hcap hg0
    go_wp2
    go_ret
    refine ⟨A3, c3, P.take g, by rw [HL.out]; rfl, by rw [HL.out]; exact HT.out, HM2.out, by rw [HL.out]; omega, G4⟩
  have e0 : (y == 0) = false := by simpa using d0
  have e1 : (y == 1) = false := by simpa using d1
  have e2 : (y == 2) = false := by simpa using d2
  have R4 := Lib.hid (Rd.own o4)
  clear o4 hr4 d0 d1 d2
  go_wp2
  go_ret
  exact ⟨A3, c3, P, rfl, R4.out, HB.out, by omega, G4⟩
end Go.Proofs.Ytcgeagcfhjdpcaa
