/- What the generators of series give. -/
import Derived.Test.YtcgeagcfhjdpcaaProg
import Derived.Test.YtcgeagcfhjdpcaaPick
import Derived.Test.YtcgeagcfhjdpcaaPApp
namespace Go.Proofs.Ytcgeagcfhjdpcaa
set_option linter.unusedVariables false
open Go.RowKit

theorem g_rdS {w a b : World} {R : Nat} (h : a.grownBy b (some R)) (hR : w.heap.size ≤ R) (h0 : w.grownBy a none) : w.grownBy b none := g_new h0 h (by intro g e; injection e with e; omega)
/-- points with numbers that are not large -/
def midP (p : Pt) : Prop := (-1000000 ≤ p.1 ∧ p.1 ≤ 1000000) ∧ (-1000000 ≤ p.2 ∧ p.2 ≤ 1000000)
def midL (l : List Pt) : Prop := l.length ≤ 17 ∧ ∀ p ∈ l, midP p
theorem midL_snoc {l : List Pt} {t v : Int} (h : midL l) (hl : l.length ≤ 16) (ht : -1000000 ≤ t ∧ t ≤ 1000000) (hv : -1000000 ≤ v ∧ v ≤ 1000000) : midL (l ++ [(t, v)]) := by
  refine ⟨by simp; omega, fun p hp => ?_⟩
  rcases List.mem_append.1 hp with hp | hp
  · exact h.2 p hp
  · simp at hp
    subst hp
    exact ⟨ht, hv⟩

theorem someValue_any (R : Nat) (p : Int) (w : World) (h : Rdr w R p) (hp : p ≤ 900000000) :
    Calls Try.prog 81 #[.pointer (some ⟨R, 0, none⟩)] w fun e w' => ∃ x, e = .returned (.int .i64 x) ∧ -1000 ≤ x ∧ x ≤ 1000 ∧ Rdr w' R (p + 3) ∧ w.grownBy w' (some R) := by
  go_enter Try.func81, Try.ntmps81
  go_wp2_with fail
  refine (pick_any _ _ _ _ h (by omega) (by omega)).mono ?_
  rintro e w2 ⟨z, rfl, z0, z1, hr2, hg2⟩
  go_wp2_with fail
  refine (pick_any _ _ _ _ hr2 (by omega) (by omega)).mono ?_
  rintro e w3 ⟨y, rfl, y0, y1, hr3, hg3⟩
  go_wp2_with fail
  refine (one_lit _ _ [0, 1, -1, 5, 10, 100, 1000, -1000, z, 4 * y - 500] _ w3 hr3 (by omega) (by simp) (by simp)).mono ?_
  rintro e w4 ⟨x, rfl, hx, hr4, hg4⟩
  have hx2 : -1000 ≤ x ∧ x ≤ 1000 := by simp at hx; omega
  have e3 : p + 1 + 1 + 1 = p + 3 := by omega
  rw [e3] at hr4
  clear hx z1 y1 hr2 hr3 e3
  go_wp2
  go_ret
  exact ⟨x, rfl, hx2.1, hx2.2, hr4, g_trans hg2 (g_trans hg3 hg4)⟩

/-- a row that was made after the reader, and the reader -/
theorem keep_row {w a b : World} {R : Nat} {e : TypeId} {size n : Nat} {v : Value} {xs : List Value} (h : a.ownsRow w.heap.size e size v n xs) (hg : a.grownBy b (some R)) (hR : R < w.heap.size) : b.ownsRow w.heap.size e size v n xs :=
  own_kept h hg (by intro g e; injection e with e; omega)
theorem Rdr.far {w a b : World} {R : Nat} {p : Int} {e : TypeId} {size n : Nat} {v : Value} {xs : List Value} (h : Rdr a R p) (hown : a.ownsRow w.heap.size e size v n xs) (hR : R < w.heap.size) (hg : a.grownBy b v.ownBlock) : Rdr b R p := by
  obtain ⟨A, m, c, l, h1, h2, h3, h4, h5, h6⟩ := h
  have hn := own_new hown
  refine ⟨A, m, c, l, h1.kept hg (fun e' => by have := hn R e'; omega), h2.kept hg (fun hm a ha e' => ?_), h3, h4, h5, h6⟩
  have := hn _ e'
  have := h4 hm a ha
  omega

def SomeS (R : Nat) (p : Int) (m : Nat) (d : Int) (w : World) (e : Ending) (w' : World) : Prop := ∃ (A : Option Addr) (c : Nat) (l : List Pt) (q : Int), e = .returned (.slice A l.length c) ∧ w'.ownsRow w.heap.size 39 2 (.slice A l.length c) l.length (pc l) ∧ midL l ∧ l.length ≤ m ∧ Rdr w' R q ∧ q ≤ p + d ∧ w.grownBy w' (some R)
def midT (l : List Pt) : Prop := midL l ∧ ∀ p ∈ l, 0 ≤ p.1 ∧ p.1 ≤ 1000 ∧ -1000 ≤ p.2 ∧ p.2 ≤ 1000
theorem midT_snoc {l : List Pt} {t v : Int} (h : midT l) (hl : l.length ≤ 16) (ht : t ≤ 1000) (hv : -1000 ≤ v ∧ v ≤ 1000) (h0 : 0 ≤ t) : midT (l ++ [(t, v)]) := by
  refine ⟨midL_snoc h.1 hl (by omega) (by omega), fun p hp => ?_⟩
  rcases List.mem_append.1 hp with hp | hp
  · exact h.2 p hp
  · simp at hp
    subst hp
    exact ⟨h0, ht, hv.1, hv.2⟩
def SomeT (R : Nat) (p : Int) (m : Nat) (d : Int) (w : World) (e : Ending) (w' : World) : Prop := ∃ (A : Option Addr) (c : Nat) (l : List Pt) (q : Int), e = .returned (.slice A l.length c) ∧ w'.ownsRow w.heap.size 39 2 (.slice A l.length c) l.length (pc l) ∧ midT l ∧ l.length ≤ m ∧ Rdr w' R q ∧ q ≤ p + d ∧ w.grownBy w' (some R)
set_option maxHeartbeats 1600000 in
theorem someSeries_any (R : Nat) (p : Int) (w : World) (h : Rdr w R p) (hp : p ≤ 800000000) :
    Calls Try.prog 59 #[.pointer (some ⟨R, 0, none⟩)] w (SomeT R p 16 1000 w) := by
  have hR := h.lt
  go_enter Try.func59, Try.ntmps59
  go_wp2_with fail
  refine (pick_any _ _ _ _ (h.kept (g_alloc _ _ _)) (by omega) (by omega)).mono ?_
  rintro e w2 ⟨z, rfl, z0, z1, hr2, hg2⟩
  go_wp2_with fail
  refine (one_lit _ _ [1, 5, 10, 7, 20] _ w2 hr2 (by omega) (by simp) (by simp)).mono ?_
  rintro e w3 ⟨st, rfl, hst, hr3, hg3⟩
  have st2 : 0 ≤ st ∧ st ≤ 20 := by simp at hst; omega
  go_wp2_with fail
  refine (one_lit _ _ [5, 8, 3, 12, 1, 0, 16] _ w3 hr3 (by omega) (by simp) (by simp)).mono ?_
  rintro e w4 ⟨n0, rfl, hn0, hr4, hg4⟩
  have n2 : 0 ≤ n0 ∧ n0 ≤ 16 := by simp at hn0; omega
  have hz : 0 ≤ z ∧ z ≤ 20 := by omega
  have o4 := keep_row (keep_row (keep_row (lit_own w w.heap.size 39 2 [] 0 (Nat.le_refl _) (by omega) rfl) hg2 hR) hg3 hR) hg4 hR
  have G4 := g_trans (g_alloc w (.cells [].toArray 39) (some R)) (g_trans hg2 (g_trans hg3 hg4))
  clear hst hn0 z0 z1 hr2 hr3 hg2 hg3 hg4 h
  obtain ⟨st0, st1⟩ := st2
  go_wp2
  go_loopw [3, 4, 6] (fun q3 q4 q6 wr => ∃ (acc : List Pt) (t n q : Int) (A : Option Addr) (c : Nat), q3 = .slice A acc.length c ∧ q4 = .int .i64 t ∧ q6 = .int .i64 n ∧ 0 ≤ t ∧ t ≤ 2000 ∧ 0 ≤ n ∧ (acc.length : Int) + n ≤ 16 ∧ wr.ownsRow w.heap.size 39 2 (.slice A acc.length c) acc.length (pc acc) ∧ Hid (midT acc) ∧ Rdr wr R q ∧ q + 10 * n ≤ p + 500 ∧ w.grownBy wr (some R)) (fun _ _ q6 _ => (intOf q6).toNat)
  case atStart => exact ⟨[], z, n0, _, _, 0, rfl, rfl, rfl, hz.1, by omega, n2.1, by simp; omega, o4, ⟨⟨by simp, by simp⟩, by simp⟩, hr4, by omega, G4⟩
  case round =>
    obtain ⟨acc, t, n, q, A, c, rfl, rfl, rfl, t0, t1, n0', nacc, hown, hmid, hrd, hq, hg⟩ := hrel
    have hsz := hg.size
    clear o4 hr4 G4
    by_cases hn : 0 < n
    · by_cases ht : t ≤ 1000
      · go_wp2_with fail
        refine (someValue_any R q _ hrd (by omega)).mono ?_
        rintro e w5 ⟨v, rfl, v0, v1, hr5, hg5⟩
        have hown5 := keep_row hown hg5 hR
        have G5 := g_trans hg hg5
        have hsz5 := G5.size
        clear hown hrd hg5 hg
        go_wp2_with (at_builtin; refine app_pt rfl (.tmp 24) (.tmp 29) rfl w.heap.size acc _ t v A c rfl hown5 rfl (by omega) hsz5 ?_; intro A6 c6 w6 hown6 hg6 _)
        have hb6 := own_new hown5
        have G6 : w.grownBy w6 (some R) := g_new G5 hg6 hb6
        have hr6 : Rdr w6 R (q + 3) := Rdr.far hr5 hown5 hR hg6
        have HM := Lib.hid (midT_snoc hmid.out (by omega) (t := t) (v := v) (by omega) (by omega) t0)
        have hl6 : ((acc ++ [(t, v)]).length : Int) + (n - 1) ≤ 16 := by simp; omega
        clear hown5 hg6 hr5 hb6 G5 hmid
        go_wp2_with fail
        refine (pick_any R _ _ _ hr6 (by omega) (by omega)).mono ?_
        rintro e w7 ⟨y, rfl, y0, y1, hr7, hg7⟩
        have hown7 := keep_row hown6 hg7 hR
        have G7 := g_trans G6 hg7
        clear hr6 hown6 hg7 G6 y1
        by_cases hy : y = 0
        · subst hy
          go_wp2_with fail
          refine (one_lit R _ [1, 3, 30, 50] _ w7 hr7 (by omega) (by simp) (by simp)).mono ?_
          rintro e w8 ⟨u, rfl, hu, hr8, hg8⟩
          have hu2 : 0 ≤ u ∧ u ≤ 50 := by simp at hu; omega
          have hown8 := keep_row hown7 hg8 hR
          have G8 := g_trans G7 hg8
          clear hu hr7 hown7 hg8 G7
          obtain ⟨u0, u1⟩ := hu2
          go_wp2
          go_roundw
          case rel => exact ⟨acc ++ [(t, v)], t + st + u, n - 1, q + 3 + 1 + 1, A6, c6, by simp, rfl, rfl, by omega, by omega, by omega, hl6, hown8, HM, hr8, by omega, G8⟩
          case measure => simp [intOf]; omega
        · have hy' : (y == 0) = false := by simpa using hy
          go_wp2
          go_roundw
          case rel => exact ⟨acc ++ [(t, v)], t + st, n - 1, q + 3 + 1, A6, c6, by simp, rfl, rfl, by omega, by omega, by omega, hl6, hown7, HM, hr7, by omega, G7⟩
          case measure => simp [intOf]; omega
      · have hd : decide (0 < n) = true := by simpa using hn
        have hd2 : decide (t ≤ 1000) = false := by simpa using ht
        go_wp2
        go_ret
        exact ⟨A, c, acc, q, rfl, hown, hmid.out, by omega, hrd, by omega, hg⟩
    · have hd : decide (0 < n) = false := by simpa using hn
      go_wp2
      go_ret
      exact ⟨A, c, acc, q, rfl, hown, hmid.out, by omega, hrd, by omega, hg⟩

set_option maxHeartbeats 1600000 in
theorem anySeries_any (R : Nat) (p : Int) (w : World) (h : Rdr w R p) (hp : p ≤ 700000000) :
    Calls Try.prog 52 #[.pointer (some ⟨R, 0, none⟩)] w (SomeS R p 17 2000 w) := by
  have hR := h.lt
  go_enter Try.func52, Try.ntmps52
  go_wp2_with fail
  refine (someSeries_any R p _ h (by omega)).mono ?_
  rintro e w2 ⟨A, c, l, q, rfl, o2, ⟨hmid, _⟩, hl16, hr2, hq, hg2⟩
  clear h
  go_wp2_with fail
  refine (pick_any R _ _ _ hr2 (by omega) (by omega)).mono ?_
  rintro e w3 ⟨y, rfl, y0, y1, hr3, hg3⟩
  have o3 := keep_row o2 hg3 hR
  have G3 := g_trans hg2 hg3
  have hsz3 := G3.size
  have HM := Lib.hid hmid
  clear hr2 o2 hg2 hg3 y1 hmid
  by_cases d0 : y = 0
  · subst d0
    go_wp2_with fail
    refine (one_lit R _ [0, 1000, 1001, -1] _ w3 hr3 (by omega) (by simp) (by simp)).mono ?_
    rintro e w4 ⟨t, rfl, ht, hr4, hg4⟩
    have t2 : -1000000 ≤ t ∧ t ≤ 1000000 := by simp at ht; omega
    have o4 := keep_row o3 hg4 hR
    have G4 := g_trans G3 hg4
    clear hr3 o3 hg4 G3 ht
    go_wp2_with fail
    refine (one_lit R _ [0, 1001, -1001] _ w4 hr4 (by omega) (by simp) (by simp)).mono ?_
    rintro e w5 ⟨v, rfl, hv, hr5, hg5⟩
    have v2 : -1000000 ≤ v ∧ v ≤ 1000000 := by simp at hv; omega
    have o5 := keep_row o4 hg5 hR
    have G5 := g_trans G4 hg5
    have hsz5 := G5.size
    clear hr4 o4 hg5 G4 hv
    go_wp2_with (at_builtin; refine app_pt rfl (.tmp 10) (.tmp 18) rfl w.heap.size l _ t v A c rfl o5 rfl (by omega) hsz5 ?_; intro A6 c6 w6 hown6 hg6 _)
    have G6 : w.grownBy w6 (some R) := g_new G5 hg6 (own_new o5)
    have hr6 := Rdr.far hr5 o5 hR hg6
    have HM2 := Lib.hid (midL_snoc HM.out hl16 (t := t) (v := v) t2 v2)
    clear o5 hr5 hg6 G5
    go_wp2
    go_ret
    exact ⟨A6, c6, l ++ [(t, v)], _, by simp, hown6, HM2.out, HM2.out.1, hr6, by omega, G6⟩
  by_cases d1 : y = 1
  · subst d1
    have hmm := HM.out.2
    have HMM : Hid (∀ x ∈ l, midP x) := hmm
    clear hmm HM
    go_wp2
    go_loopw [3] (fun q3 wr => ∃ (acc : List Pt) (A : Option Addr) (c : Nat), q3 = .slice A acc.length c ∧ acc.length ≤ 17 ∧ wr.ownsRow w.heap.size 39 2 (.slice A acc.length c) acc.length (pc acc) ∧ Hid (midL acc) ∧ Rdr wr R (q + 1) ∧ w.grownBy wr (some R)) (fun q3 _ => match q3 with | .slice _ m _ => 17 - m | _ => 0)
    case atStart => exact ⟨l, A, c, rfl, by omega, o3, ⟨by omega, HMM.out⟩, hr3, G3⟩
    case round =>
      obtain ⟨acc, A, c, rfl, hacc, hown, hmid, hrd, hg⟩ := hrel
      have hsz := hg.size
      clear o3 hr3 G3 HMM hsz3
      by_cases hlt : acc.length < 17
      · have hlt' : (acc.length : Int) < 17 := by omega
        go_wp2_with (at_builtin; refine app_pt rfl (.tmp 25) (.tmp 30) rfl w.heap.size acc _ (500 + acc.length) 0 A c rfl hown rfl (by omega) hsz ?_; intro A6 c6 w6 hown6 hg6 _)
        have G6 : w.grownBy w6 (some R) := g_new hg hg6 (own_new hown)
        have hr6 := Rdr.far hrd hown hR hg6
        have HM2 := Lib.hid (midL_snoc hmid.out (by omega) (t := 500 + acc.length) (v := 0) (by omega) (by omega))
        have hl2 : (acc ++ [((500 + acc.length : Int), (0 : Int))]).length = acc.length + 1 := by simp
        have HL2 := Lib.hid hl2
        clear hown hrd hg6 hg hmid hl2
        go_wp2
        go_roundw
        case rel => exact ⟨acc ++ [((500 + acc.length : Int), (0 : Int))], A6, c6, by simp, by have := HL2.out; omega, hown6, HM2, hr6, G6⟩
        case measure => have := HL2.out; simp; omega
      · have hge : ¬ (acc.length : Int) < 17 := by omega
        go_wp2
        go_ret
        exact ⟨A, c, acc, _, rfl, hown, hmid.out, hmid.out.1, hrd, by omega, hg⟩
  have e0 : (y == 0) = false := by simpa using d0
  have e1 : (y == 1) = false := by simpa using d1
  clear d0 d1
  go_wp2
  go_ret
  exact ⟨A, c, l, _, rfl, o3, HM.out, HM.out.1, hr3, by omega, G3⟩

def Series (w w' : World) (e : Ending) : Prop := ∃ (A : Option Addr) (c : Nat) (l : List Pt), e = .returned (.slice A l.length c) ∧ w'.ownsRow w.heap.size 39 2 (.slice A l.length c) l.length (pc l) ∧ midL l ∧ w.grownBy w' none
theorem drawTS_any (A : Option Addr) (n c : Nat) (l : List Int) (w : World) (h : Rd w 1 A n c (bc l)) (hb : By l) (hn : n ≤ 1048576) :
    Calls Try.prog 34 #[.slice A n c] w fun e w' => Series w w' e := by
  go_enter Try.func34, Try.ntmps34
  go_wp2_with fail
  refine (newReader_any A n c l w h hb hn).mono ?_
  rintro e w1 ⟨rfl, hr, hg1⟩
  clear h hb
  go_wp2_with fail
  refine (anySeries_any _ _ _ hr (by omega)).mono ?_
  rintro e w2 ⟨A2, c2, l2, q, rfl, o2, hm, hml, hr2, hq, hg2⟩
  have G := g_rdS hg2 (Nat.le_refl _) hg1
  have o2' := own_le o2 hg1.size
  have HM := Lib.hid hm
  clear o2 hr2 hg2 hg1 hr hm
  go_wp2
  go_ret
  exact ⟨A2, c2, l2, rfl, o2', HM.out, G⟩
theorem drawPS_any (A : Option Addr) (n c : Nat) (l : List Int) (w : World) (h : Rd w 1 A n c (bc l)) (hb : By l) (hn : n ≤ 1048576) :
    Calls Try.prog 18 #[.slice A n c] w fun e w' => Series w w' e := by
  go_enter Try.func18, Try.ntmps18
  go_wp2_with fail
  refine (newReader_any A n c l w h hb hn).mono ?_
  rintro e w1 ⟨rfl, hr, hg1⟩
  clear h hb
  go_wp2_with fail
  refine (anySeries_any _ _ _ hr (by omega)).mono ?_
  rintro e w2 ⟨A2, c2, l2, q, rfl, o2, hm, hml, hr2, hq, hg2⟩
  have G := g_rdS hg2 (Nat.le_refl _) hg1
  have o2' := own_le o2 hg1.size
  have HM := Lib.hid hm
  clear o2 hr2 hg2 hg1 hr hm
  go_wp2
  go_ret
  exact ⟨A2, c2, l2, rfl, o2', HM.out, G⟩
theorem drawPZ_any (A : Option Addr) (n c : Nat) (l : List Int) (w : World) (h : Rd w 1 A n c (bc l)) (hb : By l) (hn : n ≤ 1048576) :
    Calls Try.prog 46 #[.slice A n c] w fun e w' => Series w w' e := by
  go_enter Try.func46, Try.ntmps46
  go_wp2_with fail
  refine (newReader_any A n c l w h hb hn).mono ?_
  rintro e w1 ⟨rfl, hr, hg1⟩
  clear h hb
  go_wp2_with fail
  refine (anySeries_any _ _ _ hr (by omega)).mono ?_
  rintro e w2 ⟨A2, c2, l2, q, rfl, o2, hm, hml, hr2, hq, hg2⟩
  have G := g_rdS hg2 (Nat.le_refl _) hg1
  have o2' := own_le o2 hg1.size
  have HM := Lib.hid hm
  clear o2 hr2 hg2 hg1 hr hm
  go_wp2
  go_ret
  exact ⟨A2, c2, l2, rfl, o2', HM.out, G⟩
def SeriesInt (w w' : World) (e : Ending) : Prop := ∃ (A : Option Addr) (c : Nat) (l : List Pt) (x : Int), e = .returned (.tuple #[.slice A l.length c, .int .i64 x]) ∧ (-3000 ≤ x ∧ x ≤ 3000) ∧ w'.ownsRow w.heap.size 39 2 (.slice A l.length c) l.length (pc l) ∧ midL l ∧ w.grownBy w' none
def SeriesInts (w w' : World) (e : Ending) : Prop := ∃ (A : Option Addr) (c : Nat) (l : List Pt) (x y : Int), e = .returned (.tuple #[.slice A l.length c, .int .i64 x, .int .i64 y]) ∧ (-3000 ≤ x ∧ x ≤ 3000) ∧ (-3000 ≤ y ∧ y ≤ 3000) ∧ w'.ownsRow w.heap.size 39 2 (.slice A l.length c) l.length (pc l) ∧ midL l ∧ w.grownBy w' none
end Go.Proofs.Ytcgeagcfhjdpcaa
