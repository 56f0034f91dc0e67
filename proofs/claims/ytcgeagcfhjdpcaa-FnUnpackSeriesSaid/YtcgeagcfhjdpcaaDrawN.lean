/- What the generators of numbers give. -/
import Derived.Test.YtcgeagcfhjdpcaaDrawS
import Derived.Test.YtcgeagcfhjdpcaaPApp
import Derived.Test.YtcgeagcfhjdpcaaDel
namespace Go.Proofs.Ytcgeagcfhjdpcaa
set_option linter.unusedVariables false
open Go.RowKit

theorem ic_take (l : List Int) (k : Nat) : (ic l).take (k * 1) = ic (l.take k) := by simp [ic, List.map_take]
theorem ic_drop (l : List Int) (k : Nat) : (ic l).drop (k * 1) = ic (l.drop k) := by simp [ic, List.map_drop]
theorem ic_set (l : List Int) (k : Nat) (x : Int) : (ic l).set k (.int .i64 x) = ic (l.set k x) := by simp [ic, List.map_set]
def midN (l : List Int) : Prop := l.length ≤ 18 ∧ ∀ x ∈ l, -1000000 ≤ x ∧ x ≤ 1000000
theorem midN_snoc {l : List Int} {x : Int} (h : midN l) (hl : l.length ≤ 17) (hx : -1000000 ≤ x ∧ x ≤ 1000000) : midN (l ++ [x]) := by
  refine ⟨by simp; omega, fun y hy => ?_⟩
  rcases List.mem_append.1 hy with hy | hy
  · exact h.2 y hy
  · simp at hy
    subst hy
    exact hx
theorem midN_set {l : List Int} {x : Int} (k : Nat) (h : midN l) (hx : -1000000 ≤ x ∧ x ≤ 1000000) : midN (l.set k x) := by
  refine ⟨by simp; exact h.1, fun y hy => ?_⟩
  rcases List.mem_or_eq_of_mem_set hy with hy | rfl
  · exact h.2 y hy
  · exact hx
theorem midN_drop {l : List Int} (k : Nat) (h : midN l) : midN (l.drop k) := ⟨by rw [List.length_drop]; have := h.1; omega, fun y hy => h.2 y (List.mem_of_mem_drop hy)⟩
def Drawn (row : Option Nat) (w : World) (e : Ending) (w' : World) : Prop := ∃ (A : Option Addr) (c : Nat) (L : List Int), e = .returned (.slice A L.length c) ∧ Rd w' 1 A L.length c (ic L) ∧ midN L ∧ w.grownBy w' row

theorem one_litH (R : Nat) (p : Int) (l : List Int) (t : TypeId) (w : World) (H : Nat) (hH : w.heap.size = H) (h : Rdr w R p) (hp : p ≤ 1000000000) (hl : 1 ≤ l.length) (hl2 : l.length ≤ 1000) :
    Calls Try.prog 75 #[.pointer (some ⟨R, 0, none⟩), .slice (some ⟨H, 0, none⟩) l.length l.length] (w.alloc (.cells (ic l).toArray t)) fun e w' => ∃ x, e = .returned (.int .i64 x) ∧ x ∈ l ∧ Rdr w' R (p + 1) ∧ w.grownBy w' (some R) := by
  subst hH
  exact one_lit R p l t w h hp hl hl2
theorem copyInts_any (A : Option Addr) (n c : Nat) (l : List Int) (w : World) (h : Rd w 1 A n c (ic l)) (hn : n ≤ 1000) :
    Calls Try.prog 88 #[.slice A n c] w (Numbers l w) := by
  go_enter Try.func88, Try.ntmps88
  go_wp2_with (at_builtin; refine apps_in rfl (.tmp 3) (.tmp 4) rfl w.heap.size [] l _ _ A 0 n c rfl (lit_own w w.heap.size 3 1 [] 0 (Nat.le_refl _) (by omega) rfl) rfl (h.keptN (g_alloc _ _ _)) (by simp) (by omega) (by simp) ?_; intro A' c' w1 hown hg _)
  go_ret
  exact ⟨A', c', rfl, hown, g_new (g_alloc _ _ _) hg (by intro g e; simp [Value.ownBlock] at e; omega)⟩
set_option maxHeartbeats 1600000 in
theorem spoil_any (R : Nat) (p : Int) (A : Option Addr) (c : Nat) (l : List Int) (w : World) (h : Rdr w R p) (hp : p ≤ 700000000) (hr : Rd w 1 A l.length c (ic l)) (hl : l.length ≤ 17) (hb : midN l) :
    Calls Try.prog 82 #[.pointer (some ⟨R, 0, none⟩), .slice A l.length c, .int .i64 100001] w (Drawn (some R) w) := by
  have hR := h.lt
  have HM := Lib.hid hb
  clear hb
  go_enter Try.func82, Try.ntmps82
  go_wp2_with fail
  refine (copyInts_any A l.length c l w hr (by omega)).mono ?_
  rintro e w1 ⟨A1, c1, rfl, o1, g1⟩
  have hr1 := h.kept g1
  clear h hr
  go_wp2_with fail
  refine (pick_any R _ _ _ hr1 (by omega) (by omega)).mono ?_
  rintro e w2 ⟨y, rfl, y0, y1, hr2, hg2⟩
  have o2 := keep_row o1 hg2 hR
  have G2 := g_trans (g_any g1 (some R)) hg2
  have hsz := G2.size
  clear hr1 o1 g1 hg2 y1
  by_cases d0 : y = 0
  · subst d0
    go_wp2_with (at_builtin; refine app_in rfl (.tmp 14) (.tmp 16) rfl w.heap.size l w2 100001 A1 c1 rfl o2 rfl (by omega) hsz ?_; intro A6 c6 w6 hown6 hg6 _)
    have G6 := g_new G2 hg6 (own_new o2)
    have HM2 := Lib.hid (midN_snoc (x := 100001) HM.out (by omega) (by omega))
    have HR := Lib.hid (Rd.own hown6)
    clear o2 hr2 hg6 G2 hown6
    go_wp2
    go_ret
    exact ⟨A6, c6, l ++ [100001], by simp, HR.out, HM2.out, G6⟩
  by_cases d1 : y = 1
  · subst d1
    by_cases hz : l.length = 0
    · have hz' : ¬ (0 : Int) < (l.length : Int) := by omega
      have HR := Lib.hid (Rd.own o2)
      have HZ := Lib.hid hz
      clear o2 hr2 hz
      go_wp2
      go_ret
      exact ⟨A1, c1, l, rfl, HR.out, HM.out, G2⟩
    · obtain ⟨g, rfl, hgb, hgs⟩ := own_addr o2 (by omega)
      have hF := (Rd.own o2).from_ (k := 1) (by omega)
      have hl1 : (1 : Int) ≤ (l.length : Int) := by omega
      have hl0 : (0 : Int) < (l.length : Int) := by omega
      have HLN : Hid (l.length - 1 = (l.drop 1).length) := by show _ = _; rw [List.length_drop]
      rw [ic_drop] at hF
      by_cases hc : c1 = 1
      · subst hc
        rw [if_pos rfl] at hF
        have HO := Lib.hid hF
        clear o2 hr2 hF hz
        go_wp2
        go_ret
        rw [HLN.out]
        exact ⟨_, _, l.drop 1, rfl, by rw [← HLN.out]; exact HO.out, midN_drop 1 HM.out, G2⟩
      · rw [if_neg hc] at hF
        have HO := Lib.hid hF
        clear o2 hr2 hF hz
        go_wp2
        go_ret
        rw [HLN.out]
        refine ⟨_, _, l.drop 1, rfl, ?_, midN_drop 1 HM.out, G2⟩
        have := HO.out
        rw [← HLN.out]
        simpa [add_lit'] using this
  by_cases d2 : y = 2
  · subst d2
    by_cases hz : l.length = 0
    · have hz' : ¬ (0 : Int) < (l.length : Int) := by omega
      have HR := Lib.hid (Rd.own o2)
      have HZ := Lib.hid hz
      clear o2 hr2 hz
      go_wp2
      go_ret
      exact ⟨A1, c1, l, rfl, HR.out, HM.out, G2⟩
    · obtain ⟨g, rfl, hgb, hgs⟩ := own_addr o2 (by omega)
      have hl0 : (0 : Int) < (l.length : Int) := by omega
      go_wp2_with fail
      refine (pick_any R _ _ _ hr2 (by omega) (by omega)).mono ?_
      rintro e w3 ⟨u, rfl, u0, u1, hr3, hg3⟩
      have G3 := g_trans G2 hg3
      have o3 := keep_row o2 hg3 hR
      clear hr2 hg3 o2 G2
      go_wp2_with fail
      refine (one_lit R _ [-1, 100001, 0, 1] _ w3 hr3 (by omega) (by simp) (by simp)).mono ?_
      rintro e w4 ⟨v, rfl, hv, hr4, hg4⟩
      have v2 : -1000000 ≤ v ∧ v ≤ 1000000 := by simp at hv; omega
      have G4 := g_trans G3 hg4
      have o4 := keep_row o3 hg4 hR
      obtain ⟨k, rfl⟩ := Int.eq_ofNat_of_zero_le u0
      have hk : k < l.length := by omega
      have hk' : (k : Int) < (l.length : Int) := by omega
      obtain ⟨x0, hx0, _⟩ := get_ex hk
      have cc := (o4.cellAt k (by omega)).trans (ic_at hx0)
      have ff := o4.frozenAt k
      have HO := Lib.hid (And.intro o4 (o4.stored k (.int .i64 v)))
      have HLN : Hid (l.length = (l.set k v).length) := by show _ = _; simp
      have HM2 := Lib.hid (midN_set k HM.out v2)
      clear hr3 hr4 hg4 o3 o4 G3 u1 hx0 hv hz
      go_wp2
      go_ret
      rw [HLN.out]
      refine ⟨_, _, l.set k v, rfl, ?_, HM2.out, g_new G4 HO.out.2.2 (by intro g e; injection e with e; omega)⟩
      rw [← HLN.out, ← ic_set]
      exact Rd.own HO.out.2.1
  have e0 : (y == 0) = false := by simpa using d0
  have e1 : (y == 1) = false := by simpa using d1
  have e2 : (y == 2) = false := by simpa using d2
  have HR := Lib.hid (Rd.own o2)
  clear o2 hr2 d0 d1 d2
  go_wp2
  go_ret
  exact ⟨A1, c1, l, rfl, HR.out, HM.out, G2⟩
set_option maxHeartbeats 1600000 in
theorem someNumbers_any (R : Nat) (p : Int) (w : World) (h : Rdr w R p) (hp : p ≤ 600000000) :
    Calls Try.prog 65 #[.pointer (some ⟨R, 0, none⟩)] w (Drawn (some R) w) := by
  have hR := h.lt
  go_enter Try.func65, Try.ntmps65
  go_wp2_with fail
  refine (one_litH R p [5, 8, 3, 1, 0, 16, 17] _ (w.alloc (.cells [].toArray 3)) _ (by simp) (h.kept (g_alloc _ _ _)) (by omega) (by simp) (by simp)).mono ?_
  rintro e w4 ⟨n0, rfl, hn0, hr4, hg4⟩
  have n2 : 0 ≤ n0 ∧ n0 ≤ 17 := by simp at hn0; omega
  have o4 := keep_row (lit_own w w.heap.size 3 1 [] 0 (Nat.le_refl _) (by omega) rfl) hg4 hR
  have G4 := g_trans (g_alloc w (.cells [].toArray 3) (some R)) hg4
  clear hn0 hg4 h
  go_wp2
  go_loopw [3, 4] (fun q3 q4 wr => ∃ (acc : List Int) (n q : Int) (A : Option Addr) (c : Nat), q3 = .slice A acc.length c ∧ q4 = .int .i64 n ∧ 0 ≤ n ∧ (acc.length : Int) + n ≤ 17 ∧ wr.ownsRow w.heap.size 3 1 (.slice A acc.length c) acc.length (ic acc) ∧ Hid (midN acc) ∧ Rdr wr R q ∧ q + 10 * n ≤ p + 500 ∧ w.grownBy wr (some R)) (fun _ q4 _ => (intOf q4).toNat)
  case atStart => exact ⟨[], n0, _, _, 0, rfl, rfl, n2.1, by simp; omega, o4, ⟨by simp, by simp⟩, hr4, by omega, G4⟩
  case round =>
    obtain ⟨acc, n, q, A, c, rfl, rfl, n0', nacc, hown, hmid, hrd, hq, hg⟩ := hrel
    have hsz := hg.size
    clear o4 hr4 G4
    by_cases hn : 0 < n
    · go_wp2_with fail
      refine (pick_any R _ _ _ hrd (by omega) (by omega)).mono ?_
      rintro e w5 ⟨z, rfl, z0, z1, hr5, hg5⟩
      have hown5 := keep_row hown hg5 hR
      have G5 := g_trans hg hg5
      clear hown hrd hg5 hg
      go_wp2_with fail
      refine (pick_any R _ _ _ hr5 (by omega) (by omega)).mono ?_
      rintro e w6 ⟨y, rfl, y0, y1, hr6, hg6⟩
      have hown6 := keep_row hown5 hg6 hR
      have G6 := g_trans G5 hg6
      clear hown5 hr5 hg6 G5
      go_wp2_with fail
      refine (one_lit R _ [0, 1, -1, 100, 100000, -100000, z, 4 * y] _ w6 hr6 (by omega) (by simp) (by simp)).mono ?_
      rintro e w7 ⟨v, rfl, hv, hr7, hg7⟩
      have v2 : -1000000 ≤ v ∧ v ≤ 1000000 := by simp at hv; omega
      have hown7 := keep_row hown6 hg7 hR
      have G7 := g_trans G6 hg7
      have hsz7 := G7.size
      clear hown6 hr6 hg7 G6 hv z1 y1
      go_wp2_with (at_builtin; refine app_in rfl (.tmp 13) (.tmp 22) rfl w.heap.size acc w7 v A c rfl hown7 rfl (by omega) hsz7 ?_; intro A8 c8 w8 hown8 hg8 _)
      have G8 := g_new G7 hg8 (own_new hown7)
      have hr8 := Rdr.far hr7 hown7 hR hg8
      have HM := Lib.hid (midN_snoc (x := v) hmid.out (by omega) v2)
      have hl8 : ((acc ++ [v]).length : Int) + (n - 1) ≤ 17 := by simp; omega
      clear hown7 hg8 hr7 G7 hmid
      go_wp2
      go_roundw
      case rel => exact ⟨acc ++ [v], n - 1, q + 1 + 1 + 1, A8, c8, by simp, rfl, by omega, hl8, hown8, HM, hr8, by omega, G8⟩
      case measure => simp [intOf]; omega
    · have hn0 : ¬ 0 < n := hn
      have HR := Lib.hid (Rd.own hown)
      clear hown
      go_wp2_with fail
      refine (spoil_any R q A c acc wr hrd (by omega) HR.out (by omega) hmid.out).mono ?_
      rintro e w8 ⟨A8, c8, L, rfl, h8, m8, g8⟩
      have H8 := Lib.hid (And.intro h8 m8)
      have G8 := g_trans hg g8
      clear h8 m8 g8 hg
      go_wp2
      go_ret
      exact ⟨A8, c8, L, rfl, H8.out.1, H8.out.2, G8⟩
theorem drawDel_any (A : Option Addr) (n c : Nat) (l : List Int) (w : World) (h : Rd w 1 A n c (bc l)) (hb : By l) (hn : n ≤ 1048576) :
    Calls Try.prog 27 #[.slice A n c] w (Drawn none w) := by
  go_enter Try.func27, Try.ntmps27
  go_wp2_with fail
  refine (newReader_any A n c l w h hb hn).mono ?_
  rintro e w1 ⟨rfl, hr, hg1⟩
  clear h hb
  go_wp2_with fail
  refine (someNumbers_any _ _ _ hr (by omega)).mono ?_
  rintro e w2 ⟨A2, c2, L, rfl, h2, hm, hg2⟩
  have G := g_rdS hg2 (Nat.le_refl _) hg1
  have H2 := Lib.hid (And.intro h2 hm)
  clear h2 hm hg2 hg1 hr
  go_wp2
  go_ret
  exact ⟨A2, c2, L, rfl, H2.out.1, H2.out.2, G⟩
theorem drawSum_any (A : Option Addr) (n c : Nat) (l : List Int) (w : World) (h : Rd w 1 A n c (bc l)) (hb : By l) (hn : n ≤ 1048576) :
    Calls Try.prog 31 #[.slice A n c] w (Drawn none w) := by
  go_enter Try.func31, Try.ntmps31
  go_wp2_with fail
  refine (newReader_any A n c l w h hb hn).mono ?_
  rintro e w1 ⟨rfl, hr, hg1⟩
  clear h hb
  go_wp2_with fail
  refine (someNumbers_any _ _ _ hr (by omega)).mono ?_
  rintro e w2 ⟨A2, c2, L, rfl, h2, hm, hg2⟩
  have G := g_rdS hg2 (Nat.le_refl _) hg1
  have H2 := Lib.hid (And.intro h2 hm)
  clear h2 hm hg2 hg1 hr
  go_wp2
  go_ret
  exact ⟨A2, c2, L, rfl, H2.out.1, H2.out.2, G⟩
end Go.Proofs.Ytcgeagcfhjdpcaa
