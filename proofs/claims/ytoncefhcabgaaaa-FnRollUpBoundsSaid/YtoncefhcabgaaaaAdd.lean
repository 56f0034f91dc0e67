/- Contracts of what adds a bucket behind others: impl.addBucket, spec.add. -/
import Derived.Test.YtoncefhcabgaaaaProg
import Derived.Test.YtoncefhcabgaaaaGrp
import Derived.Test.YtoncefhcabgaaaaJoin
import Derived.Test.YtoncefhcabgaaaaMark
import Derived.Test.YtoncefhcabgaaaaPApp
import Derived.Deep.RegionHeld3
import Derived.Deep.RegionLaw
import Derived.Deep.DrawnRows
import Derived.Deep.AppendLies
namespace Go.Proofs.Ytoncefhcabgaaaa
set_option linter.unusedVariables false
open Go.RowKit
attribute [local irreducible] wpQuiet
attribute [local go_sem ↓] Go.wp_at_zero Go.wp_at_succ

/-- numbers of a bucket that are not large -/
def smB (b : Bk) : Prop := (-1000000000 ≤ b.2.1 ∧ b.2.1 ≤ 1000000000) ∧ (-1000000000 ≤ b.2.2.1 ∧ b.2.2.1 ≤ 1000000000)
theorem set_mid5 {α : Type} (a : List α) (x0 x1 x2 x3 x4 y0 y1 y2 y3 y4 : α) (k : Nat) (h : a.length = k) : ((((((a ++ [x0, x1, x2, x3, x4]).set k y0).set (k + 1) y1).set (k + 2) y2).set (k + 3) y3).set (k + 4) y4) = a ++ [y0, y1, y2, y3, y4] := by
  subst h
  simp
theorem set_last5 {l : List Bk} {k : Nat} (hk : l.length = k) (q r : Bk) : ((((((bkc (l ++ [q])).set (k * 5) (.int .i64 r.1)).set (k * 5 + 1) (.int .i64 r.2.1)).set (k * 5 + 2) (.int .i64 r.2.2.1)).set (k * 5 + 3) (.int .i64 r.2.2.2.1)).set (k * 5 + 4) (.int .i64 r.2.2.2.2)) = bkc (l ++ [r]) := by
  rw [bkc_app, bkc_app]
  exact set_mid5 (bkc l) _ _ _ _ _ _ _ _ _ _ (k * 5) (by rw [bkc_len, hk])
/-- the five stores of a struct into a row of the call's own -/
theorem own_set5 {w : World} {base g n c k : Nat} {e : TypeId} {xs : List Value} (h : w.ownsRow base e 5 (.slice (some ⟨g, 0, none⟩) n c) n xs) (v0 v1 v2 v3 v4 : Value) :
    (((((w.setCell ⟨g, k, none⟩ v0).setCell ⟨g, k + 1, none⟩ v1).setCell ⟨g, k + 2, none⟩ v2).setCell ⟨g, k + 3, none⟩ v3).setCell ⟨g, k + 4, none⟩ v4).ownsRow base e 5 (.slice (some ⟨g, 0, none⟩) n c) n (((((xs.set k v0).set (k + 1) v1).set (k + 2) v2).set (k + 3) v3).set (k + 4) v4) ∧
    w.grownBy (((((w.setCell ⟨g, k, none⟩ v0).setCell ⟨g, k + 1, none⟩ v1).setCell ⟨g, k + 2, none⟩ v2).setCell ⟨g, k + 3, none⟩ v3).setCell ⟨g, k + 4, none⟩ v4) (some g) := by
  have h0 := h.stored k v0
  have h1 := h0.1.stored (k + 1) v1
  have h2 := h1.1.stored (k + 2) v2
  have h3 := h2.1.stored (k + 3) v3
  have h4 := h3.1.stored (k + 4) v4
  exact ⟨h4.1, g_trans (g_trans (g_trans (g_trans h0.2 h1.2) h2.2) h3.2) h4.2⟩

def Added (base : Nat) (l : List Bk) (b : Bk) (A : Option Addr) (c : Nat) (w : World) (e : Ending) (w' : World) : Prop :=
  ∃ A' c', e = .returned (.slice A' (addL l b).length c') ∧ w'.ownsRow base 31 5 (.slice A' (addL l b).length c') (addL l b).length (bkc (addL l b)) ∧ w.grownBy w' (Value.slice A l.length c).ownBlock ∧ Lies w (.slice A l.length c) (.slice A' (addL l b).length c')

set_option maxHeartbeats 1600000 in
theorem addI_nil (base : Nat) (A : Option Addr) (c : Nat) (s n u lo hi : Int) (w : World) (hown : w.ownsRow base 31 5 (.slice A 0 c) 0 (bkc [])) (hb : base ≤ w.heap.size) :
    Calls Try.prog 22 #[.slice A 0 c, .agg #[.int .i64 s, .int .i64 n, .int .i64 u, .int .i64 lo, .int .i64 hi]] w (Added base [] (s, n, u, lo, hi) A c w) := by
  have gA := g_alloc w (.cells #[.int .i64 s, .int .i64 n, .int .i64 u, .int .i64 lo, .int .i64 hi] 31) none
  have r1 := Blk.new w 31 [.int .i64 s, .int .i64 n, .int .i64 u, .int .i64 lo, .int .i64 hi]
  simp only [List.toArray] at r1
  go_enter Try.func22, Try.ntmps22
  go_wp2_with fail
  refine wp_region_gw (W := w.alloc (.cells #[.int .i64 s, .int .i64 n, .int .i64 u, .int .i64 lo, .int .i64 hi] 31)) (by kernel_rfl) (by kernel_rfl) (g_refl _ _) ?_
  repeat (quiet_step (fail))
  refine wpQuiet_nil ?_
  rintro _ ⟨⟨w2, hg2⟩, rfl⟩
  have G2 := g_trans gA hg2
  have r2 := r1.keptN hg2
  have c0 := r2.cell 0
  have c1 := r2.cell 1
  have c2 := r2.cell 2
  have c3 := r2.cell 3
  have c4 := r2.cell 4
  simp at c0 c1 c2 c3 c4
  have o2 := own_keptN hown G2
  have hs2 := G2.size
  clear r1 r2 gA hg2 hown
  go_wp2_with (at_builtin; refine app_bk rfl _ _ rfl base [] _ s n u lo hi A c rfl o2 rfl (by simp) (by omega) ?_; intro A3 c3' w3 o3 g3 f3)
  go_ret
  exact ⟨A3, c3', rfl, o3, g_trans (g_any G2 _) g3, fun k hk => (f3 k hk).imp id (fun h => by omega)⟩

/-- what lies in the last place of a row of buckets -/
theorem last_cells {w : World} {base g c : Nat} {m : List Bk} {q : Bk} (hown : w.ownsRow base 31 5 (.slice (some ⟨g, 0, none⟩) (m ++ [q]).length c) (m ++ [q]).length (bkc (m ++ [q]))) :
    (w.cell? ⟨g, m.length * 5, none⟩ = some (.int .i64 q.1) ∧ w.cell? ⟨g, m.length * 5 + 1, none⟩ = some (.int .i64 q.2.1) ∧ w.cell? ⟨g, m.length * 5 + 2, none⟩ = some (.int .i64 q.2.2.1) ∧ w.cell? ⟨g, m.length * 5 + 3, none⟩ = some (.int .i64 q.2.2.2.1) ∧ w.cell? ⟨g, m.length * 5 + 4, none⟩ = some (.int .i64 q.2.2.2.2)) ∧
    (w.frozen? ⟨g, m.length * 5, none⟩ = false ∧ w.frozen? ⟨g, m.length * 5 + 1, none⟩ = false ∧ w.frozen? ⟨g, m.length * 5 + 2, none⟩ = false ∧ w.frozen? ⟨g, m.length * 5 + 3, none⟩ = false ∧ w.frozen? ⟨g, m.length * 5 + 4, none⟩ = false) := by
  have hat : (m ++ [q])[m.length]? = some q := by simp
  obtain ⟨x0, x1, x2, x3, x4⟩ := bkc_at hat
  have hl : (m ++ [q]).length * 5 = m.length * 5 + 5 := by simp; omega
  refine ⟨⟨?_, ?_, ?_, ?_, ?_⟩, hown.frozenAt _, hown.frozenAt _, hown.frozenAt _, hown.frozenAt _, hown.frozenAt _⟩
  · exact (hown.cellAt (m.length * 5) (by omega)).trans x0
  · exact (hown.cellAt (m.length * 5 + 1) (by omega)).trans x1
  · exact (hown.cellAt (m.length * 5 + 2) (by omega)).trans x2
  · exact (hown.cellAt (m.length * 5 + 3) (by omega)).trans x3
  · exact (hown.cellAt (m.length * 5 + 4) (by omega)).trans x4

set_option maxHeartbeats 1600000 in
theorem addI_new (base : Nat) (m : List Bk) (qs qn qu ql qh : Int) (A : Option Addr) (c : Nat) (s n u lo hi : Int) (w : World) (hown : w.ownsRow base 31 5 (.slice A (m ++ [(qs, qn, qu, ql, qh)]).length c) (m ++ [(qs, qn, qu, ql, qh)]).length (bkc (m ++ [(qs, qn, qu, ql, qh)]))) (hb : base ≤ w.heap.size) (hl : m.length ≤ 1000) (hne : ¬ qs = s) :
    Calls Try.prog 22 #[.slice A (m ++ [(qs, qn, qu, ql, qh)]).length c, .agg #[.int .i64 s, .int .i64 n, .int .i64 u, .int .i64 lo, .int .i64 hi]] w (Added base (m ++ [(qs, qn, qu, ql, qh)]) (s, n, u, lo, hi) A c w) := by
  have gA := g_alloc w (.cells #[.int .i64 s, .int .i64 n, .int .i64 u, .int .i64 lo, .int .i64 hi] 31) none
  have r1 := Blk.new w 31 [.int .i64 s, .int .i64 n, .int .i64 u, .int .i64 lo, .int .i64 hi]
  simp only [List.toArray] at r1
  have E := Lib.hid (show addL (m ++ [(qs, qn, qu, ql, qh)]) (s, n, u, lo, hi) = m ++ [(qs, qn, qu, ql, qh)] ++ [(s, n, u, lo, hi)] by rw [addL_snoc, if_neg hne])
  have hlen : (m ++ [(qs, qn, qu, ql, qh)]).length = m.length + 1 := by simp
  obtain ⟨g, rfl, hgb, hgs⟩ := own_addr hown (by omega)
  have hC := (last_cells hown).1
  simp only at hC
  obtain ⟨k0, k1, k2, k3, k4⟩ := hC
  have d0 := gw_cellW (gA.cell k0 (by simp))
  have e0 := gw_cellW ((r1.cell 0).trans rfl)
  have hqs : (qs == s) = false := by simpa using hne
  have HL := Lib.hid hlen
  have HO := Lib.hid hown
  have i1 : IntKind.i64.wrap ((m.length : Int) + 1 - 1) = (m.length : Int) := by rw [Int.add_sub_cancel]; exact IntWalk.i64_in _ (by omega)
  have i2 : (m.length : Int) < (m.length : Int) + 1 := by omega
  have hw2 : (decide (0 ≤ (m.length : Int))) = true := by simp
  clear k0 k1 k2 k3 k4 hown hlen hne
  go_enter Try.func22, Try.ntmps22
  go_wp2_with fail
  refine wp_region_gw (W := w.alloc (.cells #[.int .i64 s, .int .i64 n, .int .i64 u, .int .i64 lo, .int .i64 hi] 31)) (by kernel_rfl) (by kernel_rfl) (g_refl _ _) ?_
  repeat (quiet_step (fail))
  refine wpQuiet_nil ?_
  rintro _ ⟨⟨w2, hg2⟩, rfl⟩
  have G2 := g_trans gA hg2
  have r2 := r1.keptN hg2
  have c0 := r2.cell 0
  have c1 := r2.cell 1
  have c2 := r2.cell 2
  have c3 := r2.cell 3
  have c4 := r2.cell 4
  simp at c0 c1 c2 c3 c4
  have o2 := own_keptN HO.out G2
  have hs2 := G2.size
  clear r1 r2 gA hg2 d0 e0
  go_wp2_with (at_builtin; refine appn_bk rfl _ _ rfl base _ (m ++ [(qs, qn, qu, ql, qh)]) HL.out _ s n u lo hi _ c rfl o2 rfl (by have := HL.out; omega) (by omega) ?_; intro A3 c3' w3 o3 g3 f3)
  go_ret
  unfold Added
  rw [E.out]
  exact ⟨A3, c3', by simp, o3, g_trans (g_any G2 _) g3, fun k hk => (f3 k hk).imp id (fun h => by omega)⟩

set_option maxHeartbeats 3200000 in
theorem addI_join (base : Nat) (m : List Bk) (qs qn qu ql qh : Int) (A : Option Addr) (c : Nat) (n u lo hi : Int) (w : World) (hown : w.ownsRow base 31 5 (.slice A (m ++ [(qs, qn, qu, ql, qh)]).length c) (m ++ [(qs, qn, qu, ql, qh)]).length (bkc (m ++ [(qs, qn, qu, ql, qh)]))) (hb : base ≤ w.heap.size) (hl : m.length ≤ 1000)
    (h1 : -1000000000 ≤ qn ∧ qn ≤ 1000000000) (h2 : -1000000000 ≤ n ∧ n ≤ 1000000000) (h3 : -1000000000 ≤ qu ∧ qu ≤ 1000000000) (h4 : -1000000000 ≤ u ∧ u ≤ 1000000000) :
    Calls Try.prog 22 #[.slice A (m ++ [(qs, qn, qu, ql, qh)]).length c, .agg #[.int .i64 qs, .int .i64 n, .int .i64 u, .int .i64 lo, .int .i64 hi]] w (Added base (m ++ [(qs, qn, qu, ql, qh)]) (qs, n, u, lo, hi) A c w) := by
  have gA := g_alloc w (.cells #[.int .i64 qs, .int .i64 n, .int .i64 u, .int .i64 lo, .int .i64 hi] 31) none
  have r1 := Blk.new w 31 [.int .i64 qs, .int .i64 n, .int .i64 u, .int .i64 lo, .int .i64 hi]
  simp only [List.toArray] at r1
  have E := Lib.hid (show addL (m ++ [(qs, qn, qu, ql, qh)]) (qs, n, u, lo, hi) = m ++ [joinB (qs, qn, qu, ql, qh) (qs, n, u, lo, hi)] by rw [addL_snoc, if_pos rfl])
  have hlen : (m ++ [(qs, qn, qu, ql, qh)]).length = m.length + 1 := by simp
  obtain ⟨g, rfl, hgb, hgs⟩ := own_addr hown (by omega)
  have hC := (last_cells hown).1
  simp only at hC
  obtain ⟨k0, k1, k2, k3, k4⟩ := hC
  have d0 := gw_cellW (gA.cell k0 (by simp))
  have e0 := gw_cellW ((r1.cell 0).trans rfl)
  have HL := Lib.hid hlen
  have HO := Lib.hid hown
  have i1 : IntKind.i64.wrap ((m.length : Int) + 1 - 1) = (m.length : Int) := by rw [Int.add_sub_cancel]; exact IntWalk.i64_in _ (by omega)
  have i2 : (m.length : Int) < (m.length : Int) + 1 := by omega
  have i3 : (0 : Int) ≤ (m.length : Int) := by omega
  have hw2 : (decide (0 ≤ (m.length : Int))) = true := by simp
  clear k0 k1 k2 k3 k4 hown hlen
  go_enter Try.func22, Try.ntmps22
  go_wp2_with fail
  refine wp_region_gw (W := w.alloc (.cells #[.int .i64 qs, .int .i64 n, .int .i64 u, .int .i64 lo, .int .i64 hi] 31)) (by kernel_rfl) (by kernel_rfl) (g_refl _ _) ?_
  repeat (quiet_step (fail))
  refine wpQuiet_nil ?_
  rintro _ ⟨⟨w2, hg2⟩, rfl⟩
  have G2 := g_trans gA hg2
  have r2 := r1.keptN hg2
  have b0 := r2.cell 0
  have b1 := r2.cell 1
  have b2 := r2.cell 2
  have b3 := r2.cell 3
  have b4 := r2.cell 4
  simp at b0 b1 b2 b3 b4
  have o2 := own_keptN HO.out G2
  have hs2 := G2.size
  have hC := last_cells o2
  simp only at hC
  obtain ⟨⟨k0, k1, k2, k3, k4⟩, f0, f1, f2, f3, f4⟩ := hC
  clear r1 r2 gA hg2 d0 e0
  go_wp2_with fail
  go_region_law (first | (go_simp; go_at_call 38; refine (joinI_any qs qn qu ql qh qs n u lo hi _ h1 h2 h3 h4).mono ?_; rintro e w4 ⟨rfl, g4⟩; have q0 := g4.cell (show World.cell? _ _ = _ from by simpa using k0) (by simp); have r0 := (g4.frozen_far ⟨g, m.length * 5, none⟩ (by simp; omega) (by simp)).trans (by simpa using f0); have q1 := g4.cell (show World.cell? _ _ = _ from by simpa using k1) (by simp); have r1 := (g4.frozen_far ⟨g, m.length * 5 + 1, none⟩ (by simp; omega) (by simp)).trans (by simpa using f1); have q2 := g4.cell (show World.cell? _ _ = _ from by simpa using k2) (by simp); have r2 := (g4.frozen_far ⟨g, m.length * 5 + 2, none⟩ (by simp; omega) (by simp)).trans (by simpa using f2); have q3 := g4.cell (show World.cell? _ _ = _ from by simpa using k3) (by simp); have r3 := (g4.frozen_far ⟨g, m.length * 5 + 3, none⟩ (by simp; omega) (by simp)).trans (by simpa using f3); have q4 := g4.cell (show World.cell? _ _ = _ from by simpa using k4) (by simp); have r4 := (g4.frozen_far ⟨g, m.length * 5 + 4, none⟩ (by simp; omega) (by simp)).trans (by simpa using f4)))
  all_goals
    have G4 := g_trans (g_drew _ none) g4
    have O := own_set5 (k := m.length * 5) (own_keptN o2 G4) (.int .i64 qs) (.int .i64 (qn + n)) (.int .i64 (qu + u)) (.int .i64 (min ql lo)) (.int .i64 (max qh hi))
    have hset := set_last5 (l := m) rfl (qs, qn, qu, ql, qh) (joinB (qs, qn, qu, ql, qh) (qs, n, u, lo, hi))
    simp only [joinB] at hset
    rw [hset] at O
    have HO2 := Lib.hid (And.intro O (g_trans G2 G4))
    clear hset O G4 g4 q0 q1 q2 q3 q4 r0 r1 r2 r3 r4 o2 G2 b0 b1 b2 b3 b4 k0 k1 k2 k3 k4 f0 f1 f2 f3 f4
    go_wp2
    go_ret
    unfold Added
    rw [E.out]
    have hl2 : (m ++ [(qs, qn, qu, ql, qh)]).length = (m ++ [joinB (qs, qn, qu, ql, qh) (qs, n, u, lo, hi)]).length := by simp
    rw [hl2] at HO2
    refine ⟨some ⟨g, 0, none⟩, c, by simp, HO2.out.1.1, g_trans (g_any HO2.out.2 _) HO2.out.1.2, fun k hk => .inl hk⟩
/-- impl.addBucket -/
theorem addI_any (base : Nat) (l : List Bk) (A : Option Addr) (c : Nat) (s n u lo hi : Int) (w : World) (hown : w.ownsRow base 31 5 (.slice A l.length c) l.length (bkc l)) (hb : base ≤ w.heap.size) (hl : l.length ≤ 1000) (hs : ∀ q ∈ l, smB q) (hs2 : smB (s, n, u, lo, hi)) :
    Calls Try.prog 22 #[.slice A l.length c, .agg #[.int .i64 s, .int .i64 n, .int .i64 u, .int .i64 lo, .int .i64 hi]] w (Added base l (s, n, u, lo, hi) A c w) := by
  rcases List.eq_nil_or_concat l with rfl | ⟨m, ⟨qs, qn, qu, ql, qh⟩, rfl⟩
  · exact addI_nil base A c s n u lo hi w hown hb
  · rw [List.concat_eq_append] at hown hl hs ⊢
    have hm : m.length ≤ 1000 := by simp at hl; omega
    have hq := hs (qs, qn, qu, ql, qh) (by simp)
    by_cases h : qs = s
    · subst h
      exact addI_join base m qs qn qu ql qh A c n u lo hi w hown hb hm hq.1 hs2.1 hq.2 hs2.2
    · exact addI_new base m qs qn qu ql qh A c s n u lo hi w hown hb hm h
end Go.Proofs.Ytoncefhcabgaaaa
