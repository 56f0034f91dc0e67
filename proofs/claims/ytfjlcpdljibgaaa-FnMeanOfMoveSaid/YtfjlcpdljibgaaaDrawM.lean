/- What the generator of one bucket gives. -/
import Derived.Test.YtfjlcpdljibgaaaProg
import Derived.Test.YtfjlcpdljibgaaaPick
import Derived.Test.YtfjlcpdljibgaaaQuiet
import Derived.Test.YtfjlcpdljibgaaaLit
import Derived.Deep.RegionHeld3
namespace Go.Proofs.Ytfjlcpdljibgaaa
set_option linter.unusedVariables false
open Go.RowKit

/-- a bucket with numbers that are not large -/
def midB (b : Bk) : Prop := (0 ≤ b.1 ∧ b.1 ≤ 1000) ∧ (1 ≤ b.2.1 ∧ b.2.1 ≤ 5) ∧ (-100000 ≤ b.2.2.1 ∧ b.2.2.1 ≤ 100000) ∧ (-7 ≤ b.2.2.2.1 ∧ b.2.2.2.1 ≤ 3) ∧ (3 ≤ b.2.2.2.2 ∧ b.2.2.2.2 ≤ 10)
def MidB (w w' : World) (e : Ending) : Prop := ∃ s c u lo hi : Int, e = .returned (.agg #[.int .i64 s, .int .i64 c, .int .i64 u, .int .i64 lo, .int .i64 hi]) ∧ midB (s, c, u, lo, hi) ∧ w.grownBy w' none
theorem mean_bd {lo hi ct : Int} (h1 : -7 ≤ lo) (h2 : lo ≤ 3) (h3 : 3 ≤ hi) (h4 : hi ≤ 10) (h5 : 1 ≤ ct) (h6 : ct ≤ 5) : (-35 ≤ lo * ct ∧ lo * ct ≤ 15) ∧ 0 ≤ (hi - lo) * ct ∧ (hi - lo) * ct ≤ 85 := by
  have e1 : -7 * ct ≤ lo * ct := Int.mul_le_mul_of_nonneg_right h1 (by omega)
  have e2 : lo * ct ≤ 3 * ct := Int.mul_le_mul_of_nonneg_right h2 (by omega)
  have e3 : 0 * ct ≤ (hi - lo) * ct := Int.mul_le_mul_of_nonneg_right (by omega) (by omega)
  have e4 : (hi - lo) * ct ≤ 17 * ct := Int.mul_le_mul_of_nonneg_right (by omega) (by omega)
  omega

theorem g_rdS {w a b : World} {R : Nat} (h : a.grownBy b (some R)) (hR : w.heap.size ≤ R) (h0 : w.grownBy a none) : w.grownBy b none := g_new h0 h (by intro g e; injection e with e; omega)
theorem Rdr.farM {w a b : World} {R : Nat} {p : Int} {e : TypeId} {size n : Nat} {v : Value} {xs : List Value} (h : Rdr a R p) (hown : a.ownsRow w.heap.size e size v n xs) (hR : R < w.heap.size) (hg : a.grownBy b v.ownBlock) : Rdr b R p := by
  obtain ⟨A, m, c, l, h1, h2, h3, h4, h5, h6⟩ := h
  have hn := own_new hown
  refine ⟨A, m, c, l, h1.kept hg (fun e' => by have := hn R e'; omega), h2.kept hg (fun hm a ha e' => ?_), h3, h4, h5, h6⟩
  have := hn _ e'
  have := h4 hm a ha
  omega
theorem someTimeM_any (R : Nat) (p : Int) (w : World) (h : Rdr w R p) (hp : p ≤ 999999000) :
    Calls Try.prog 51 #[.pointer (some ⟨R, 0, none⟩)] w fun e w' => ∃ x, e = .returned (.int .i64 x) ∧ 0 ≤ x ∧ x ≤ 1000 ∧ Rdr w' R (p + 3) ∧ w.grownBy w' (some R) := by
  go_enter Try.func51, Try.ntmps51
  go_wp2_with fail
  refine (pick_any _ _ _ _ h (by omega) (by omega)).mono ?_
  rintro e w2 ⟨z, rfl, z0, z1, hr2, hg2⟩
  go_wp2_with fail
  refine (pick_any _ _ _ _ hr2 (by omega) (by omega)).mono ?_
  rintro e w3 ⟨y, rfl, y0, y1, hr3, hg3⟩
  go_wp2_with fail
  refine (one_lit _ _ [0, 10, 20, 25, 100, 1000, z, 4 * y, 30, 40] _ w3 hr3 (by omega) (by simp) (by simp)).mono ?_
  rintro e w4 ⟨x, rfl, hx, hr4, hg4⟩
  have hx2 : 0 ≤ x ∧ x ≤ 1000 := by simp at hx; omega
  have e3 : p + 1 + 1 + 1 = p + 3 := by omega
  rw [e3] at hr4
  clear hx z1 y1 hr2 hr3 e3
  go_wp2
  go_ret
  exact ⟨x, rfl, hx2.1, hx2.2, hr4, g_trans hg2 (g_trans hg3 hg4)⟩
set_option maxHeartbeats 1600000 in
theorem drawMean_any (A : Option Addr) (n c : Nat) (l : List Int) (w : World) (h : Rd w 1 A n c (bc l)) (hb : By l) (hn : n ≤ 1048576) :
    Calls Try.prog 39 #[.slice A n c] w fun e w' => MidB w w' e := by
  go_enter Try.func39, Try.ntmps39
  go_wp2_with fail
  refine (newReader_any A n c l _ (h.keptN (g_alloc _ _ _)) hb hn).mono ?_
  rintro e w1 ⟨rfl, hr, hg1⟩
  have G1 := g_trans (g_alloc w _ none) hg1
  have r1 := (Blk.new w 39 [.int .i64 0, .int .i64 0, .int .i64 0, .int .i64 0, .int .i64 0]).keptN hg1
  simp at hr
  clear h hb hg1
  go_wp2_with fail
  refine (someTimeM_any _ _ _ hr (by omega)).mono ?_
  rintro e w2 ⟨s, rfl, s0, s1, hr2, hg2⟩
  clear hr
  go_wp2_with fail
  refine (pick_any _ _ _ _ hr2 (by omega) (by omega)).mono ?_
  rintro e w3 ⟨z, rfl, z0, z1, hr3, hg3⟩
  clear hr2
  go_wp2_with fail
  refine (one_lit _ _ [-7, 0, 3] _ w3 hr3 (by omega) (by simp) (by simp)).mono ?_
  rintro e w4 ⟨lo, rfl, hlo, hr4, hg4⟩
  clear hr3
  go_wp2_with fail
  refine (one_lit _ _ [3, 10, 5] _ w4 hr4 (by omega) (by simp) (by simp)).mono ?_
  rintro e w5 ⟨hi, rfl, hhi, hr5, hg5⟩
  clear hr4
  have hz : 0 ≤ z ∧ z ≤ 4 := by omega
  have hlo2 : -7 ≤ lo ∧ lo ≤ 3 := by simp at hlo; omega
  have hhi2 : 3 ≤ hi ∧ hi ≤ 10 := by simp at hhi; omega
  have G := g_rdS (g_trans hg2 (g_trans hg3 (g_trans hg4 hg5))) (Nat.le_succ _) G1
  obtain ⟨ct, hct⟩ : ∃ ct : Int, 1 + z = ct := ⟨_, rfl⟩
  rw [hct]
  have hct2 : 1 ≤ ct ∧ ct ≤ 5 := by omega
  have hmb := mean_bd hlo2.1 hlo2.2 hhi2.1 hhi2.2 hct2.1 hct2.2
  obtain ⟨⟨m1, m2⟩, m3, m4⟩ := hmb
  have hR := hr5.lt
  have q5 : Blk w5 w.heap.size 39 [.int .i64 0, .int .i64 0, .int .i64 0, .int .i64 0, .int .i64 0] := ((((r1.kept hg2 (by simp)).kept hg3 (by simp)).kept hg4 (by simp)).kept hg5 (by simp))
  have o6 : (w5.alloc (.cells #[.int .i64 s, .int .i64 ct, .int .i64 0, .int .i64 lo, .int .i64 hi] 39)).ownsRow w5.heap.size 39 5 (.slice (some ⟨w5.heap.size, 0, none⟩) 1 1) 1 [.int .i64 s, .int .i64 ct, .int .i64 0, .int .i64 lo, .int .i64 hi] := lit_own w5 w5.heap.size 39 5 [.int .i64 s, .int .i64 ct, .int .i64 0, .int .i64 lo, .int .i64 hi] 1 (Nat.le_refl _) (by omega) rfl
  have P0 := g_trans (g_alloc w5 (.cells #[.int .i64 s, .int .i64 ct, .int .i64 0, .int .i64 lo, .int .i64 hi] 39) none) (g_drew _ none)
  have hr6 := hr5.kept P0
  have o6' := own_keptN o6 (g_drew _ none)
  obtain ⟨l0, l1⟩ := hlo2
  obtain ⟨i0, i1⟩ := hhi2
  obtain ⟨t0, t1⟩ := hct2
  have hw0 : IntKind.i64.wrap (hi - lo) = hi - lo := IntWalk.i64_in _ (by omega)
  have hw1 : IntKind.i64.wrap ((hi - lo) * ct) = (hi - lo) * ct := IntWalk.i64_in _ (by omega)
  have hw3 : IntKind.i64.wrap ((hi - lo) * ct + 1) = (hi - lo) * ct + 1 := IntWalk.i64_in _ (by omega)
  have hw2 : IntKind.i64.wrap (lo * ct) = lo * ct := IntWalk.i64_in _ (by omega)
  have hne : some (w.heap.size + 1) ≠ some w5.heap.size := by simp; omega
  have hneq : ¬ w5.heap.size = w.heap.size + 1 := by omega
  have HQ := Lib.hid q5
  clear hlo hhi z0 z1 hg2 hg3 hg4 hg5 hct hz r1 q5
  go_wp2_with fail
  go_region_held3 (fun w' => w'.cell? ⟨w5.heap.size, 1, none⟩ = some (.int .i64 ct) ∧ w'.cell? ⟨w5.heap.size, 3, none⟩ = some (.int .i64 lo) ∧ w'.cell? ⟨w5.heap.size, 4, none⟩ = some (.int .i64 hi))
    (first | go_keep | exact ⟨c1, c3, c4⟩ | exact ⟨(o7.stored 2 _).1.cellAt 1 (by omega), (o7.stored 2 _).1.cellAt 3 (by omega), (o7.stored 2 _).1.cellAt 4 (by omega)⟩)
    (first | (go_at_call 44; refine (pick_any _ ((hi - lo) * ct + 1) _ _ hr6 (by omega) (by omega)).mono ?_; rintro e w6 ⟨y, rfl, y0, y1, hr7, g6⟩; have o7 := own_kept o6' g6 (by intro g e; injection e with e; omega); have c2 : World.cell? _ ⟨w5.heap.size, 2, none⟩ = some (.int .i64 0) := o7.cellAt 2 (by omega); have c1 : World.cell? _ ⟨w5.heap.size, 1, none⟩ = some (.int .i64 ct) := o7.cellAt 1 (by omega); have c3 : World.cell? _ ⟨w5.heap.size, 3, none⟩ = some (.int .i64 lo) := o7.cellAt 3 (by omega); have c4 : World.cell? _ ⟨w5.heap.size, 4, none⟩ = some (.int .i64 hi) := o7.cellAt 4 (by omega); have f2 := o7.frozenAt 2; have y2 : y ≤ 86 := (by omega); clear y1; have hw4 : IntKind.i64.wrap (lo * ct + y) = lo * ct + y := IntWalk.i64_in _ (by omega)))
  have R7 : Rdr (w6.setCell ⟨w5.heap.size, 2, none⟩ (.int .i64 (lo * ct + y))) (w.heap.size + 1) _ := Rdr.farM hr7 o7 (by omega) (o7.stored 2 _).2
  have O7 := (o7.stored 2 (.int .i64 (lo * ct + y))).1
  have G7 := g_new (g_rdS g6 (Nat.le_succ _) (g_trans G P0)) (o7.stored 2 (.int .i64 (lo * ct + y))).2 (by intro g e; injection e with e; have := G.size; omega)
  have Q7 := Lib.hid (((HQ.out.keptN P0).kept g6 (by simp)).kept (o7.stored 2 (.int .i64 (lo * ct + y))).2 (by simp [Value.ownBlock]; omega))
  clear HQ o6 o6' o7 P0 G hr5 hr6 hr7 g6 c1 c2 c3 c4 f2 hw0 hw1 hw2 hw3
  have hy7 : -1000 ≤ lo * ct + y ∧ lo * ct + y ≤ 1000 := by omega
  generalize hu : lo * ct + y = u at R7 O7 G7 Q7 ⊢
  have hy : -1000 ≤ u ∧ u ≤ 1000 := by omega
  generalize hwk : w6.setCell ⟨w5.heap.size, 2, none⟩ (.int .i64 u) = wk at R7 O7 G7 Q7 ⊢
  obtain ⟨y3, y4⟩ := hy
  clear hwk hy7 hw4 hne hu
  go_wp2_with fail
  refine (pick_any _ _ _ _ R7 (by omega) (by omega)).mono ?_
  rintro e w8 ⟨x, rfl, x0, x1, hr8, g8⟩
  have O8 := own_kept O7 g8 (by intro g e; injection e with e; omega)
  have G8 := g_rdS g8 (Nat.le_succ _) G7
  have Q8 := Lib.hid (Q7.out.kept g8 (by simp))
  clear O7 G7 Q7 R7 g8 x1
  by_cases hx : x = 0
  · subst hx
    have f2 := O8.frozenAt 2
    have c2' : w8.cell? ⟨w5.heap.size, 2, none⟩ = some (.int .i64 u) := O8.cellAt 2 (by omega)
    clear f2 c2'
    go_wp2_with fail
    refine (one_lit _ _ [1000, -1000, 0] _ w8 hr8 (by omega) (by simp) (by simp)).mono ?_
    rintro e w9 ⟨v, rfl, hv, hr9, g9⟩
    have hv2 : -1000 ≤ v ∧ v ≤ 1000 := by simp at hv; omega
    have O9 := own_kept O8 g9 (by intro g e; injection e with e; omega)
    have G9 := g_rdS g9 (Nat.le_succ _) G8
    have Q := Q8.out.kept g9 (by simp)
    have hs9 := G9.size
    have hb := (O9.lt w5.heap.size rfl).2
    have f2 := O9.frozenAt 2
    have c0 : w9.cell? ⟨w5.heap.size, 0, none⟩ = some (.int .i64 s) := O9.cellAt 0 (by omega)
    have c1 : w9.cell? ⟨w5.heap.size, 1, none⟩ = some (.int .i64 ct) := O9.cellAt 1 (by omega)
    have c2 : w9.cell? ⟨w5.heap.size, 2, none⟩ = some (.int .i64 u) := O9.cellAt 2 (by omega)
    have c3 : w9.cell? ⟨w5.heap.size, 3, none⟩ = some (.int .i64 lo) := O9.cellAt 3 (by omega)
    have c4 : w9.cell? ⟨w5.heap.size, 4, none⟩ = some (.int .i64 hi) := O9.cellAt 4 (by omega)
    have d0 := Q.cell 0
    have d1 := Q.cell 1
    have d2 := Q.cell 2
    have d3 := Q.cell 3
    have d4 := Q.cell 4
    have e0 := Q.free 0
    have e1 := Q.free 1
    have e2 := Q.free 2
    have e3 := Q.free 3
    have e4 := Q.free 4
    simp at d0 d1 d2 d3 d4
    have hgg : (some w5.heap.size : Option Nat) ≠ some w.heap.size := by intro e; injection e with e; omega
    have QZ := Lib.hid ((((((Q.kept (O9.stored 2 (.int .i64 v)).2 hgg).set 0 (.int .i64 s)).set 1 (.int .i64 ct)).set 2 (.int .i64 v)).set 3 (.int .i64 lo)).set 4 (.int .i64 hi))
    have GZ := Lib.hid (g_new (g_new (g_new (g_new (g_new (g_new G9 (O9.stored 2 (.int .i64 v)).2 (by intro g e; injection e with e; omega)) (g_set _ ⟨w.heap.size, 0, none⟩ (.int .i64 s)) (by intro g e; injection e with e; exact Nat.le_of_eq e)) (g_set _ ⟨w.heap.size, 1, none⟩ (.int .i64 ct)) (by intro g e; injection e with e; exact Nat.le_of_eq e)) (g_set _ ⟨w.heap.size, 2, none⟩ (.int .i64 v)) (by intro g e; injection e with e; exact Nat.le_of_eq e)) (g_set _ ⟨w.heap.size, 3, none⟩ (.int .i64 lo)) (by intro g e; injection e with e; exact Nat.le_of_eq e)) (g_set _ ⟨w.heap.size, 4, none⟩ (.int .i64 hi)) (by intro g e; injection e with e; exact Nat.le_of_eq e))
    simp only [List.set_cons_zero, List.set_cons_succ] at QZ
    clear Q Q8 O9 O8 G8 G9 hr8 hr9 g9 hv
    go_wp2
    generalize ((((((w9.setCell ⟨w5.heap.size, 2, none⟩ (.int .i64 v)).setCell ⟨w.heap.size, 0, none⟩ (.int .i64 s)).setCell ⟨w.heap.size, 1, none⟩ (.int .i64 ct)).setCell ⟨w.heap.size, 2, none⟩ (.int .i64 v)).setCell ⟨w.heap.size, 3, none⟩ (.int .i64 lo)).setCell ⟨w.heap.size, 4, none⟩ (.int .i64 hi)) = wz at QZ GZ ⊢
    have z0 := QZ.out.cell 0
    have z1 := QZ.out.cell 1
    have z2 := QZ.out.cell 2
    have z3 := QZ.out.cell 3
    have z4 := QZ.out.cell 4
    simp at z0 z1 z2 z3 z4
    refine bodyPost_ret (v := .agg #[.int .i64 s, .int .i64 ct, .int .i64 v, .int .i64 lo, .int .i64 hi]) (by simp [results, Try.results39, go_sem, z0, z1, z2, z3, z4]) rfl ⟨s, ct, v, lo, hi, rfl, ⟨⟨s0, s1⟩, ⟨t0, t1⟩, (by simp only; omega), ⟨l0, l1⟩, ⟨i0, i1⟩⟩, GZ.out⟩
  · have hx' : (x == 0) = false := by simpa using hx
    have Q := Q8.out
    have hs8 := G8.size
    have hb := (O8.lt w5.heap.size rfl).2
    have c0 : w8.cell? ⟨w5.heap.size, 0, none⟩ = some (.int .i64 s) := O8.cellAt 0 (by omega)
    have c1 : w8.cell? ⟨w5.heap.size, 1, none⟩ = some (.int .i64 ct) := O8.cellAt 1 (by omega)
    have c2 : w8.cell? ⟨w5.heap.size, 2, none⟩ = some (.int .i64 u) := O8.cellAt 2 (by omega)
    have c3 : w8.cell? ⟨w5.heap.size, 3, none⟩ = some (.int .i64 lo) := O8.cellAt 3 (by omega)
    have c4 : w8.cell? ⟨w5.heap.size, 4, none⟩ = some (.int .i64 hi) := O8.cellAt 4 (by omega)
    have d0 := Q.cell 0
    have d1 := Q.cell 1
    have d2 := Q.cell 2
    have d3 := Q.cell 3
    have d4 := Q.cell 4
    have e0 := Q.free 0
    have e1 := Q.free 1
    have e2 := Q.free 2
    have e3 := Q.free 3
    have e4 := Q.free 4
    simp at d0 d1 d2 d3 d4
    have QZ := Lib.hid (((((Q.set 0 (.int .i64 s)).set 1 (.int .i64 ct)).set 2 (.int .i64 u)).set 3 (.int .i64 lo)).set 4 (.int .i64 hi))
    have GZ := Lib.hid (g_new (g_new (g_new (g_new (g_new G8 (g_set _ ⟨w.heap.size, 0, none⟩ (.int .i64 s)) (by intro g e; injection e with e; exact Nat.le_of_eq e)) (g_set _ ⟨w.heap.size, 1, none⟩ (.int .i64 ct)) (by intro g e; injection e with e; exact Nat.le_of_eq e)) (g_set _ ⟨w.heap.size, 2, none⟩ (.int .i64 u)) (by intro g e; injection e with e; exact Nat.le_of_eq e)) (g_set _ ⟨w.heap.size, 3, none⟩ (.int .i64 lo)) (by intro g e; injection e with e; exact Nat.le_of_eq e)) (g_set _ ⟨w.heap.size, 4, none⟩ (.int .i64 hi)) (by intro g e; injection e with e; exact Nat.le_of_eq e))
    simp only [List.set_cons_zero, List.set_cons_succ] at QZ
    clear Q Q8 O8 G8 hr8
    go_wp2
    generalize (((((w8.setCell ⟨w.heap.size, 0, none⟩ (.int .i64 s)).setCell ⟨w.heap.size, 1, none⟩ (.int .i64 ct)).setCell ⟨w.heap.size, 2, none⟩ (.int .i64 u)).setCell ⟨w.heap.size, 3, none⟩ (.int .i64 lo)).setCell ⟨w.heap.size, 4, none⟩ (.int .i64 hi)) = wz at QZ GZ ⊢
    have z0 := QZ.out.cell 0
    have z1 := QZ.out.cell 1
    have z2 := QZ.out.cell 2
    have z3 := QZ.out.cell 3
    have z4 := QZ.out.cell 4
    simp at z0 z1 z2 z3 z4
    refine bodyPost_ret (v := .agg #[.int .i64 s, .int .i64 ct, .int .i64 u, .int .i64 lo, .int .i64 hi]) (by simp [results, Try.results39, go_sem, z0, z1, z2, z3, z4]) rfl ⟨s, ct, u, lo, hi, rfl, ⟨⟨s0, s1⟩, ⟨t0, t1⟩, (by simp only; omega), ⟨l0, l1⟩, ⟨i0, i1⟩⟩, GZ.out⟩
end Go.Proofs.Ytfjlcpdljibgaaa
