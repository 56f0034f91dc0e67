/- The contract of spec.add: a new list of buckets with one behind the others. -/
import Derived.Test.YtoncefhcabgaaaaAdd
namespace Go.Proofs.Ytoncefhcabgaaaa
set_option linter.unusedVariables false
open Go.RowKit
attribute [local irreducible] wpQuiet
attribute [local go_sem ↓] Go.wp_at_zero Go.wp_at_succ

def AddedS (l : List Bk) (b : Bk) (w : World) (e : Ending) (w' : World) : Prop :=
  ∃ A' c', e = .returned (.slice A' (addL l b).length c') ∧ w'.ownsRow w.heap.size 31 5 (.slice A' (addL l b).length c') (addL l b).length (bkc (addL l b)) ∧ w.grownBy w' none

set_option maxHeartbeats 3200000 in
theorem addS_nil (A : Option Addr) (c : Nat) (s n u lo hi : Int) (w : World) (hr : Rd w 5 A 0 c (bkc [])) :
    Calls Try.prog 29 #[.slice A 0 c, .agg #[.int .i64 s, .int .i64 n, .int .i64 u, .int .i64 lo, .int .i64 hi]] w (AddedS [] (s, n, u, lo, hi) w) := by
  have gA := g_alloc w (.cells #[.int .i64 s, .int .i64 n, .int .i64 u, .int .i64 lo, .int .i64 hi] 31) none
  have r1 := Blk.new w 31 [.int .i64 s, .int .i64 n, .int .i64 u, .int .i64 lo, .int .i64 hi]
  simp only [List.toArray] at r1
  have E := Lib.hid (show addL [] (s, n, u, lo, hi) = [(s, n, u, lo, hi)] from rfl)
  have HR := Lib.hid hr
  clear hr
  go_enter Try.func29, Try.ntmps29
  go_wp2_with fail
  refine wp_region_gw (W := w.alloc (.cells #[.int .i64 s, .int .i64 n, .int .i64 u, .int .i64 lo, .int .i64 hi] 31)) (by kernel_rfl) (by kernel_rfl) (g_refl _ _) ?_
  repeat (quiet_step (fail))
  refine wpQuiet_nil ?_
  rintro w2 ⟨⟨_, hg2⟩, rfl⟩
  have G2 := g_trans gA hg2
  have r2 := r1.keptN hg2
  have b0 := r2.cell 0
  have b1 := r2.cell 1
  have b2 := r2.cell 2
  have b3 := r2.cell 3
  have b4 := r2.cell 4
  simp at b0 b1 b2 b3 b4
  have hR2 := Lib.hid (HR.out.keptN G2)
  have hs2 := G2.size
  have hs3 : w.heap.size + 1 ≤ w2.heap.size := by have := hg2.size; simp at this; omega
  clear r1 r2 gA hg2 
  go_wp2_with fail
  go_region_held3 (fun w' => w'.cell? ⟨w.heap.size, 0, none⟩ = some (.int .i64 s) ∧ w'.cell? ⟨w.heap.size, 1, none⟩ = some (.int .i64 n) ∧ w'.cell? ⟨w.heap.size, 2, none⟩ = some (.int .i64 u) ∧ w'.cell? ⟨w.heap.size, 3, none⟩ = some (.int .i64 lo) ∧ w'.cell? ⟨w.heap.size, 4, none⟩ = some (.int .i64 hi))
    (first | go_keep | (go_split_ands; refine ⟨far_cell O0 g5 (by omega) ?_, far_cell O0 g5 (by omega) ?_, far_cell O0 g5 (by omega) ?_, far_cell O0 g5 (by omega) ?_, far_cell O0 g5 (by omega) ?_⟩ <;> assumption) | (go_split_ands; refine ⟨far_cell O5 g6 (by omega) ?_, far_cell O5 g6 (by omega) ?_, far_cell O5 g6 (by omega) ?_, far_cell O5 g6 (by omega) ?_, far_cell O5 g6 (by omega) ?_⟩ <;> assumption))
    (first
      | (have O0 := own_keptN (lit_own w2 (w.heap.size + 1) 31 5 [] 0 hs3 (by omega) rfl) (g_drew _ none); have P0 := g_trans (g_alloc w2 (.cells #[] 31) none) (g_drew _ none); have R0 := hR2.out.keptN P0; refine sapc_bk (by rfl) (.tmp 37) (.tmp 38) (by rfl) (w.heap.size + 1) 0 0 c [] (bkc []) _ _ _ 0 (by rfl) O0 (by rfl) R0 (bkc_one _) (by omega) (by omega) (by simp; omega) ?_; intro A5 c5 w5 o5 g5 f5; simp only [Nat.zero_add, List.nil_append] at o5; have hs5 := Nat.le_trans hs3 (Nat.le_trans P0.size g5.size))
      | (have O0 := own_keptN (lit_own w2 (w.heap.size + 1) 31 5 [] 0 hs3 (by omega) rfl) (g_trans (g_alloc _ (.cells #[.int .i64 s, .int .i64 n, .int .i64 u, .int .i64 lo, .int .i64 hi] 31) none) (g_drew _ none)); have P0 := g_trans (g_alloc w2 (.cells #[] 31) none) (g_trans (g_alloc _ (.cells #[.int .i64 s, .int .i64 n, .int .i64 u, .int .i64 lo, .int .i64 hi] 31) none) (g_drew _ none)); have R0 := hR2.out.keptN P0; refine sapc_bk (by rfl) (.tmp 37) (.tmp 38) (by rfl) (w.heap.size + 1) 0 0 c [] (bkc []) _ _ _ 0 (by rfl) O0 (by rfl) R0 (bkc_one _) (by omega) (by omega) (by simp; omega) ?_; intro A5 c5 w5 o5 g5 f5; simp only [Nat.zero_add, List.nil_append] at o5; have hs5 := Nat.le_trans hs3 (Nat.le_trans P0.size g5.size))
      | (have O0 := own_keptN (lit_ownH (w2.alloc (.cells #[.int .i64 s, .int .i64 n, .int .i64 u, .int .i64 lo, .int .i64 hi] 31)) (w.heap.size + 1) 31 5 [] 0 (w2.heap.size + 1) (by simp) (by simp; omega) (by omega) rfl) (g_drew _ none); have P0 := g_trans (g_alloc w2 (.cells #[.int .i64 s, .int .i64 n, .int .i64 u, .int .i64 lo, .int .i64 hi] 31) none) (g_trans (g_alloc _ (.cells #[] 31) none) (g_drew _ none)); have R0 := hR2.out.keptN P0; refine sapc_bk (by rfl) (.tmp 37) (.tmp 38) (by rfl) (w.heap.size + 1) 0 0 c [] (bkc []) _ _ _ 0 (by rfl) O0 (by rfl) R0 (bkc_one _) (by omega) (by omega) (by simp; omega) ?_; intro A5 c5 w5 o5 g5 f5; simp only [Nat.zero_add, List.nil_append] at o5; have hs5 := Nat.le_trans hs3 (Nat.le_trans P0.size g5.size))
      | (have O5 := own_keptN o5 (g_alloc _ (.cells #[.int .i64 s, .int .i64 n, .int .i64 u, .int .i64 lo, .int .i64 hi] 31) none); have P5 := g_alloc w5 (.cells #[.int .i64 s, .int .i64 n, .int .i64 u, .int .i64 lo, .int .i64 hi] 31) none; have R5 := Rd.own (lit_own w5 0 31 5 (bkc [(s, n, u, lo, hi)]) 1 (Nat.zero_le _) (by omega) rfl); refine sapc_bk (by rfl) (.tmp 39) (.tmp 41) (by rfl) (w.heap.size + 1) 0 1 1 (bkc []) (bkc [(s, n, u, lo, hi)]) _ A5 _ c5 (by first | rfl | (simp [Act.eval, Act.put]; done)) O5 (by rfl) R5 (bkc_one _) (by omega) (by omega) (by first | exact hs5 | (simp; omega)) ?_; intro A6 c6 w6 o6 g6 f6)
      | (have O5 := o5; have P5 := g_refl w5 none; have R5 := ((Rd.own (lit_ownH (w2.alloc (.cells #[] 31)) 0 31 5 (bkc [(s, n, u, lo, hi)]) 1 (w2.heap.size + 1) (by simp) (Nat.zero_le _) (by omega) rfl)).keptN (g_drew _ none)).kept g5 (by simp [Value.ownBlock]); refine sapc_bk (by rfl) (.tmp 39) (.tmp 41) (by rfl) (w.heap.size + 1) 0 1 1 (bkc []) (bkc [(s, n, u, lo, hi)]) _ A5 _ c5 (by first | rfl | (simp [Act.eval, Act.put]; done)) O5 (by rfl) R5 (bkc_one _) (by omega) (by omega) (by first | exact hs5 | (simp; omega)) ?_; intro A6 c6 w6 o6 g6 f6)
      | (have O5 := o5; have P5 := g_refl w5 none; have R5 := ((Rd.own (lit_own w2 0 31 5 (bkc [(s, n, u, lo, hi)]) 1 (Nat.zero_le _) (by omega) rfl)).keptN (g_trans (g_alloc _ (.cells #[] 31) none) (g_drew _ none))).kept g5 (by simp [Value.ownBlock]); refine sapc_bk (by rfl) (.tmp 39) (.tmp 41) (by rfl) (w.heap.size + 1) 0 1 1 (bkc []) (bkc [(s, n, u, lo, hi)]) _ A5 _ c5 (by first | rfl | (simp [Act.eval, Act.put]; done)) O5 (by rfl) R5 (bkc_one _) (by omega) (by omega) (by first | exact hs5 | (simp; omega)) ?_; intro A6 c6 w6 o6 g6 f6))
  all_goals
    have G6 : w.grownBy w6 none := g_new (g_trans (g_new (g_trans G2 P0) g5 (fun g e => by have := own_new O0 g e; omega)) P5) g6 (fun g e => by have := own_new O5 g e; omega)
    have HO := Lib.hid (And.intro (own_le (base' := w.heap.size) o6 (by omega)) G6)
    clear O0 P0 R0 g5 f5 o5 O5 P5 R5 o6 g6 f6 G2 G6
    go_wp2
    go_ret
    unfold AddedS
    rw [E.out]
    exact ⟨A6, c6, by simp, by have := HO.out.1; rw [← bkc_app] at this; simpa using this, HO.out.2⟩

set_option maxHeartbeats 3200000 in
theorem addS_new (m : List Bk) (qs qn qu ql qh : Int) (A : Option Addr) (c : Nat) (s n u lo hi : Int) (w : World) (hr : Rd w 5 A (m ++ [(qs, qn, qu, ql, qh)]).length c (bkc (m ++ [(qs, qn, qu, ql, qh)]))) (hl : m.length ≤ 1000) (hne : ¬ qs = s) :
    Calls Try.prog 29 #[.slice A (m ++ [(qs, qn, qu, ql, qh)]).length c, .agg #[.int .i64 s, .int .i64 n, .int .i64 u, .int .i64 lo, .int .i64 hi]] w (AddedS (m ++ [(qs, qn, qu, ql, qh)]) (s, n, u, lo, hi) w) := by
  have gA := g_alloc w (.cells #[.int .i64 s, .int .i64 n, .int .i64 u, .int .i64 lo, .int .i64 hi] 31) none
  have r1 := Blk.new w 31 [.int .i64 s, .int .i64 n, .int .i64 u, .int .i64 lo, .int .i64 hi]
  simp only [List.toArray] at r1
  have E := Lib.hid (show addL (m ++ [(qs, qn, qu, ql, qh)]) (s, n, u, lo, hi) = m ++ [(qs, qn, qu, ql, qh)] ++ [(s, n, u, lo, hi)] by rw [addL_snoc, if_neg hne])
  have hlen : (m ++ [(qs, qn, qu, ql, qh)]).length = m.length + 1 := by simp
  have hat : (m ++ [(qs, qn, qu, ql, qh)])[m.length]? = some (qs, qn, qu, ql, qh) := by simp
  obtain ⟨b, o, rfl, hc⟩ := hr.cells (i := m.length) (by omega)
  have k0 := hc _ _ (bkc_at hat).1
  simp only [Nat.add_zero, ← Nat.add_assoc] at k0
  have d0 := gw_cellW (gA.cell k0 (by simp))
  have e0 := gw_cellW ((r1.cell 0).trans rfl)
  have hqs : (qs == s) = false := by simpa using hne
  rw [hlen] at hr
  have HR := Lib.hid hr
  have i1 : IntKind.i64.wrap (m.length : Int) = (m.length : Int) := IntWalk.i64_in _ (by omega)
  have i4 : (0 : Int) ≤ (m.length : Int) := by omega
  have i2 : (m.length : Int) < (m.length : Int) + 1 := by omega
  have hw2 : decide (0 < m.length + 1) = true := by simp
  have hw3 : decide ((0 : Int) < (m.length : Int) + 1) = true := by first | (simp; done) | (simp; omega)
  clear k0 hc hat hr hlen hne
  go_enter Try.func29, Try.ntmps29
  go_wp2_with fail
  refine wp_region_gw (W := w.alloc (.cells #[.int .i64 s, .int .i64 n, .int .i64 u, .int .i64 lo, .int .i64 hi] 31)) (by kernel_rfl) (by kernel_rfl) (g_refl _ _) ?_
  repeat (quiet_step (fail))
  refine wpQuiet_nil ?_
  rintro w2 ⟨⟨_, hg2⟩, rfl⟩
  have G2 := g_trans gA hg2
  have r2 := r1.keptN hg2
  have b0 := r2.cell 0
  have b1 := r2.cell 1
  have b2 := r2.cell 2
  have b3 := r2.cell 3
  have b4 := r2.cell 4
  simp at b0 b1 b2 b3 b4
  have hR2 := Lib.hid (HR.out.keptN G2)
  have hs2 := G2.size
  have hs3 : w.heap.size + 1 ≤ w2.heap.size := by have := hg2.size; simp at this; omega
  clear r1 r2 gA hg2 d0 e0
  go_wp2_with fail
  go_region_held3 (fun w' => w'.cell? ⟨w.heap.size, 0, none⟩ = some (.int .i64 s) ∧ w'.cell? ⟨w.heap.size, 1, none⟩ = some (.int .i64 n) ∧ w'.cell? ⟨w.heap.size, 2, none⟩ = some (.int .i64 u) ∧ w'.cell? ⟨w.heap.size, 3, none⟩ = some (.int .i64 lo) ∧ w'.cell? ⟨w.heap.size, 4, none⟩ = some (.int .i64 hi))
    (first | go_keep | (go_split_ands; refine ⟨far_cell O0 g5 (by omega) ?_, far_cell O0 g5 (by omega) ?_, far_cell O0 g5 (by omega) ?_, far_cell O0 g5 (by omega) ?_, far_cell O0 g5 (by omega) ?_⟩ <;> assumption) | (go_split_ands; refine ⟨far_cell O5 g6 (by omega) ?_, far_cell O5 g6 (by omega) ?_, far_cell O5 g6 (by omega) ?_, far_cell O5 g6 (by omega) ?_, far_cell O5 g6 (by omega) ?_⟩ <;> assumption))
    (first
      | (have O0 := own_keptN (lit_own w2 (w.heap.size + 1) 31 5 [] 0 hs3 (by omega) rfl) (g_drew _ none); have P0 := g_trans (g_alloc w2 (.cells #[] 31) none) (g_drew _ none); have R0 := hR2.out.keptN P0; refine sapc_bk (by rfl) (.tmp 37) (.tmp 38) (by rfl) (w.heap.size + 1) 0 (m.length + 1) c [] (bkc (m ++ [(qs, qn, qu, ql, qh)])) _ _ (some ⟨b, o, none⟩) 0 (by rfl) O0 (by rfl) R0 (bkc_one _) (by omega) (by omega) (by simp; omega) ?_; intro A5 c5 w5 o5 g5 f5; simp only [Nat.zero_add, List.nil_append] at o5; have hs5 := Nat.le_trans hs3 (Nat.le_trans P0.size g5.size))
      | (have O0 := own_keptN (lit_own w2 (w.heap.size + 1) 31 5 [] 0 hs3 (by omega) rfl) (g_trans (g_alloc _ (.cells #[.int .i64 s, .int .i64 n, .int .i64 u, .int .i64 lo, .int .i64 hi] 31) none) (g_drew _ none)); have P0 := g_trans (g_alloc w2 (.cells #[] 31) none) (g_trans (g_alloc _ (.cells #[.int .i64 s, .int .i64 n, .int .i64 u, .int .i64 lo, .int .i64 hi] 31) none) (g_drew _ none)); have R0 := hR2.out.keptN P0; refine sapc_bk (by rfl) (.tmp 37) (.tmp 38) (by rfl) (w.heap.size + 1) 0 (m.length + 1) c [] (bkc (m ++ [(qs, qn, qu, ql, qh)])) _ _ (some ⟨b, o, none⟩) 0 (by rfl) O0 (by rfl) R0 (bkc_one _) (by omega) (by omega) (by simp; omega) ?_; intro A5 c5 w5 o5 g5 f5; simp only [Nat.zero_add, List.nil_append] at o5; have hs5 := Nat.le_trans hs3 (Nat.le_trans P0.size g5.size))
      | (have O0 := own_keptN (lit_ownH (w2.alloc (.cells #[.int .i64 s, .int .i64 n, .int .i64 u, .int .i64 lo, .int .i64 hi] 31)) (w.heap.size + 1) 31 5 [] 0 (w2.heap.size + 1) (by simp) (by simp; omega) (by omega) rfl) (g_drew _ none); have P0 := g_trans (g_alloc w2 (.cells #[.int .i64 s, .int .i64 n, .int .i64 u, .int .i64 lo, .int .i64 hi] 31) none) (g_trans (g_alloc _ (.cells #[] 31) none) (g_drew _ none)); have R0 := hR2.out.keptN P0; refine sapc_bk (by rfl) (.tmp 37) (.tmp 38) (by rfl) (w.heap.size + 1) 0 (m.length + 1) c [] (bkc (m ++ [(qs, qn, qu, ql, qh)])) _ _ (some ⟨b, o, none⟩) 0 (by rfl) O0 (by rfl) R0 (bkc_one _) (by omega) (by omega) (by simp; omega) ?_; intro A5 c5 w5 o5 g5 f5; simp only [Nat.zero_add, List.nil_append] at o5; have hs5 := Nat.le_trans hs3 (Nat.le_trans P0.size g5.size))
      | (have O5 := own_keptN o5 (g_alloc _ (.cells #[.int .i64 s, .int .i64 n, .int .i64 u, .int .i64 lo, .int .i64 hi] 31) none); have P5 := g_alloc w5 (.cells #[.int .i64 s, .int .i64 n, .int .i64 u, .int .i64 lo, .int .i64 hi] 31) none; have R5 := Rd.own (lit_own w5 0 31 5 (bkc [(s, n, u, lo, hi)]) 1 (Nat.zero_le _) (by omega) rfl); refine sapc_bk (by rfl) (.tmp 39) (.tmp 41) (by rfl) (w.heap.size + 1) (m.length + 1) 1 1 (bkc (m ++ [(qs, qn, qu, ql, qh)])) (bkc [(s, n, u, lo, hi)]) _ A5 _ c5 (by first | rfl | (simp [Act.eval, Act.put]; done)) O5 (by rfl) R5 (bkc_one _) (by omega) (by omega) (by first | exact hs5 | (simp; omega)) ?_; intro A6 c6 w6 o6 g6 f6)
      | (have O5 := o5; have P5 := g_refl w5 none; have R5 := ((Rd.own (lit_ownH (w2.alloc (.cells #[] 31)) 0 31 5 (bkc [(s, n, u, lo, hi)]) 1 (w2.heap.size + 1) (by simp) (Nat.zero_le _) (by omega) rfl)).keptN (g_drew _ none)).kept g5 (by simp [Value.ownBlock]); refine sapc_bk (by rfl) (.tmp 39) (.tmp 41) (by rfl) (w.heap.size + 1) (m.length + 1) 1 1 (bkc (m ++ [(qs, qn, qu, ql, qh)])) (bkc [(s, n, u, lo, hi)]) _ A5 _ c5 (by first | rfl | (simp [Act.eval, Act.put]; done)) O5 (by rfl) R5 (bkc_one _) (by omega) (by omega) (by first | exact hs5 | (simp; omega)) ?_; intro A6 c6 w6 o6 g6 f6)
      | (have O5 := o5; have P5 := g_refl w5 none; have R5 := ((Rd.own (lit_own w2 0 31 5 (bkc [(s, n, u, lo, hi)]) 1 (Nat.zero_le _) (by omega) rfl)).keptN (g_trans (g_alloc _ (.cells #[] 31) none) (g_drew _ none))).kept g5 (by simp [Value.ownBlock]); refine sapc_bk (by rfl) (.tmp 39) (.tmp 41) (by rfl) (w.heap.size + 1) (m.length + 1) 1 1 (bkc (m ++ [(qs, qn, qu, ql, qh)])) (bkc [(s, n, u, lo, hi)]) _ A5 _ c5 (by first | rfl | (simp [Act.eval, Act.put]; done)) O5 (by rfl) R5 (bkc_one _) (by omega) (by omega) (by first | exact hs5 | (simp; omega)) ?_; intro A6 c6 w6 o6 g6 f6))
  all_goals
    have G6 : w.grownBy w6 none := g_new (g_trans (g_new (g_trans G2 P0) g5 (fun g e => by have := own_new O0 g e; omega)) P5) g6 (fun g e => by have := own_new O5 g e; omega)
    have HO := Lib.hid (And.intro (own_le (base' := w.heap.size) o6 (by omega)) G6)
    clear O0 P0 R0 g5 f5 o5 O5 P5 R5 o6 g6 f6 G2 G6
    go_wp2
    go_ret
    unfold AddedS
    rw [E.out]
    have hl2 : (m ++ [(qs, qn, qu, ql, qh)] ++ [(s, n, u, lo, hi)]).length = m.length + 1 + 1 := by simp
    rw [hl2]
    have h6 := HO.out.1
    rw [← bkc_app] at h6
    exact ⟨A6, c6, rfl, h6, HO.out.2⟩

set_option maxHeartbeats 3200000 in
theorem addS_join (m : List Bk) (qs qn qu ql qh : Int) (A : Option Addr) (c : Nat) (n u lo hi : Int) (w : World) (hr : Rd w 5 A (m ++ [(qs, qn, qu, ql, qh)]).length c (bkc (m ++ [(qs, qn, qu, ql, qh)]))) (hl : m.length ≤ 1000)
    (h1 : -1000000000 ≤ qn ∧ qn ≤ 1000000000) (h2 : -1000000000 ≤ n ∧ n ≤ 1000000000) (h3 : -1000000000 ≤ qu ∧ qu ≤ 1000000000) (h4 : -1000000000 ≤ u ∧ u ≤ 1000000000) :
    Calls Try.prog 29 #[.slice A (m ++ [(qs, qn, qu, ql, qh)]).length c, .agg #[.int .i64 qs, .int .i64 n, .int .i64 u, .int .i64 lo, .int .i64 hi]] w (AddedS (m ++ [(qs, qn, qu, ql, qh)]) (qs, n, u, lo, hi) w) := by
  have gA := g_alloc w (.cells #[.int .i64 qs, .int .i64 n, .int .i64 u, .int .i64 lo, .int .i64 hi] 31) none
  have r1 := Blk.new w 31 [.int .i64 qs, .int .i64 n, .int .i64 u, .int .i64 lo, .int .i64 hi]
  simp only [List.toArray] at r1
  have E := Lib.hid (show addL (m ++ [(qs, qn, qu, ql, qh)]) (qs, n, u, lo, hi) = m ++ [joinB (qs, qn, qu, ql, qh) (qs, n, u, lo, hi)] by rw [addL_snoc, if_pos rfl])
  have hlen : (m ++ [(qs, qn, qu, ql, qh)]).length = m.length + 1 := by simp
  have hat : (m ++ [(qs, qn, qu, ql, qh)])[m.length]? = some (qs, qn, qu, ql, qh) := by simp
  obtain ⟨b, o, rfl, hc⟩ := hr.cells (i := m.length) (by omega)
  obtain ⟨x0, x1, x2, x3, x4⟩ := bkc_at hat
  have k0 := hc _ _ x0
  have k1 := hc _ _ x1
  have k2 := hc _ _ x2
  have k3 := hc _ _ x3
  have k4 := hc _ _ x4
  simp only [Nat.add_zero, ← Nat.add_assoc] at k0 k1 k2 k3 k4
  have d0 := gw_cellW (gA.cell k0 (by simp))
  have e0 := gw_cellW ((r1.cell 0).trans rfl)
  rw [hlen] at hr
  have HR := Lib.hid hr
  have HK := Lib.hid (And.intro k0 (And.intro k1 (And.intro k2 (And.intro k3 k4))))
  have i1 : IntKind.i64.wrap (m.length : Int) = (m.length : Int) := IntWalk.i64_in _ (by omega)
  have i2 : (m.length : Int) < (m.length : Int) + 1 := by omega
  have i4 : (0 : Int) ≤ (m.length : Int) := by omega
  have hw2 : decide (0 < m.length + 1) = true := by simp
  have hw3 : decide ((0 : Int) < (m.length : Int) + 1) = true := by first | (simp; done) | (simp; omega)
  clear k0 k1 k2 k3 k4 x0 x1 x2 x3 x4 hc hat hr hlen
  go_enter Try.func29, Try.ntmps29
  go_wp2_with fail
  refine wp_region_gw (W := w.alloc (.cells #[.int .i64 qs, .int .i64 n, .int .i64 u, .int .i64 lo, .int .i64 hi] 31)) (by kernel_rfl) (by kernel_rfl) (g_refl _ _) ?_
  repeat (quiet_step (fail))
  refine wpQuiet_nil ?_
  rintro w2 ⟨⟨_, hg2⟩, rfl⟩
  have G2 := g_trans gA hg2
  have r2 := r1.keptN hg2
  have hs2 := G2.size
  clear r1 gA hg2 d0 e0
  go_wp2_with (at_builtin; refine lapc_bk rfl (.tmp 22) (.tmp 23) rfl w.heap.size 0 (m.length + 1) c [] (bkc (m ++ [(qs, qn, qu, ql, qh)])) _ _ _ 0 rfl (lit_own w2 w.heap.size _ 5 [] 0 hs2 (by omega) rfl) rfl (HR.out.keptN (g_trans G2 (g_alloc _ _ _))) (bkc_one _) (by omega) (by omega) (by simp; omega) ?_; intro A5 c5 w5 o5 g5 f5; simp only [Nat.zero_add, List.nil_append] at o5)
  have O0 := lit_own w2 w.heap.size 31 5 [] 0 hs2 (by omega) rfl
  have G5 : w.grownBy w5 none := g_new (g_trans G2 (g_alloc _ _ _)) g5 (fun g e => by have := own_new O0 g e; omega)
  have r5 := (r2.keptN (g_alloc _ _ none)).kept g5 (fun e => by have := (O0.lt _ e); have := r2.lt; simp [Value.ownBlock] at e; omega)
  obtain ⟨g, rfl, hgb, hgs⟩ := own_addr o5 (by omega)
  have hlen : (m ++ [(qs, qn, qu, ql, qh)]).length = m.length + 1 := by simp
  rw [← hlen] at o5
  have hC := last_cells o5
  simp only at hC
  obtain ⟨⟨m0, m1, m2, m3, m4⟩, f0, f1, f2, f3, f4⟩ := hC
  rw [hlen] at o5
  have b0 := r5.cell 0
  have b1 := r5.cell 1
  have b2 := r5.cell 2
  have b3 := r5.cell 3
  have b4 := r5.cell 4
  simp at b0 b1 b2 b3 b4
  have k0 := G5.cell HK.out.1 (by simp)
  have k1 := G5.cell HK.out.2.1 (by simp)
  have k2 := G5.cell HK.out.2.2.1 (by simp)
  have k3 := G5.cell HK.out.2.2.2.1 (by simp)
  have k4 := G5.cell HK.out.2.2.2.2 (by simp)
  have HO := Lib.hid (And.intro o5 G5)
  clear O0 r5 g5 f5 o5 G5 hlen r2
  go_region_law (first | (go_simp; go_at_call 40; refine (joinS_any qs qn qu ql qh qs n u lo hi _ h1 h2 h3 h4).mono ?_; rintro e w4 ⟨rfl, g4⟩; have q0 := g4.cell (show World.cell? _ _ = _ from by simpa using m0) (by simp); have r0 := (g4.frozen_far ⟨g, m.length * 5, none⟩ (by simp; omega) (by simp)).trans (by simpa using f0); have q1 := g4.cell (show World.cell? _ _ = _ from by simpa using m1) (by simp); have r1 := (g4.frozen_far ⟨g, m.length * 5 + 1, none⟩ (by simp; omega) (by simp)).trans (by simpa using f1); have q2 := g4.cell (show World.cell? _ _ = _ from by simpa using m2) (by simp); have r2 := (g4.frozen_far ⟨g, m.length * 5 + 2, none⟩ (by simp; omega) (by simp)).trans (by simpa using f2); have q3 := g4.cell (show World.cell? _ _ = _ from by simpa using m3) (by simp); have r3 := (g4.frozen_far ⟨g, m.length * 5 + 3, none⟩ (by simp; omega) (by simp)).trans (by simpa using f3); have q4 := g4.cell (show World.cell? _ _ = _ from by simpa using m4) (by simp); have r4 := (g4.frozen_far ⟨g, m.length * 5 + 4, none⟩ (by simp; omega) (by simp)).trans (by simpa using f4)))
  all_goals
    have G4 := g_trans (g_drew _ none) g4
    have O := own_set5 (k := m.length * 5) (own_keptN HO.out.1 G4) (.int .i64 qs) (.int .i64 (qn + n)) (.int .i64 (qu + u)) (.int .i64 (min ql lo)) (.int .i64 (max qh hi))
    have hset := set_last5 (l := m) rfl (qs, qn, qu, ql, qh) (joinB (qs, qn, qu, ql, qh) (qs, n, u, lo, hi))
    simp only [joinB] at hset
    rw [hset] at O
    have HO2 := Lib.hid (And.intro O.1 (g_new (g_trans HO.out.2 G4) O.2 (by intro x e; injection e with e; omega)))
    clear hset O G4 g4 q0 q1 q2 q3 q4 r0 r1 r2 r3 r4 b0 b1 b2 b3 b4 k0 k1 k2 k3 k4 f0 f1 f2 f3 f4 m0 m1 m2 m3 m4
    go_wp2
    go_ret
    unfold AddedS
    rw [E.out]
    have hl2 : (m ++ [joinB (qs, qn, qu, ql, qh) (qs, n, u, lo, hi)]).length = m.length + 1 := by simp
    rw [hl2]
    exact ⟨_, _, rfl, HO2.out.1, HO2.out.2⟩
/-- spec.add -/
theorem addS_any (l : List Bk) (A : Option Addr) (c : Nat) (s n u lo hi : Int) (w : World) (hr : Rd w 5 A l.length c (bkc l)) (hl : l.length ≤ 1000) (hs : ∀ q ∈ l, smB q) (hs2 : smB (s, n, u, lo, hi)) :
    Calls Try.prog 29 #[.slice A l.length c, .agg #[.int .i64 s, .int .i64 n, .int .i64 u, .int .i64 lo, .int .i64 hi]] w (AddedS l (s, n, u, lo, hi) w) := by
  rcases List.eq_nil_or_concat l with rfl | ⟨m, ⟨qs, qn, qu, ql, qh⟩, rfl⟩
  · exact addS_nil A c s n u lo hi w hr
  · rw [List.concat_eq_append] at hr hl hs ⊢
    have hm : m.length ≤ 1000 := by simp at hl; omega
    have hq := hs (qs, qn, qu, ql, qh) (by simp)
    by_cases h : qs = s
    · subst h
      exact addS_join m qs qn qu ql qh A c n u lo hi w hr hm hq.1 hs2.1 hq.2 hs2.2
    · exact addS_new m qs qn qu ql qh A c s n u lo hi w hr hm h
end Go.Proofs.Ytoncefhcabgaaaa
