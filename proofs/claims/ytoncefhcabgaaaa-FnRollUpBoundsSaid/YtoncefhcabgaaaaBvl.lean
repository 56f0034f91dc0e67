/- Plain laws on valid buckets: what is valid, what grouping keeps. -/
import Derived.Test.YtoncefhcabgaaaaBkv
import Derived.Test.YtoncefhcabgaaaaGrp
namespace Go.Proofs.Ytoncefhcabgaaaa
set_option linter.unusedVariables false
open Go.RowKit

def flr (V : Int) (s : Int) : Int := s - s % V
def coarG (V : Int) (l : List Bk) : List Bk := grp (l.map (reB (flr V)))
theorem okB1_iff {W : Int} {b : Bk} : okB1 W b = true ↔ 0 ≤ b.1 ∧ b.1 ≤ 1000 ∧ b.1 % W = 0 ∧ 1 ≤ b.2.1 ∧ b.2.1 ≤ 100 ∧ -1000 ≤ b.2.2.2.1 ∧ b.2.2.2.1 ≤ b.2.2.2.2 ∧ b.2.2.2.2 ≤ 1000 ∧ b.2.2.2.1 * b.2.1 ≤ b.2.2.1 ∧ b.2.2.1 ≤ b.2.2.2.2 * b.2.1 := decide_eq_true_iff
theorem seqB_some (W : Int) (l : List Bk) : ∀ q : Int, seqB W (some q) l = true ↔ (∀ b ∈ l, okB1 W b = true) ∧ (∀ b ∈ l, q < b.1) ∧ AscB l := by
  induction l with
  | nil => intro q; simp [seqB]
  | cons a r ih =>
    intro q
    simp only [seqB, Bool.and_eq_true, decide_eq_true_eq, ih a.1, List.mem_cons, forall_eq_or_imp, List.pairwise_cons]
    constructor
    · rintro ⟨⟨h1, h2⟩, h3, h4, h5⟩
      exact ⟨⟨h1, h3⟩, ⟨h2, fun p hp => by have := h4 p hp; omega⟩, h4, h5⟩
    · rintro ⟨⟨h1, h3⟩, ⟨h2, _⟩, h4, h5⟩
      exact ⟨⟨h1, h2⟩, h3, h4, h5⟩
theorem seqB_none (W : Int) (l : List Bk) : seqB W none l = true ↔ (∀ b ∈ l, okB1 W b = true) ∧ AscB l := by
  cases l with
  | nil => simp [seqB]
  | cons a r =>
    simp only [seqB, Bool.and_eq_true, and_true, seqB_some W r a.1, List.mem_cons, forall_eq_or_imp, List.pairwise_cons]
    constructor
    · rintro ⟨h1, h3, h4, h5⟩; exact ⟨⟨h1, h3⟩, h4, h5⟩
    · rintro ⟨⟨h1, h3⟩, h4, h5⟩; exact ⟨h1, h3, h4, h5⟩
theorem okBs_iff {W : Int} {l : List Bk} : okBs W l = true ↔ l.length ≤ 16 ∧ (∀ b ∈ l, okB1 W b = true) ∧ AscB l := by
  unfold okBs
  rw [Bool.and_eq_true, decide_eq_true_eq, seqB_none]
  exact ⟨fun ⟨a, b⟩ => ⟨b, a⟩, fun ⟨a, b⟩ => ⟨b, a⟩⟩
/-- valid but for the greatest count -/
def okC (V : Int) (b : Bk) : Prop := (0 ≤ b.1 ∧ b.1 ≤ 1000 ∧ b.1 % V = 0) ∧ 1 ≤ b.2.1 ∧ (-1000 ≤ b.2.2.2.1 ∧ b.2.2.2.1 ≤ b.2.2.2.2 ∧ b.2.2.2.2 ≤ 1000) ∧ b.2.2.2.1 * b.2.1 ≤ b.2.2.1 ∧ b.2.2.1 ≤ b.2.2.2.2 * b.2.1
theorem okC_of {V : Int} {b : Bk} (h : okB1 V b = true) : okC V b := by
  have := okB1_iff.1 h
  unfold okC
  omega
theorem ok_of_okC {V : Int} {b : Bk} (h : okC V b) (hc : b.2.1 ≤ 100) : okB1 V b = true := by
  unfold okC at h
  rw [okB1_iff]
  omega
theorem okC_join {V : Int} {a b : Bk} (ha : okC V a) (hb : okC V b) : okC V (joinB a b) := by
  obtain ⟨a1, a2, ⟨a3, a4, a5⟩, a6, a7⟩ := ha
  obtain ⟨b1, b2, ⟨b3, b4, b5⟩, b6, b7⟩ := hb
  unfold okC
  simp only [joinB]
  refine ⟨a1, by omega, by omega, ?_, ?_⟩
  · have h1 : min a.2.2.2.1 b.2.2.2.1 * a.2.1 ≤ a.2.2.2.1 * a.2.1 := Int.mul_le_mul_of_nonneg_right (by omega) (by omega)
    have h2 : min a.2.2.2.1 b.2.2.2.1 * b.2.1 ≤ b.2.2.2.1 * b.2.1 := Int.mul_le_mul_of_nonneg_right (by omega) (by omega)
    rw [Int.mul_add]
    omega
  · have h1 : a.2.2.2.2 * a.2.1 ≤ max a.2.2.2.2 b.2.2.2.2 * a.2.1 := Int.mul_le_mul_of_nonneg_right (by omega) (by omega)
    have h2 : b.2.2.2.2 * b.2.1 ≤ max a.2.2.2.2 b.2.2.2.2 * b.2.1 := Int.mul_le_mul_of_nonneg_right (by omega) (by omega)
    rw [Int.mul_add]
    omega
theorem okC_grp {V : Int} {l : List Bk} (h : ∀ b ∈ l, okC V b) : ∀ b ∈ grp l, okC V b := by
  induction l with
  | nil => simp [grp]
  | cons a l ih =>
    have ih := ih (fun b hb => h b (by simp [hb]))
    have ha := h a (by simp)
    intro b hb
    rw [grp_cons] at hb
    match hg : grp l with
    | [] => rw [hg] at hb; simp [addF] at hb; subst hb; exact ha
    | q :: r =>
      rw [hg] at hb ih
      simp only [addF] at hb
      split at hb
      · rcases List.mem_cons.1 hb with rfl | hb
        · exact okC_join ha (ih q (by simp))
        · exact ih b (by simp [hb])
      · rcases List.mem_cons.1 hb with rfl | hb
        · exact ha
        · exact ih b hb
theorem flr_ok {V s : Int} (hV : 1 ≤ V) (h0 : 0 ≤ s) : 0 ≤ flr V s ∧ flr V s ≤ s ∧ flr V s % V = 0 ∧ s < flr V s + V := by
  have e1 := Int.emod_nonneg s (show V ≠ 0 by omega)
  have e2 := Int.emod_lt_of_pos s (show 0 < V by omega)
  have e3 := Int.emod_add_mul_ediv s V
  unfold flr
  refine ⟨?_, by omega, ?_, by omega⟩
  · have := Int.mul_nonneg (show 0 ≤ V by omega) (Int.ediv_nonneg h0 (show 0 ≤ V by omega))
    omega
  · rw [show s - s % V = V * (s / V) by omega]
    exact Int.mul_emod_right _ _
theorem flr_mono {V s t : Int} (hV : 1 ≤ V) (h : s ≤ t) : flr V s ≤ flr V t := by
  have e3 := Int.emod_add_mul_ediv s V
  have e4 := Int.emod_add_mul_ediv t V
  have := Int.ediv_le_ediv (show 0 < V by omega) h
  have := Int.mul_le_mul_of_nonneg_left this (show 0 ≤ V by omega)
  unfold flr
  omega
theorem okC_re {W V : Int} {b : Bk} (hV : 1 ≤ V) (h : okC W b) : okC V (reB (flr V) b) := by
  obtain ⟨h1, h2⟩ := h
  have := flr_ok hV h1.1
  exact ⟨⟨this.1, by show flr V b.1 ≤ 1000; omega, this.2.2.1⟩, h2⟩
theorem up_re {V : Int} {l : List Bk} (hV : 1 ≤ V) (h : UpB l) : UpB (l.map (reB (flr V))) :=
  List.pairwise_map.2 (h.imp fun hab => flr_mono hV hab)
theorem up_of_asc {l : List Bk} (h : AscB l) : UpB l := h.imp fun hab => by omega
theorem coar_okC {W V : Int} {l : List Bk} (hV : 1 ≤ V) (h : okBs W l = true) : (coarG V l).length ≤ 16 ∧ (∀ b ∈ coarG V l, okC V b) ∧ AscB (coarG V l) := by
  obtain ⟨h1, h2, h3⟩ := okBs_iff.1 h
  refine ⟨?_, okC_grp (fun b hb => ?_), grp_asc (up_re hV (up_of_asc h3))⟩
  · have := grp_len (l.map (reB (flr V)))
    rw [List.length_map] at this
    unfold coarG
    omega
  · obtain ⟨x, hx, rfl⟩ := List.mem_map.1 hb
    exact okC_re hV (okC_of (h2 x hx))
/-- no count is too great -/
def cntOk (l : List Bk) : Bool := l.all fun b => decide (b.2.1 ≤ 100)
theorem cntOk_iff {l : List Bk} : cntOk l = true ↔ ∀ b ∈ l, b.2.1 ≤ 100 := by
  unfold cntOk
  rw [List.all_eq_true]
  simp
theorem coar_ok {W V : Int} {l : List Bk} (hV : 1 ≤ V) (h : okBs W l = true) : okBs V (coarG V l) = cntOk (coarG V l) := by
  obtain ⟨h1, h2, h3⟩ := coar_okC hV h
  rw [Bool.eq_iff_iff, okBs_iff, cntOk_iff]
  constructor
  · rintro ⟨_, a, _⟩ b hb
    exact (okB1_iff.1 (a b hb)).2.2.2.2.1
  · intro a
    exact ⟨h1, fun b hb => ok_of_okC (h2 b hb) (a b hb), h3⟩
/-- what Coarser gives -/
def coarC (W T : Int) (l : List Bk) : Bool := okW W l && (decide (1 ≤ T) && decide (T ≤ 100)) && decide (W * T ≤ 100)
def coarV (W T : Int) (l : List Bk) : List Bk × Bool := if coarC W T l then (if cntOk (coarG (W * T) l) then (coarG (W * T) l, true) else ([], false)) else ([], false)
theorem coarV_no {W T : Int} {l : List Bk} (h : coarC W T l = false) : coarV W T l = ([], false) := by unfold coarV; rw [h]; rfl
theorem coarV_yes {W T : Int} {l : List Bk} (h : coarC W T l = true) : coarV W T l = if cntOk (coarG (W * T) l) then (coarG (W * T) l, true) else ([], false) := by unfold coarV; rw [h]; rfl
theorem coarC_iff {W T : Int} {l : List Bk} : coarC W T l = true ↔ ((1 ≤ W ∧ W ≤ 100) ∧ okBs W l = true) ∧ (1 ≤ T ∧ T ≤ 100) ∧ W * T ≤ 100 := by
  unfold coarC
  rw [Bool.and_eq_true, Bool.and_eq_true, okW_iff]
  simp only [Bool.and_eq_true, decide_eq_true_eq]
  exact ⟨fun ⟨⟨a, b⟩, c⟩ => ⟨a, b, c⟩, fun ⟨a, b, c⟩ => ⟨⟨a, b⟩, c⟩⟩
theorem mul_ge {W T : Int} (hW : 1 ≤ W) (hT : 1 ≤ T) : 1 ≤ W * T := by
  have := Int.mul_le_mul_of_nonneg_left hT (show 0 ≤ W by omega)
  omega

/-- the order in which two lists are merged -/
def mrgL : List Bk → List Bk → List Bk
  | [], b => b
  | a :: ar, [] => a :: ar
  | a :: ar, b :: bs => if a.1 ≤ b.1 then a :: mrgL ar (b :: bs) else b :: mrgL (a :: ar) bs
theorem mrgL_nil_r (a : List Bk) : mrgL a [] = a := by cases a <;> simp [mrgL]
theorem mrgL_nil_l (b : List Bk) : mrgL [] b = b := by simp [mrgL]
theorem mrgL_mem {a b : List Bk} : ∀ x, x ∈ mrgL a b ↔ x ∈ a ∨ x ∈ b := by
  intro x
  induction a, b using mrgL.induct with
  | case1 b => simp [mrgL]
  | case2 a ar => simp [mrgL]
  | case3 a ar b bs h ih =>
    rw [mrgL, if_pos h]
    simp only [List.mem_cons] at ih ⊢
    rw [ih]
    constructor
    · rintro (h | h | h | h) <;> simp [h]
    · rintro ((h | h) | h | h) <;> simp [h]
  | case4 a ar b bs h ih =>
    rw [mrgL, if_neg h]
    simp only [List.mem_cons] at ih ⊢
    rw [ih]
    constructor
    · rintro (h | (h | h) | h) <;> simp [h]
    · rintro ((h | h) | h | h) <;> simp [h]
theorem mrgL_up {a b : List Bk} (ha : UpB a) (hb : UpB b) : UpB (mrgL a b) := by
  induction a, b using mrgL.induct with
  | case1 b => simpa [mrgL] using hb
  | case2 a ar => simpa [mrgL] using ha
  | case3 a ar b bs h ih =>
    rw [mrgL, if_pos h]
    obtain ⟨a1, a2⟩ := List.pairwise_cons.1 ha
    refine List.pairwise_cons.2 ⟨fun x hx => ?_, ih a2 hb⟩
    rcases (mrgL_mem x).1 hx with hx | hx
    · exact a1 x hx
    · rcases List.mem_cons.1 hx with rfl | hx
      · exact h
      · have := (List.pairwise_cons.1 hb).1 x hx; omega
  | case4 a ar b bs h ih =>
    rw [mrgL, if_neg h]
    obtain ⟨b1, b2⟩ := List.pairwise_cons.1 hb
    refine List.pairwise_cons.2 ⟨fun x hx => ?_, ih ha b2⟩
    rcases (mrgL_mem x).1 hx with hx | hx
    · rcases List.mem_cons.1 hx with rfl | hx
      · omega
      · have := (List.pairwise_cons.1 ha).1 x hx; omega
    · exact b1 x hx
theorem mrgL_len (a b : List Bk) : (mrgL a b).length = a.length + b.length := by
  induction a, b using mrgL.induct with
  | case1 b => simp [mrgL]
  | case2 a ar => simp [mrgL]
  | case3 a ar b bs h ih => rw [mrgL, if_pos h]; simp only [List.length_cons] at ih ⊢; omega
  | case4 a ar b bs h ih => rw [mrgL, if_neg h]; simp only [List.length_cons] at ih ⊢; omega
theorem cntB_mrg (a b : List Bk) : cntB (mrgL a b) = cntB a + cntB b := by
  induction a, b using mrgL.induct with
  | case1 b => simp [mrgL, cntB]
  | case2 a ar => simp [mrgL, cntB]
  | case3 a ar b bs h ih => rw [mrgL, if_pos h]; simp only [cntB] at ih ⊢; omega
  | case4 a ar b bs h ih => rw [mrgL, if_neg h]; simp only [cntB] at ih ⊢; omega
theorem mrgL_first {a : Bk} {ar b : List Bk} (h : ∀ x ∈ b, a.1 ≤ x.1) : mrgL (a :: ar) b = a :: mrgL ar b := by
  cases b with
  | nil => rw [mrgL_nil_r, mrgL_nil_r]
  | cons b bs => rw [mrgL, if_pos (h b (by simp))]
theorem mrgL_second {b : Bk} {a bs : List Bk} (h : ∀ x ∈ a, b.1 < x.1) : mrgL a (b :: bs) = b :: mrgL a bs := by
  cases a with
  | nil => rw [mrgL_nil_l, mrgL_nil_l]
  | cons a ar => rw [mrgL, if_neg (by have := h a (by simp); omega)]
/-- merged in both orders -/
theorem grp_mrg_comm {a b : List Bk} (ha : AscB a) (hb : AscB b) : grp (mrgL a b) = grp (mrgL b a) := by
  obtain ⟨n, hn⟩ : ∃ n, a.length + b.length = n := ⟨_, rfl⟩
  induction n using Nat.strongRecOn generalizing a b with
  | _ n ih =>
    match a, b with
    | [], b => rw [mrgL_nil_l, mrgL_nil_r]
    | a :: ar, [] => rw [mrgL_nil_l, mrgL_nil_r]
    | a :: ar, b :: bs =>
      obtain ⟨a1, a2⟩ := List.pairwise_cons.1 ha
      obtain ⟨b1, b2⟩ := List.pairwise_cons.1 hb
      simp only [List.length_cons] at hn
      rcases Int.lt_trichotomy a.1 b.1 with h | h | h
      · have e1 : mrgL (a :: ar) (b :: bs) = a :: mrgL ar (b :: bs) := by rw [mrgL, if_pos (by omega)]
        have e2 : mrgL (b :: bs) (a :: ar) = a :: mrgL (b :: bs) ar := by rw [mrgL, if_neg (by omega)]
        rw [e1, e2, grp_cons, grp_cons, ih (ar.length + (b :: bs).length) (by simp only [List.length_cons]; omega) a2 hb rfl]
      · have e1 : mrgL (a :: ar) (b :: bs) = a :: b :: mrgL ar bs := by
          rw [mrgL, if_pos (by omega), mrgL_second (fun x hx => by have := a1 x hx; omega)]
        have e2 : mrgL (b :: bs) (a :: ar) = b :: a :: mrgL bs ar := by
          rw [mrgL, if_pos (by omega), mrgL_second (fun x hx => by have := b1 x hx; omega)]
        rw [e1, e2, grp_cons, grp_cons, grp_cons, grp_cons, ih (ar.length + bs.length) (by omega) a2 b2 rfl, ← addF_join h, ← addF_join h.symm, joinB_comm h]
      · have e1 : mrgL (a :: ar) (b :: bs) = b :: mrgL (a :: ar) bs := by rw [mrgL, if_neg (by omega)]
        have e2 : mrgL (b :: bs) (a :: ar) = b :: mrgL bs (a :: ar) := by rw [mrgL, if_pos (by omega)]
        rw [e1, e2, grp_cons, grp_cons, ih ((a :: ar).length + bs.length) (by simp only [List.length_cons]; omega) ha b2 rfl]
/-- what MergeBuckets gives -/
def mrgV (W : Int) (a b : List Bk) : List Bk × Bool := if okW W a && okW W b then (if okW W (grp (mrgL a b)) then (grp (mrgL a b), true) else ([], false)) else ([], false)
theorem mrgV_no {W : Int} {a b : List Bk} (h : (okW W a && okW W b) = false) : mrgV W a b = ([], false) := by unfold mrgV; rw [h]; rfl
theorem mrgV_yes {W : Int} {a b : List Bk} (h : (okW W a && okW W b) = true) : mrgV W a b = if okW W (grp (mrgL a b)) then (grp (mrgL a b), true) else ([], false) := by unfold mrgV; rw [h]; rfl
/-- all of one list ahead of the other -/
theorem mrgL_app {a b : List Bk} (h : ∀ x ∈ a, ∀ y ∈ b, x.1 ≤ y.1) : mrgL a b = a ++ b := by
  induction a with
  | nil => rw [mrgL_nil_l]; rfl
  | cons a ar ih =>
    rw [mrgL_first (fun y hy => h a (by simp) y hy), ih (fun x hx y hy => h x (by simp [hx]) y hy)]
    rfl
end Go.Proofs.Ytoncefhcabgaaaa
