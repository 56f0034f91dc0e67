/- Plain laws on series of points: valid ones ascend, a range of times is a piece of an ascending series, the last value not later than a time. No program is named here. -/
import Derived.Test.YtcgeagcfhjdpcaaQuiet
namespace Go.Proofs.Ytcgeagcfhjdpcaa
set_option linter.unusedVariables false
open Go.RowKit

theorem gw_cellW {W : World} {b o : Nat} {u : Value} (h : W.cell? ⟨b, o, none⟩ = some u) : ∀ x : GW W, x.1.cell? ⟨b, o, none⟩ = some u := fun x => x.2.cell h (by simp)

def okP (t v : Int) : Bool := decide (0 ≤ t ∧ t ≤ 1000 ∧ -1000 ≤ v ∧ v ≤ 1000)
def vS : Option Int → List Pt → Bool
  | _, [] => true
  | q, p :: r => okP p.1 p.2 && (match q with | none => true | some q => decide (q < p.1)) && vS (some p.1) r
def validL (l : List Pt) : Bool := decide (l.length ≤ 16) && vS none l
/-- the time of the point ahead of place k -/
def prevP (l : List Pt) : Nat → Option Int
  | 0 => none
  | k + 1 => (l[k]?).map (·.1)
abbrev Asc (l : List Pt) : Prop := l.Pairwise (fun a b => a.1 < b.1)

theorem okP_iff {t v : Int} : okP t v = true ↔ 0 ≤ t ∧ t ≤ 1000 ∧ -1000 ≤ v ∧ v ≤ 1000 := decide_eq_true_iff
theorem vS_some (l : List Pt) : ∀ q : Int, vS (some q) l = true ↔ (∀ p ∈ l, okP p.1 p.2 = true) ∧ (∀ p ∈ l, q < p.1) ∧ Asc l := by
  induction l with
  | nil => intro q; simp [vS]
  | cons a r ih =>
    intro q
    simp only [vS, Bool.and_eq_true, decide_eq_true_eq, ih a.1, List.mem_cons, forall_eq_or_imp, List.pairwise_cons]
    constructor
    · rintro ⟨⟨h1, h2⟩, h3, h4, h5⟩
      exact ⟨⟨h1, h3⟩, ⟨h2, fun p hp => by have := h4 p hp; omega⟩, h4, h5⟩
    · rintro ⟨⟨h1, h3⟩, ⟨h2, _⟩, h4, h5⟩
      exact ⟨⟨h1, h2⟩, h3, h4, h5⟩
theorem vS_none (l : List Pt) : vS none l = true ↔ (∀ p ∈ l, okP p.1 p.2 = true) ∧ Asc l := by
  cases l with
  | nil => simp [vS]
  | cons a r =>
    simp only [vS, Bool.and_eq_true, and_true, vS_some r a.1, List.mem_cons, forall_eq_or_imp, List.pairwise_cons]
    constructor
    · rintro ⟨h1, h3, h4, h5⟩; exact ⟨⟨h1, h3⟩, h4, h5⟩
    · rintro ⟨⟨h1, h3⟩, h4, h5⟩; exact ⟨h1, h3, h4, h5⟩
theorem validL_iff (l : List Pt) : validL l = true ↔ l.length ≤ 16 ∧ (∀ p ∈ l, 0 ≤ p.1 ∧ p.1 ≤ 1000 ∧ -1000 ≤ p.2 ∧ p.2 ≤ 1000) ∧ Asc l := by
  unfold validL
  rw [Bool.and_eq_true, decide_eq_true_eq, vS_none]
  simp only [okP_iff]

theorem filter_hi {α : Type} (p : α → Bool) (l : List α) (r : Nat) (h1 : ∀ i x, l[i]? = some x → i < r → p x = false) (h2 : ∀ i x, l[i]? = some x → r ≤ i → p x = true) : l.filter p = l.drop r := by
  induction l generalizing r with
  | nil => simp
  | cons a l ih =>
    cases r with
    | zero =>
      rw [List.drop_zero]
      exact List.filter_eq_self.2 fun x hx => by
        obtain ⟨i, hi⟩ := List.mem_iff_getElem?.1 hx
        exact h2 i x hi (Nat.zero_le _)
    | succ r =>
      have ha := h1 0 a rfl (by omega)
      rw [List.filter_cons, ha, List.drop_succ_cons]
      exact ih r (fun i x hx hi => h1 (i + 1) x (by simpa using hx) (by omega)) (fun i x hx hi => h2 (i + 1) x (by simpa using hx) (by omega))
theorem filter_lo {α : Type} (p : α → Bool) (l : List α) (r : Nat) (h1 : ∀ i x, l[i]? = some x → i < r → p x = true) (h2 : ∀ i x, l[i]? = some x → r ≤ i → p x = false) : l.filter p = l.take r := by
  induction l generalizing r with
  | nil => simp
  | cons a l ih =>
    cases r with
    | zero =>
      rw [List.take_zero]
      exact List.filter_eq_nil_iff.2 fun x hx => by
        obtain ⟨i, hi⟩ := List.mem_iff_getElem?.1 hx
        rw [h2 i x hi (Nat.zero_le _)]
        simp
    | succ r =>
      have ha := h1 0 a rfl (by omega)
      rw [List.filter_cons, if_pos ha, List.take_succ_cons, ih r (fun i x hx hi => h1 (i + 1) x (by simpa using hx) (by omega)) (fun i x hx hi => h2 (i + 1) x (by simpa using hx) (by omega))]

/-- the points of a range of times -/
def inT (f t : Int) (p : Pt) : Bool := decide (f ≤ p.1) && decide (p.1 ≤ t - 1)
def partL (l : List Pt) (f t : Int) : List Pt := l.filter (inT f t)
def okR (l : List Pt) (f t : Int) : Bool := validL l && (decide (-2000 ≤ f) && decide (f ≤ 2000)) && (decide (-2000 ≤ t) && decide (t ≤ 2000))
def rangeL (l : List Pt) (f t : Int) : List Pt := if okR l f t then partL l f t else []
theorem okR_iff {l : List Pt} {f t : Int} : okR l f t = true ↔ validL l = true ∧ (-2000 ≤ f ∧ f ≤ 2000) ∧ (-2000 ≤ t ∧ t ≤ 2000) := by
  unfold okR
  simp only [Bool.and_eq_true, decide_eq_true_eq]
  constructor
  · rintro ⟨⟨a, b⟩, c⟩; exact ⟨a, b, c⟩
  · rintro ⟨a, b, c⟩; exact ⟨⟨a, b⟩, c⟩

theorem part_none {l : List Pt} {f t : Int} (h : t ≤ f) : partL l f t = [] := by
  unfold partL inT
  refine List.filter_eq_nil_iff.2 fun x _ => ?_
  simp
  omega
/-- the piece between two places -/
theorem part_piece {l : List Pt} {f t : Int} {a b : Nat} (ha1 : ∀ i x, l[i]? = some x → i < a → x.1 < f) (ha2 : ∀ i x, l[i]? = some x → a ≤ i → f ≤ x.1) (hb1 : ∀ i x, l[i]? = some x → i < b → x.1 < t) (hb2 : ∀ i x, l[i]? = some x → b ≤ i → t ≤ x.1) :
    partL l f t = (l.take b).drop a := by
  have e1 : l.filter (fun p => decide (p.1 ≤ t - 1)) = l.take b := filter_lo _ _ _ (fun i x hx hi => by have := hb1 i x hx hi; simp; omega) (fun i x hx hi => by have := hb2 i x hx hi; simp; omega)
  have e2 : (l.take b).filter (fun p => decide (f ≤ p.1)) = (l.take b).drop a := by
    refine filter_hi _ _ _ (fun i x hx hi => ?_) (fun i x hx hi => ?_)
    · rw [List.getElem?_take] at hx
      split at hx
      · have := ha1 i x hx hi; simp; omega
      · cases hx
    · rw [List.getElem?_take] at hx
      split at hx
      · have := ha2 i x hx hi; simp; omega
      · cases hx
  rw [← e2, ← e1, List.filter_filter]
  rfl
theorem place_le {l : List Pt} {f t : Int} {a b : Nat} (hft : f < t) (hal : a ≤ l.length) (ha1 : ∀ i x, l[i]? = some x → i < a → x.1 < f) (hb2 : ∀ i x, l[i]? = some x → b ≤ i → t ≤ x.1) : a ≤ b := by
  rcases Nat.lt_or_ge b a with h | h
  · have hx : l[b]? = some l[b] := List.getElem?_eq_getElem (by omega)
    have h1 := ha1 b _ hx h
    have h2 := hb2 b _ hx (Nat.le_refl _)
    omega
  · exact h

theorem asc_get {l : List Pt} (h : Asc l) {i j : Nat} {x y : Pt} (hx : l[i]? = some x) (hy : l[j]? = some y) (hij : i < j) : x.1 < y.1 := by
  obtain ⟨h1, e1⟩ := List.getElem?_eq_some_iff.1 hx
  obtain ⟨h2, e2⟩ := List.getElem?_eq_some_iff.1 hy
  have := List.pairwise_iff_getElem.1 h i j h1 h2 hij
  rw [e1, e2] at this
  exact this

/-- the value of the last point that is not later than a time -/
def lastV (l : List Pt) (now : Int) : Int × Bool := match (l.filter (fun p => decide (p.1 ≤ now))).getLast? with | none => (0, false) | some p => (p.2, true)
def valueL (l : List Pt) (now : Int) : Int × Bool := if validL l then lastV l now else (0, false)
theorem lastV_snoc (l : List Pt) (p : Pt) (now : Int) : lastV (l ++ [p]) now = if p.1 ≤ now then (p.2, true) else lastV l now := by
  unfold lastV
  rw [List.filter_append]
  by_cases h : p.1 ≤ now
  · simp [h]
  · simp [h]
theorem lastV_take {l : List Pt} {now : Int} {r : Nat} (h1 : ∀ i x, l[i]? = some x → i < r → x.1 ≤ now) (h2 : ∀ i x, l[i]? = some x → r ≤ i → now < x.1) : lastV l now = (match (l.take r).getLast? with | none => (0, false) | some p => (p.2, true)) := by
  unfold lastV
  rw [filter_lo _ l r (fun i x hx hi => by have := h1 i x hx hi; simpa using this) (fun i x hx hi => by have := h2 i x hx hi; simp; omega)]
theorem lastV_zero {l : List Pt} {now : Int} (h2 : ∀ (i : Nat) (x : Pt), l[i]? = some x → now < x.1) : lastV l now = (0, false) := by
  rw [lastV_take (r := 0) (fun i x hx hi => by omega) (fun i x hx _ => h2 i x hx)]
  rfl
theorem take_get' {α : Type} {l : List α} {k : Nat} {x : α} (h : l[k]? = some x) : l.take (k + 1) = l.take k ++ [x] := by
  rw [List.take_add_one, h]; rfl
theorem lastV_at {l : List Pt} {now : Int} {r : Nat} {x : Pt} (hx : l[r]? = some x) (hle : x.1 ≤ now) (h2 : ∀ i x, l[i]? = some x → r + 1 ≤ i → now < x.1) : lastV l now = (x.2, true) := by
  have e : l = l.take (r + 1) ++ l.drop (r + 1) := (List.take_append_drop _ _).symm
  have e2 : (l.drop (r + 1)).filter (fun p => decide (p.1 ≤ now)) = [] := List.filter_eq_nil_iff.2 fun y hy => by
    obtain ⟨i, hi⟩ := List.mem_iff_getElem?.1 hy
    rw [List.getElem?_drop] at hi
    have := h2 _ y hi (by omega)
    simp; omega
  unfold lastV
  rw [e, List.filter_append, e2, List.append_nil, take_get' hx, List.filter_append]
  simp [hle]

/-- all later by one -/
def laterP (p : Pt) : Pt := (p.1 + 1, p.2)
theorem lastV_later (l : List Pt) (now : Int) : lastV (l.map laterP) (now + 1) = lastV l now := by
  unfold lastV
  have e : (l.map laterP).filter (fun p => decide (p.1 ≤ now + 1)) = (l.filter (fun p => decide (p.1 ≤ now))).map laterP := by
    rw [List.filter_map]
    congr 1
    refine List.filter_congr fun x _ => ?_
    simp [laterP]
  rw [e, List.getLast?_map]
  cases (l.filter (fun p => decide (p.1 ≤ now))).getLast? <;> rfl
theorem valid_later {l : List Pt} {t v : Int} (h : validL l = true) (hl : l[l.length - 1]? = some (t, v)) (hn : t ≠ 1000) : validL (l.map laterP) = true := by
  obtain ⟨h1, h2, h3⟩ := (validL_iff l).1 h
  refine (validL_iff _).2 ⟨by simpa using h1, ?_, ?_⟩
  · intro p hp
    obtain ⟨q, hq, rfl⟩ := List.mem_map.1 hp
    have := h2 q hq
    obtain ⟨i, hi⟩ := List.mem_iff_getElem?.1 hq
    have hil := (List.getElem?_eq_some_iff.1 hi).1
    have hlt : q.1 ≤ t := by
      rcases Nat.lt_or_ge i (l.length - 1) with hc | hc
      · exact Int.le_of_lt (asc_get h3 hi hl hc)
      · have : i = l.length - 1 := by omega
        subst this
        rw [hi] at hl
        injection hl with hl
        rw [hl]
        exact Int.le_refl _
    have ht := (h2 (t, v) (List.mem_of_getElem? hl)).2.1
    simp only [laterP]
    simp only at ht
    omega
  · refine List.pairwise_map.2 (h3.imp fun hab => ?_)
    simp only [laterP]
    omega
theorem valid_sub {l m : List Pt} (h : validL l = true) (hs : m.Sublist l) : validL m = true := by
  obtain ⟨h1, h2, h3⟩ := (validL_iff l).1 h
  exact (validL_iff _).2 ⟨Nat.le_trans hs.length_le h1, fun p hp => h2 p (hs.subset hp), h3.sublist hs⟩
theorem valid_nil : validL [] = true := rfl
theorem valid_skip {l : List Pt} (h : validL l = true) (k : Nat) : validL (l.take k ++ l.drop (k + 1)) = true := by
  refine valid_sub h ?_
  have : l.take k ++ l.drop (k + 1) = l.eraseIdx k := (List.eraseIdx_eq_take_drop_succ l k).symm
  rw [this]
  exact List.eraseIdx_sublist l k

theorem asc_split {l : List Pt} (h : Asc l) (x : Int) : l = l.filter (fun p => decide (p.1 < x)) ++ l.filter (fun p => decide (x ≤ p.1)) := by
  induction l with
  | nil => rfl
  | cons a r ih =>
    obtain ⟨h1, h2⟩ := List.pairwise_cons.1 h
    by_cases hx : a.1 < x
    · have hn : ¬ x ≤ a.1 := by omega
      rw [List.filter_cons, if_pos (by simpa using hx), List.filter_cons, if_neg (by simpa using hx), List.cons_append, ← ih h2]
    · have e : r.filter (fun p => decide (p.1 < x)) = [] := List.filter_eq_nil_iff.2 fun y hy => by
        have := h1 y hy
        simp; omega
      have e2 : r.filter (fun p => decide (x ≤ p.1)) = r := List.filter_eq_self.2 fun y hy => by
        have := h1 y hy
        simp; omega
      rw [List.filter_cons, if_neg (by simpa using hx), e, List.nil_append, List.filter_cons, if_pos (by simp; omega), e2]
theorem part_cut {l : List Pt} {f m t : Int} (h : Asc l) (h1 : f ≤ m) (h2 : m ≤ t) : partL l f m ++ partL l m t = partL l f t := by
  have e : partL l f t = partL (l.filter (fun p => decide (p.1 < m)) ++ l.filter (fun p => decide (m ≤ p.1))) f t := by rw [← asc_split h m]
  rw [e]
  unfold partL
  rw [List.filter_append, List.filter_filter, List.filter_filter]
  congr 1
  · refine List.filter_congr fun x _ => ?_
    rw [Bool.eq_iff_iff]
    simp only [inT, Bool.and_eq_true, decide_eq_true_eq]
    omega
  · refine List.filter_congr fun x _ => ?_
    rw [Bool.eq_iff_iff]
    simp only [inT, Bool.and_eq_true, decide_eq_true_eq]
    omega
theorem range_cut {l : List Pt} {f t : Int} (h : okR l f t = true) (h1 : f ≤ 40) (h2 : 40 ≤ t) : rangeL l f 40 ++ rangeL l 40 t = rangeL l f t := by
  obtain ⟨a, b, c⟩ := okR_iff.1 h
  have r1 : okR l f 40 = true := okR_iff.2 ⟨a, b, by omega⟩
  have r2 : okR l 40 t = true := okR_iff.2 ⟨a, by omega, c⟩
  unfold rangeL
  rw [if_pos r1, if_pos r2, if_pos h]
  exact part_cut ((validL_iff l).1 a).2.2 h1 h2
theorem range_all {l : List Pt} (h : validL l = true) : rangeL l 0 1001 = l := by
  unfold rangeL
  rw [if_pos (okR_iff.2 ⟨h, by omega⟩)]
  refine List.filter_eq_self.2 fun x hx => ?_
  have := ((validL_iff l).1 h).2.1 x hx
  simp only [inT, Bool.and_eq_true, decide_eq_true_eq]
  omega
theorem range_empty {l : List Pt} (x : Int) : rangeL l x x = [] := by
  unfold rangeL
  split
  · exact part_none (Int.le_refl _)
  · rfl
theorem range_ok {l : List Pt} {f t : Int} : (rangeL l f t).length ≤ 16 ∧ ∀ p ∈ rangeL l f t, 0 ≤ p.1 ∧ p.1 ≤ 1000 ∧ -1000 ≤ p.2 ∧ p.2 ≤ 1000 := by
  unfold rangeL
  split
  · rename_i h
    obtain ⟨h1, h2, _⟩ := (validL_iff l).1 (okR_iff.1 h).1
    exact ⟨Nat.le_trans (List.length_filter_le _ _) h1, fun p hp => h2 p ((List.mem_filter.1 hp).1)⟩
  · simp
theorem range_no {l : List Pt} {f t : Int} (h : okR l f t = false) : rangeL l f t = [] := by unfold rangeL; rw [h]; rfl
theorem range_yes {l : List Pt} {f t : Int} (h : okR l f t = true) : rangeL l f t = partL l f t := by unfold rangeL; rw [h]; rfl
theorem okR_of_mem {l : List Pt} {f t : Int} (h : rangeL l f t ≠ []) : okR l f t = true := by
  cases hk : okR l f t with
  | true => rfl
  | false => exact absurd (range_no hk) h

/-- sums of values -/
def sumV : List Pt → Int
  | [] => 0
  | p :: r => p.2 + sumV r
theorem sumV_app (a b : List Pt) : sumV (a ++ b) = sumV a + sumV b := by
  induction a with
  | nil => simp [sumV]
  | cons p a ih => rw [List.cons_append]; simp only [sumV]; rw [ih]; omega
theorem sumV_bd {l : List Pt} (h : ∀ p ∈ l, -1000 ≤ p.2 ∧ p.2 ≤ 1000) : -1000 * (l.length : Int) ≤ sumV l ∧ sumV l ≤ 1000 * (l.length : Int) := by
  induction l with
  | nil => simp [sumV]
  | cons p l ih =>
    have h1 := h p (by simp)
    have h2 := ih (fun q hq => h q (by simp [hq]))
    simp only [sumV, List.length_cons]
    omega
/-- how often a value is less than the one before -/
def fallN : List Pt → Int
  | [] => 0
  | [_] => 0
  | p :: q :: r => (if q.2 < p.2 then 1 else 0) + fallN (q :: r)
theorem fallN_snoc (l : List Pt) (p q : Pt) : fallN (l ++ [p] ++ [q]) = fallN (l ++ [p]) + (if q.2 < p.2 then 1 else 0) := by
  induction l with
  | nil => simp [fallN]
  | cons a l ih =>
    cases l with
    | nil => simp [fallN]
    | cons b l =>
      simp only [List.cons_append, fallN] at ih ⊢
      omega
theorem fallN_bd (l : List Pt) : 0 ≤ fallN l ∧ fallN l ≤ l.length := by
  induction l with
  | nil => simp [fallN]
  | cons a l ih =>
    cases l with
    | nil => simp [fallN]
    | cons b l =>
      simp only [fallN, List.length_cons] at ih ⊢
      split <;> omega
end Go.Proofs.Ytcgeagcfhjdpcaa
