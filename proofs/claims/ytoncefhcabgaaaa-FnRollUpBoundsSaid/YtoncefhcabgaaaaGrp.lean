/- Plain laws on lists of buckets: joined where they lie beside one another with one start. No program is named here. -/
import Derived.Test.YtoncefhcabgaaaaSer
namespace Go.Proofs.Ytoncefhcabgaaaa
set_option linter.unusedVariables false
open Go.RowKit

/-- the bucket of the points of two -/
def joinB (a b : Bk) : Bk := (a.1, a.2.1 + b.2.1, a.2.2.1 + b.2.2.1, min a.2.2.2.1 b.2.2.2.1, max a.2.2.2.2 b.2.2.2.2)
theorem joinB_assoc (a b c : Bk) : joinB (joinB a b) c = joinB a (joinB b c) := by
  simp only [joinB, Prod.mk.injEq, true_and]
  refine ⟨by omega, by omega, by omega, by omega⟩
theorem joinB_comm {a b : Bk} (h : a.1 = b.1) : joinB a b = joinB b a := by
  simp only [joinB, Prod.mk.injEq]
  refine ⟨h, by omega, by omega, by omega, by omega⟩
/-- behind the last one, or joined with it -/
def addL (l : List Bk) (b : Bk) : List Bk := match l.getLast? with
  | none => [b]
  | some q => if q.1 = b.1 then l.dropLast ++ [joinB q b] else l ++ [b]
/-- ahead of the first one, or joined with it -/
def addF (b : Bk) : List Bk → List Bk
  | [] => [b]
  | q :: r => if b.1 = q.1 then joinB b q :: r else b :: q :: r
/-- all in a row -/
def grp (l : List Bk) : List Bk := l.foldr addF []
theorem addL_nil (b : Bk) : addL [] b = [b] := rfl
theorem addL_snoc (l : List Bk) (q b : Bk) : addL (l ++ [q]) b = if q.1 = b.1 then l ++ [joinB q b] else l ++ [q] ++ [b] := by
  unfold addL
  rw [List.getLast?_append]
  simp
theorem addL_cons (q : Bk) (l : List Bk) (b : Bk) (h : l ≠ []) : addL (q :: l) b = q :: addL l b := by
  obtain ⟨m, x, rfl⟩ : ∃ m x, l = m ++ [x] := ⟨l.dropLast, l.getLast h, (List.dropLast_concat_getLast h).symm⟩
  rw [← List.cons_append, addL_snoc, addL_snoc]
  split <;> simp
theorem addF_addL (a b : Bk) (l : List Bk) : addL (addF a l) b = addF a (addL l b) := by
  match l with
  | [] =>
    show addL ([] ++ [a]) b = addF a [b]
    rw [addL_snoc]
    by_cases h : a.1 = b.1 <;> simp [addF, h]
  | [q] =>
    show addL (if a.1 = q.1 then [joinB a q] else [a, q]) b = addF a (addL ([] ++ [q]) b)
    rw [addL_snoc]
    by_cases h : a.1 = q.1
    · rw [if_pos h]
      show addL ([] ++ [joinB a q]) b = _
      rw [addL_snoc]
      have e : (joinB a q).1 = a.1 := rfl
      rw [e]
      by_cases h2 : q.1 = b.1
      · rw [if_pos (h.trans h2), if_pos h2]
        simp only [List.nil_append, addF]
        rw [if_pos (show a.1 = (joinB q b).1 from h), joinB_assoc]
      · rw [if_neg (by rw [h]; exact h2), if_neg h2]
        simp only [List.nil_append, List.cons_append, addF]
        rw [if_pos h]
    · rw [if_neg h]
      show addL ([a] ++ [q]) b = _
      rw [addL_snoc]
      by_cases h2 : q.1 = b.1
      · rw [if_pos h2, if_pos h2]
        simp only [List.nil_append, addF]
        rw [if_neg (show ¬ a.1 = (joinB q b).1 from h)]
        rfl
      · rw [if_neg h2, if_neg h2]
        simp only [List.nil_append, List.cons_append, addF]
        rw [if_neg h]
  | q :: r :: s =>
    rw [addL_cons q (r :: s) b (by simp)]
    by_cases h : a.1 = q.1
    · simp only [addF, if_pos h]
      rw [addL_cons _ _ _ (by simp)]
    · simp only [addF, if_neg h]
      rw [addL_cons a _ _ (by simp), addL_cons q _ _ (by simp)]
theorem grp_snoc (l : List Bk) (b : Bk) : grp (l ++ [b]) = addL (grp l) b := by
  induction l with
  | nil => rfl
  | cons a l ih =>
    show addF a (grp (l ++ [b])) = addL (addF a (grp l)) b
    rw [ih, addF_addL]
theorem grp_cons (a : Bk) (l : List Bk) : grp (a :: l) = addF a (grp l) := rfl
theorem grp_nil : grp [] = [] := rfl
theorem addF_join {a b : Bk} (h : a.1 = b.1) (l : List Bk) : addF (joinB a b) l = addF a (addF b l) := by
  cases l with
  | nil =>
    simp only [addF]
    rw [if_pos h]
  | cons q r =>
    have e : (joinB a b).1 = a.1 := rfl
    simp only [addF, e]
    by_cases h2 : b.1 = q.1
    · rw [if_pos (h.trans h2), if_pos h2]
      simp only [addF]
      rw [if_pos (show a.1 = (joinB b q).1 from h), joinB_assoc]
    · rw [if_neg (by rw [h]; exact h2), if_neg h2]
      simp only [addF]
      rw [if_pos h]
theorem addF_ne (a : Bk) (l : List Bk) : addF a l ≠ [] := by
  cases l with
  | nil => simp [addF]
  | cons q r => simp only [addF]; split <;> simp
theorem addF_app {a : Bk} {l m : List Bk} (h : l ≠ []) : addF a (l ++ m) = addF a l ++ m := by
  cases l with
  | nil => exact absurd rfl h
  | cons q r => simp only [List.cons_append, addF]; split <;> simp
/-- what is grouped may be grouped again -/
theorem grp_grp_app (l m : List Bk) : grp (grp l ++ m) = grp (l ++ m) := by
  induction l with
  | nil => rfl
  | cons a l ih =>
    rw [grp_cons, List.cons_append, grp_cons, ← ih]
    match hg : grp l with
    | [] => rfl
    | q :: r =>
      simp only [addF]
      by_cases h : a.1 = q.1
      · rw [if_pos h, List.cons_append, grp_cons, addF_join h, List.cons_append, grp_cons]; rfl
      · rw [if_neg h]; rfl
theorem grp_app_grp (l m : List Bk) : grp (l ++ grp m) = grp (l ++ m) := by
  induction l with
  | nil =>
    have := grp_grp_app m []
    rw [List.append_nil, List.append_nil] at this
    exact this
  | cons a l ih => rw [List.cons_append, grp_cons, ih]; rfl
/-- starts that are changed alike -/
def reB (f : Int → Int) (b : Bk) : Bk := (f b.1, b.2)
theorem reB_join (f : Int → Int) (a b : Bk) : reB f (joinB a b) = joinB (reB f a) (reB f b) := rfl
theorem grp_re (f : Int → Int) (l : List Bk) : grp ((grp l).map (reB f)) = grp (l.map (reB f)) := by
  induction l with
  | nil => rfl
  | cons a l ih =>
    rw [List.map_cons, grp_cons, grp_cons, ← ih]
    match hg : grp l with
    | [] => rfl
    | q :: r =>
      simp only [addF]
      by_cases h : a.1 = q.1
      · rw [if_pos h, List.map_cons, grp_cons, reB_join, addF_join (by simp [reB, h]), List.map_cons, grp_cons]; rfl
      · rw [if_neg h]; rfl

/-- starts that ascend, and that do not descend -/
abbrev AscB (l : List Bk) : Prop := l.Pairwise (fun a b => a.1 < b.1)
abbrev UpB (l : List Bk) : Prop := l.Pairwise (fun a b => a.1 ≤ b.1)
theorem grp_starts (l : List Bk) : ∀ b ∈ grp l, ∃ a ∈ l, b.1 = a.1 := by
  induction l with
  | nil => simp [grp]
  | cons a l ih =>
    rw [grp_cons]
    intro b hb
    match hg : grp l with
    | [] => rw [hg] at hb; simp [addF] at hb; exact ⟨a, by simp, by rw [hb]⟩
    | q :: r =>
      rw [hg] at hb ih
      simp only [addF] at hb
      split at hb
      · rcases List.mem_cons.1 hb with rfl | hb
        · exact ⟨a, by simp, rfl⟩
        · obtain ⟨x, hx, e⟩ := ih b (by simp [hb])
          exact ⟨x, by simp [hx], e⟩
      · rcases List.mem_cons.1 hb with rfl | hb
        · exact ⟨b, by simp, rfl⟩
        · obtain ⟨x, hx, e⟩ := ih b hb
          exact ⟨x, by simp [hx], e⟩
theorem grp_head (a : Bk) (l : List Bk) : ∃ q r, grp (a :: l) = q :: r ∧ q.1 = a.1 := by
  rw [grp_cons]
  match grp l with
  | [] => exact ⟨a, [], rfl, rfl⟩
  | q :: r =>
    simp only [addF]
    split
    · exact ⟨_, _, rfl, rfl⟩
    · exact ⟨_, _, rfl, rfl⟩
theorem grp_asc {l : List Bk} (h : UpB l) : AscB (grp l) := by
  induction l with
  | nil => simp [grp]
  | cons a l ih =>
    obtain ⟨h1, h2⟩ := List.pairwise_cons.1 h
    have ih := ih h2
    have hs := grp_starts l
    rw [grp_cons]
    match hg : grp l with
    | [] => simp [addF]
    | q :: r =>
      rw [hg] at ih hs
      obtain ⟨i1, i2⟩ := List.pairwise_cons.1 ih
      simp only [addF]
      by_cases he : a.1 = q.1
      · rw [if_pos he]
        refine List.pairwise_cons.2 ⟨fun b hb => ?_, i2⟩
        have := i1 b hb
        show a.1 < b.1
        omega
      · rw [if_neg he]
        refine List.pairwise_cons.2 ⟨fun b hb => ?_, ih⟩
        have hq : a.1 < q.1 := by
          obtain ⟨x, hx, e⟩ := hs q (by simp)
          have := h1 x hx
          omega
        rcases List.mem_cons.1 hb with rfl | hb
        · exact hq
        · have := i1 b hb
          omega
/-- strictly ascending starts: nothing to join -/
theorem grp_self {l : List Bk} (h : AscB l) : grp l = l := by
  induction l with
  | nil => rfl
  | cons a l ih =>
    obtain ⟨h1, h2⟩ := List.pairwise_cons.1 h
    rw [grp_cons, ih h2]
    cases l with
    | nil => rfl
    | cons q r =>
      simp only [addF]
      rw [if_neg (by have := h1 q (by simp); omega)]
theorem addF_len (a : Bk) (l : List Bk) : (addF a l).length ≤ l.length + 1 := by
  cases l with
  | nil => simp [addF]
  | cons q r => simp only [addF]; split <;> simp
theorem grp_len (l : List Bk) : (grp l).length ≤ l.length := by
  induction l with
  | nil => simp [grp]
  | cons a l ih =>
    have := addF_len a (grp l)
    rw [grp_cons, List.length_cons]
    omega
/-- counts and sums of all -/
def cntB : List Bk → Int
  | [] => 0
  | b :: r => b.2.1 + cntB r
def sumB : List Bk → Int
  | [] => 0
  | b :: r => b.2.2.1 + sumB r
theorem cntB_app (a b : List Bk) : cntB (a ++ b) = cntB a + cntB b := by
  induction a with
  | nil => simp [cntB]
  | cons p a ih => rw [List.cons_append]; simp only [cntB]; rw [ih]; omega
theorem sumB_app (a b : List Bk) : sumB (a ++ b) = sumB a + sumB b := by
  induction a with
  | nil => simp [sumB]
  | cons p a ih => rw [List.cons_append]; simp only [sumB]; rw [ih]; omega
theorem cntB_grp (l : List Bk) : cntB (grp l) = cntB l := by
  induction l with
  | nil => rfl
  | cons a l ih =>
    rw [grp_cons]
    simp only [cntB]
    rw [← ih]
    match grp l with
    | [] => rfl
    | q :: r =>
      simp only [addF]
      split
      · simp only [cntB, joinB]; omega
      · simp only [cntB]
theorem sumB_grp (l : List Bk) : sumB (grp l) = sumB l := by
  induction l with
  | nil => rfl
  | cons a l ih =>
    rw [grp_cons]
    simp only [sumB]
    rw [← ih]
    match grp l with
    | [] => rfl
    | q :: r =>
      simp only [addF]
      split
      · simp only [sumB, joinB]; omega
      · simp only [sumB]

/-- each group tells of just those of its start -/
def ofB (l : List Bk) (s : Int) : List Bk := l.filter (fun b => decide (b.1 = s))
theorem ofB_none {l : List Bk} {s : Int} (h : ∀ b ∈ l, b.1 ≠ s) : ofB l s = [] := List.filter_eq_nil_iff.2 fun b hb => by simpa using h b hb
/-- joined all -/
def allB (b : Bk) (l : List Bk) : Bk := l.foldl joinB b
theorem foldl_join (a b : Bk) (l : List Bk) : l.foldl joinB (joinB a b) = joinB a (l.foldl joinB b) := by
  induction l generalizing b with
  | nil => rfl
  | cons q l ih => simp only [List.foldl_cons]; rw [joinB_assoc, ih]
theorem grp_of {l : List Bk} (h : UpB l) : ∀ b ∈ grp l, ∃ q r, ofB l b.1 = q :: r ∧ b = allB q r := by
  induction l with
  | nil => simp [grp]
  | cons a l ih =>
    obtain ⟨h1, h2⟩ := List.pairwise_cons.1 h
    have ih := ih h2
    have hasc := grp_asc h2
    have hs := grp_starts l
    intro b hb
    rw [grp_cons] at hb
    match hg : grp l with
    | [] =>
      rw [hg] at hb
      simp [addF] at hb
      subst hb
      have : l = [] := by
        cases l with
        | nil => rfl
        | cons x y => obtain ⟨q, r, e, _⟩ := grp_head x y; rw [e] at hg; cases hg
      subst this
      exact ⟨b, [], by simp [ofB], rfl⟩
    | q :: r =>
      rw [hg] at hb ih hasc hs
      obtain ⟨i1, i2⟩ := List.pairwise_cons.1 hasc
      simp only [addF] at hb
      by_cases he : a.1 = q.1
      · rw [if_pos he] at hb
        rcases List.mem_cons.1 hb with rfl | hb
        · obtain ⟨x, y, e1, e2⟩ := ih q (by simp)
          refine ⟨a, x :: y, ?_, ?_⟩
          · show ofB (a :: l) a.1 = _
            unfold ofB at e1 ⊢
            rw [List.filter_cons, if_pos (by simp), he, e1]
          · show joinB a q = (x :: y).foldl joinB a
            rw [e2, List.foldl_cons, foldl_join]
            rfl
        · obtain ⟨x, y, e1, e2⟩ := ih b (by simp [hb])
          refine ⟨x, y, ?_, e2⟩
          unfold ofB at e1 ⊢
          rw [List.filter_cons, if_neg (by have := i1 b hb; simp; omega), e1]
      · rw [if_neg he] at hb
        rcases List.mem_cons.1 hb with rfl | hb
        · refine ⟨b, [], ?_, rfl⟩
          have hn : ofB l b.1 = [] := ofB_none fun x hx e => by
            have hq : b.1 < q.1 := by
              obtain ⟨y, hy, e'⟩ := hs q (by simp)
              have := h1 y hy
              omega
            obtain ⟨m, hm⟩ : ∃ m, l = m := ⟨_, rfl⟩
            cases l with
            | nil => simp at hx
            | cons z zs =>
              obtain ⟨q', r', e1, e2⟩ := grp_head z zs
              rw [e1] at hg
              injection hg with hg1 hg2
              subst hg1
              have hz := (List.pairwise_cons.1 h2).1
              rcases List.mem_cons.1 hx with rfl | hx
              · omega
              · have := hz x hx; omega
          unfold ofB at hn ⊢
          rw [List.filter_cons, if_pos (by simp), hn]
        · obtain ⟨x, y, e1, e2⟩ := ih b hb
          refine ⟨x, y, ?_, e2⟩
          have hne : ¬ a.1 = b.1 := by
            have hq : a.1 < q.1 := by
              obtain ⟨y, hy, e'⟩ := hs q (by simp)
              have := h1 y hy
              omega
            rcases List.mem_cons.1 hb with rfl | hb
            · omega
            · have := i1 b hb; omega
          unfold ofB at e1 ⊢
          rw [List.filter_cons, if_neg (by simpa using hne), e1]
end Go.Proofs.Ytoncefhcabgaaaa
