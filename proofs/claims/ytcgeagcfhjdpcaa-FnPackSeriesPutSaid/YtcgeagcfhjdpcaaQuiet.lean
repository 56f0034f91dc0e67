/- A region that draws its order and whose operations read, compute and call functions that leave all that was there as it was: one walk in the order of the text. The class of worlds: all that have grown out of one world. -/
import Derived.Test.YtcgeagcfhjdpcaaWords
namespace Go.Proofs.Ytcgeagcfhjdpcaa
set_option linter.unusedVariables false
open Go.RowKit

/-- the worlds that have grown out of W -/
def GW (W : World) : Type := { w' : World // W.grownBy w' none }
instance (W : World) : Nonempty (GW W) := ⟨⟨W, g_refl _ _⟩⟩
theorem wp_region_gw {P : Program} {id : Nat} {Q : Exit → Act → World → Prop} {a : Act} {w : World} {l : List Oper} (W : World) (hm : P.follows .mixedOrders = true) (hB : Region.lexB .any l.toArray = true) (h0 : W.grownBy w none)
    (h : wpQuiet P l.toArray (fun w' => ∃ x : GW W, w' = x.1) (fun a' => ∀ w', (∃ x : GW W, w' = x.1) → Q .normal a' w') l a) : (Code.region id l.toArray true).wp P Q a w :=
  wp_region_quiet (C := fun w' => ∃ x : GW W, w' = x.1) hm hB ⟨⟨_, g_trans h0 (g_drew w none)⟩, rfl⟩ (by simpa using h)
theorem gw_call {P : Program} {f : FuncId} {args : Array Value} {W : World} {x : GW W} {v : Value} (h : Calls P f args x.1 fun e w' => e = .returned v ∧ x.1.grownBy w' none) :
    Calls P f args x.1 fun e w'' => e = .returned v ∧ ∃ y : GW W, w'' = y.1 :=
  h.mono fun _ w' ⟨he, hg⟩ => ⟨he, ⟨w', g_trans x.2 hg⟩, rfl⟩
theorem gw_same {P : Program} {f : FuncId} {args : Array Value} {W : World} {x : GW W} {v : Value} (h : Calls P f args x.1 fun e w' => e = .returned v ∧ x.1 = w') :
    Calls P f args x.1 fun e w'' => e = .returned v ∧ ∃ y : GW W, w'' = y.1 :=
  h.mono fun _ w' ⟨he, hg⟩ => ⟨he, x, hg.symm⟩

/-- the cells of a list of elements of m cells each -/
theorem flat_at {α : Type} (f : α → List Value) (m : Nat) (hf : ∀ a, (f a).length = m) (l : List α) (i : Nat) (a : α) (h : l[i]? = some a) (j : Nat) (hj : j < m) : (l.flatMap f)[i * m + j]? = (f a)[j]? := by
  induction l generalizing i with
  | nil => simp at h
  | cons b l ih =>
    cases i with
    | zero =>
      simp at h
      subst h
      rw [List.flatMap_cons, List.getElem?_append_left (by rw [hf]; omega)]
      simp
    | succ i =>
      simp at h
      have e : (i + 1) * m + j = m + (i * m + j) := by rw [Nat.add_mul]; omega
      rw [List.flatMap_cons, List.getElem?_append_right (by rw [hf, e]; omega), hf, e, Nat.add_sub_cancel_left]
      exact ih i h
theorem flat_len {α : Type} (f : α → List Value) (m : Nat) (hf : ∀ a, (f a).length = m) (l : List α) : (l.flatMap f).length = l.length * m := by
  induction l with
  | nil => simp
  | cons b l ih => rw [List.flatMap_cons, List.length_append, hf, ih, List.length_cons, Nat.add_mul]; omega
theorem flat_take {α : Type} (f : α → List Value) (m : Nat) (hf : ∀ a, (f a).length = m) (l : List α) (k : Nat) : (l.flatMap f).take (k * m) = (l.take k).flatMap f := by
  induction l generalizing k with
  | nil => simp
  | cons b l ih =>
    cases k with
    | zero => simp
    | succ k =>
      have e : (k + 1) * m = (f b).length + k * m := by rw [hf, Nat.add_mul]; omega
      rw [List.flatMap_cons, e, List.take_length_add_append, ih, List.take_succ_cons, List.flatMap_cons]
theorem flat_drop {α : Type} (f : α → List Value) (m : Nat) (hf : ∀ a, (f a).length = m) (l : List α) (k : Nat) : (l.flatMap f).drop (k * m) = (l.drop k).flatMap f := by
  induction l generalizing k with
  | nil => simp
  | cons b l ih =>
    cases k with
    | zero => simp
    | succ k =>
      have e : (k + 1) * m = (f b).length + k * m := by rw [hf, Nat.add_mul]; omega
      rw [List.flatMap_cons, e, List.drop_length_add_append, ih, List.drop_succ_cons]

/-- points: time, value -/
abbrev Pt := Int × Int
def pf (p : Pt) : List Value := [.int .i64 p.1, .int .i64 p.2]
def pc (l : List Pt) : List Value := l.flatMap pf
theorem pc_len (l : List Pt) : (pc l).length = l.length * 2 := flat_len pf 2 (fun _ => rfl) l
theorem pc_at {l : List Pt} {i : Nat} {t v : Int} (h : l[i]? = some (t, v)) : (pc l)[i * 2 + 0]? = some (.int .i64 t) ∧ (pc l)[i * 2 + 1]? = some (.int .i64 v) :=
  ⟨flat_at pf 2 (fun _ => rfl) l i _ h 0 (by omega), flat_at pf 2 (fun _ => rfl) l i _ h 1 (by omega)⟩
theorem pc_app (a b : List Pt) : pc (a ++ b) = pc a ++ pc b := List.flatMap_append
theorem pc_take (l : List Pt) (k : Nat) : (pc l).take (k * 2) = pc (l.take k) := flat_take pf 2 (fun _ => rfl) l k
theorem pc_drop (l : List Pt) (k : Nat) : (pc l).drop (k * 2) = pc (l.drop k) := flat_drop pf 2 (fun _ => rfl) l k
theorem pc_one (l : List Pt) : ∀ u ∈ pc l, u.oneCell' = true := by
  intro u hu
  obtain ⟨p, _, hp⟩ := List.mem_flatMap.1 hu
  simp [pf] at hp
  rcases hp with rfl | rfl <;> rfl
/-- buckets: start, count, sum, least, greatest -/
abbrev Bk := Int × Int × Int × Int × Int
def bf (b : Bk) : List Value := [.int .i64 b.1, .int .i64 b.2.1, .int .i64 b.2.2.1, .int .i64 b.2.2.2.1, .int .i64 b.2.2.2.2]
def bkc (l : List Bk) : List Value := l.flatMap bf
theorem bkc_len (l : List Bk) : (bkc l).length = l.length * 5 := flat_len bf 5 (fun _ => rfl) l
theorem bkc_at {l : List Bk} {i : Nat} {b : Bk} (h : l[i]? = some b) : (bkc l)[i * 5 + 0]? = some (.int .i64 b.1) ∧ (bkc l)[i * 5 + 1]? = some (.int .i64 b.2.1) ∧ (bkc l)[i * 5 + 2]? = some (.int .i64 b.2.2.1) ∧ (bkc l)[i * 5 + 3]? = some (.int .i64 b.2.2.2.1) ∧ (bkc l)[i * 5 + 4]? = some (.int .i64 b.2.2.2.2) :=
  ⟨flat_at bf 5 (fun _ => rfl) l i _ h 0 (by omega), flat_at bf 5 (fun _ => rfl) l i _ h 1 (by omega), flat_at bf 5 (fun _ => rfl) l i _ h 2 (by omega), flat_at bf 5 (fun _ => rfl) l i _ h 3 (by omega), flat_at bf 5 (fun _ => rfl) l i _ h 4 (by omega)⟩
theorem bkc_app (a b : List Bk) : bkc (a ++ b) = bkc a ++ bkc b := List.flatMap_append
theorem bkc_take (l : List Bk) (k : Nat) : (bkc l).take (k * 5) = bkc (l.take k) := flat_take bf 5 (fun _ => rfl) l k
theorem bkc_drop (l : List Bk) (k : Nat) : (bkc l).drop (k * 5) = bkc (l.drop k) := flat_drop bf 5 (fun _ => rfl) l k
theorem bkc_one (l : List Bk) : ∀ u ∈ bkc l, u.oneCell' = true := by
  intro u hu
  obtain ⟨p, _, hp⟩ := List.mem_flatMap.1 hu
  simp [bf] at hp
  rcases hp with rfl | rfl | rfl | rfl | rfl <;> rfl
end Go.Proofs.Ytcgeagcfhjdpcaa
