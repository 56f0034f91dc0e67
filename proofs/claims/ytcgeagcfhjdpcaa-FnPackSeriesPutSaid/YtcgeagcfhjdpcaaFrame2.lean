/- A slice of structs of ints, and a struct of ints by value, that came in: read as plain lists of numbers. -/
import Derived.Test.YtcgeagcfhjdpcaaFrame
import Derived.Test.YtcgeagcfhjdpcaaQuiet
import Derived.Deep.Slices
import Derived.Deep.Fields
namespace Go.Proofs.Ytcgeagcfhjdpcaa
set_option linter.unusedVariables false
open Go.ChangeShapes Go.WideShapes Go.ChangeAt Go.RowKit Go.Deep

section
variable {H : Type} {enc : TypeId × Value → H} {P : Program} {w : World} {base : Nat} {spare : Nat → Bool} {held : Bool}

/-- the cells of a struct all of whose fields are ints -/
theorem trod_ints {t : TypeId} {fs : Array Field} {fuel : Nat} {cs : List Value} {x : DataW H × List MemPlace} (ht : P.underlying t = some (.struct fs)) (hone : oneCellFields P fs = true) (hC : P.cellsOf t = fs.size)
    (hint : ∀ (j : Nat) (f : Field), fs[j]? = some f → P.underlying f.type = some (.int .i64)) (h : DataW.trod enc P w base spare held fuel t cs = some x) :
    ∃ ns : List Int, cs = ns.map (Value.int .i64) ∧ ns.length = fs.size ∧ ∀ n ∈ ns, (Lit.int .i64 n).wf = true := by
  obtain ⟨xs, n, _, _, hl, _, hf⟩ := DataW.trod_struct ht h
  rw [hC] at hl
  have key : ∀ j, j < fs.size → ∃ m : Int, cs[j]? = some (.int .i64 m) ∧ (Lit.int .i64 m).wf = true := by
    intro j hj
    have hfj : fs[j]? = some fs[j] := Array.getElem?_eq_getElem hj
    obtain ⟨ho, hk⟩ := hone_of hone j _ hfj
    have h1 := hf j _ hfj
    rw [ho, hk] at h1
    have hjl : j < cs.length := by omega
    have hone' : (cs.drop j).take 1 = [cs[j]] := by rw [List.drop_eq_getElem_cons hjl]; rfl
    rw [hone'] at h1
    cases hx : xs[j]? with
    | none =>
      have : j < xs.length := by omega
      rw [List.getElem?_eq_getElem this] at hx
      cases hx
    | some y =>
      rw [hx] at h1
      obtain ⟨m, hm, _, hw⟩ := DataW.trod_int (hint j _ hfj) h1
      injection hm with hm
      exact ⟨m, by rw [List.getElem?_eq_getElem hjl, hm], hw⟩
  have : ∀ k, k ≤ fs.size → ∃ ns : List Int, cs.take k = ns.map (Value.int .i64) ∧ ns.length = k ∧ ∀ n ∈ ns, (Lit.int .i64 n).wf = true := by
    intro k
    induction k with
    | zero => intro _; exact ⟨[], by simp, rfl, by simp⟩
    | succ k ih =>
      intro hk
      obtain ⟨ns, h1, h2, h3⟩ := ih (by omega)
      obtain ⟨m, hm, hw⟩ := key k (by omega)
      refine ⟨ns ++ [m], ?_, by simp [h2], ?_⟩
      · rw [List.take_add_one, h1, hm]; simp
      · intro n hn
        rcases List.mem_append.1 hn with hn | hn
        · exact h3 n hn
        · simp at hn; rw [hn]; exact hw
  obtain ⟨ns, h1, h2, h3⟩ := this fs.size (Nat.le_refl _)
  rw [List.take_of_length_le (by omega)] at h1
  exact ⟨ns, h1, h2, h3⟩

/-- a slice of such structs -/
theorem rd_structs {t e : TypeId} {fs : Array Field} {fuel : Nat} {A : Option Addr} {len cap m : Nat} {x : DataW H × List MemPlace} {α : Type} (f : α → List Value) (g : List Int → α) (ok : α → Prop)
    (hf : ∀ a, (f a).length = m) (hm : fs.size = m) (hg : ∀ ns : List Int, ns.length = m → (∀ n ∈ ns, (Lit.int .i64 n).wf = true) → f (g ns) = ns.map (Value.int .i64) ∧ ok (g ns)) (h0 : 0 < m)
    (ht : P.underlying t = some (.slice e)) (he : P.underlying e = some (.struct fs)) (hone : oneCellFields P fs = true) (hC : P.cellsOf e = fs.size)
    (hint : ∀ (j : Nat) (f : Field), fs[j]? = some f → P.underlying f.type = some (.int .i64)) (h : DataW.trod enc P w base spare held fuel t [.slice A len cap] = some x) :
    ∃ l : List α, Rd w m A len cap (l.flatMap f) ∧ ∀ a ∈ l, ok a := by
  subst hm
  rcases open_slice ht h with ⟨hcs, _⟩ | ⟨a, len', cap', mm, n, D, Pl, hcs, _, hl, hcm, hmm, _, hi⟩
  · simp at hcs
    obtain ⟨rfl, rfl, rfl⟩ := hcs
    exact ⟨[], Rd.nil_ _ _, by simp⟩
  · simp at hcs
    obtain ⟨rfl, rfl, rfl⟩ := hcs
    have hle : len ≤ mm := by rw [hmm]; split <;> omega
    have key : ∀ i, i < len → ∃ y : α, ok y ∧ ∀ j, j < fs.size → w.cell? (a.add (i * fs.size + j)) = (f y)[j]? := by
      intro i hil
      obtain ⟨cs', h1, h2⟩ := hi i (by omega)
      obtain ⟨ns, e1, e2, e3⟩ := trod_ints he hone hC hint h2
      obtain ⟨g1, g2⟩ := hg ns e2 e3
      obtain ⟨_, _, h4⟩ := World.cells?_some h1
      refine ⟨g ns, g2, fun j hj => ?_⟩
      have := h4 j (by omega)
      rw [hC, Go.Deep.add_add] at this
      rw [this, g1, ← e1]
    have all : ∀ k, k ≤ len → ∃ l : List α, l.length = k ∧ (∀ y ∈ l, ok y) ∧ ∀ j u, (l.flatMap f)[j]? = some u → w.cell? (a.add j) = some u := by
      intro k
      induction k with
      | zero => intro _; exact ⟨[], rfl, by simp, by simp⟩
      | succ k ih =>
        intro hk
        obtain ⟨l, h1, h2, h3⟩ := ih (by omega)
        obtain ⟨y, k1, k2⟩ := key k (by omega)
        have hlf : (l.flatMap f).length = k * fs.size := by rw [flat_len f fs.size hf, h1]
        refine ⟨l ++ [y], by simp [h1], ?_, ?_⟩
        · intro z hz
          rcases List.mem_append.1 hz with hz | hz
          · exact h2 z hz
          · simp at hz; rw [hz]; exact k1
        · intro j u hu
          rw [List.flatMap_append] at hu
          rcases Nat.lt_or_ge j (k * fs.size) with hj | hj
          · rw [List.getElem?_append_left (by omega)] at hu
            exact h3 j u hu
          · rw [List.getElem?_append_right (by omega), hlf] at hu
            simp only [List.flatMap_cons, List.flatMap_nil, List.append_nil] at hu
            have hj2 : j - k * fs.size < fs.size := by
              have := (List.getElem?_eq_some_iff.1 hu).1
              rw [hf] at this
              exact this
            have := k2 (j - k * fs.size) hj2
            rw [show k * fs.size + (j - k * fs.size) = j by omega] at this
            rw [this, hu]
    obtain ⟨l, h1, h2, h3⟩ := all len (Nat.le_refl _)
    refine ⟨l, ⟨by rw [flat_len f fs.size hf, h1], hl, by simp only [maxLen] at hcm; omega, by simp, fun hn => ?_⟩, h2⟩
    obtain ⟨y, _, k2⟩ := key 0 hn
    have hy : 0 < (f y).length := by rw [hf]; exact h0
    have hc0 : w.cell? (a.add 0) = some (f y)[0] := by
      have := k2 0 h0
      simp only [Nat.zero_mul, Nat.zero_add] at this
      rw [this, List.getElem?_eq_getElem hy]
    obtain ⟨b, o, s⟩ := a
    have hs : s = none := by simpa [Addr.add] using World.cell?_spot hc0
    subst hs
    exact ⟨b, o, rfl, fun j u hu => by rw [← add_lit']; exact h3 j u hu⟩
end

/-- all fields of a struct are ints: a closed fact -/
def allInt (P : Program) (fs : Array Field) : Bool := (List.range fs.size).all fun j => match fs[j]? with
  | some f => (match P.underlying f.type with | some (.int .i64) => true | _ => false)
  | none => true
theorem all_int {P : Program} {fs : Array Field} (h : allInt P fs = true) : ∀ (j : Nat) (f : Field), fs[j]? = some f → P.underlying f.type = some (.int .i64) := by
  intro j f hj
  have hlt : j < fs.size := (Array.getElem?_eq_some_iff.1 hj).1
  have := List.all_eq_true.1 h j (List.mem_range.2 hlt)
  simp only [hj] at this
  split at this
  · assumption
  · cases this

/-- a point that fits -/
def inP (p : Pt) : Prop := (-9223372036854775808 ≤ p.1 ∧ p.1 ≤ 9223372036854775807) ∧ (-9223372036854775808 ≤ p.2 ∧ p.2 ≤ 9223372036854775807)
def mkP (ns : List Int) : Pt := (ns[0]?.getD 0, ns[1]?.getD 0)
theorem mkP_ok (ns : List Int) (h : ns.length = 2) (hw : ∀ n ∈ ns, (Lit.int .i64 n).wf = true) : pf (mkP ns) = ns.map (Value.int .i64) ∧ inP (mkP ns) := by
  match ns, h with
  | [a, b], _ => exact ⟨rfl, bounds_i64 (hw a (by simp)), bounds_i64 (hw b (by simp))⟩

def inB (b : Bk) : Prop := (-9223372036854775808 ≤ b.1 ∧ b.1 ≤ 9223372036854775807) ∧ (-9223372036854775808 ≤ b.2.1 ∧ b.2.1 ≤ 9223372036854775807) ∧ (-9223372036854775808 ≤ b.2.2.1 ∧ b.2.2.1 ≤ 9223372036854775807) ∧ (-9223372036854775808 ≤ b.2.2.2.1 ∧ b.2.2.2.1 ≤ 9223372036854775807) ∧ (-9223372036854775808 ≤ b.2.2.2.2 ∧ b.2.2.2.2 ≤ 9223372036854775807)
def mkB5 (ns : List Int) : Bk := (ns[0]?.getD 0, ns[1]?.getD 0, ns[2]?.getD 0, ns[3]?.getD 0, ns[4]?.getD 0)
theorem mkB5_ok (ns : List Int) (h : ns.length = 5) (hw : ∀ n ∈ ns, (Lit.int .i64 n).wf = true) : bf (mkB5 ns) = ns.map (Value.int .i64) ∧ inB (mkB5 ns) := by
  match ns, h with
  | [a, b, c, d, e], _ => exact ⟨rfl, bounds_i64 (hw a (by simp)), bounds_i64 (hw b (by simp)), bounds_i64 (hw c (by simp)), bounds_i64 (hw d (by simp)), bounds_i64 (hw e (by simp))⟩
end Go.Proofs.Ytcgeagcfhjdpcaa
