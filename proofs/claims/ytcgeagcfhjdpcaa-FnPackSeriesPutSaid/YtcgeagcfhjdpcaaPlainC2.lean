/- Plain laws of the statements on differences and packed series. -/
import Derived.Test.YtcgeagcfhjdpcaaPlainC
namespace Go.Proofs.Ytcgeagcfhjdpcaa
set_option linter.unusedVariables false
open Go.RowKit

theorem steps_get {l : List Pt} {k : Nat} {a b c : Pt} (h0 : l[k]? = some a) (h1 : l[k + 1]? = some b) (h2 : l[k + 1 + 1]? = some c) : (stepsL l)[k + 1 + 1]? = some ((c.1 - b.1) - (b.1 - a.1)) := by
  have e0 : (timesL l)[k]? = some a.1 := by unfold timesL; rw [List.getElem?_map, h0]; rfl
  have e1 : (timesL l)[k + 1]? = some b.1 := by unfold timesL; rw [List.getElem?_map, h1]; rfl
  have e2 : (timesL l)[k + 1 + 1]? = some c.1 := by unfold timesL; rw [List.getElem?_map, h2]; rfl
  exact del_get (del_get e0 e1) (del_get e1 e2)
theorem steps_first {l : List Pt} {a : Pt} (h0 : l[0]? = some a) : (stepsL l)[0]? = some a.1 := by
  unfold stepsL timesL
  rw [del_first, del_first, List.getElem?_map, h0]
  rfl
theorem back_times {l : List Pt} (h : validL l = true) : sumX (sumX (stepsL l)) = timesL l := by
  have hs := valid_small h
  have hl := ((validL_iff l).1 h).1
  have h1 : okN (stepsL l) = true := okN_iff.2 ⟨by rw [steps_len]; exact hl, fun n hn => by have := steps_bd hs n hn; omega⟩
  have h2 : okN (delL 0 (timesL l)) = true := okN_iff.2 ⟨by unfold timesL; rw [del_len, List.length_map]; exact hl, fun n hn => by have := dtimes_bd hs n hn; omega⟩
  rw [sumX_yes h1]
  unfold stepsL
  rw [sum_del, sumX_yes h2, sum_del]
/-- without the last point -/
theorem pack_put {l : List Pt} {k : Nat} (h : l.length = k + 1) : ∃ m, packL l = ((k : Int) + 1) :: (packR (pairsL (l.take k)) ++ m) ∧ 2 ≤ m.length ∧ packL (l.take k) = (k : Int) :: packR (pairsL (l.take k)) := by
  have hp := pairs_len l
  have hk : k < (pairsL l).length := by omega
  have e : pairsL l = pairsL (l.take k) ++ [(pairsL l)[k]] := by
    rw [← pairs_take, ← take_get (List.getElem?_eq_getElem hk), List.take_of_length_le (by omega)]
  refine ⟨putL (zigL (pairsL l)[k].1) ++ putL (zigL (pairsL l)[k].2), ?_, ?_, ?_⟩
  · unfold packL
    rw [h]
    conv => lhs; rw [e, packR_snoc]
    rw [List.append_assoc]
    simp
  · have h1 := @putL_len (zigL (pairsL l)[k].1)
    have h2 := @putL_len (zigL (pairsL l)[k].2)
    rw [List.length_append]
    omega
  · unfold packL
    rw [List.length_take, Nat.min_eq_left (by omega)]
def evenL : Nat → List Pt
  | 0 => []
  | k + 1 => evenL k ++ [(10 * (k : Int), 5)]
theorem even_len (k : Nat) : (evenL k).length = k := by
  induction k with
  | zero => rfl
  | succ k ih => rw [evenL, List.length_append, ih]; rfl
theorem even_all : ∀ k : Fin 17, sizeV (evenL k.1) = 1 + 2 * (k.1 : Int) := by decide +kernel
theorem even_size {k : Nat} (h : k ≤ 16) : sizeV (evenL k) = 1 + 2 * (k : Int) := even_all ⟨k, by omega⟩
theorem del_fine {l : List Int} (h : okN l = true) (h2 : okN (delL 0 l) = true) : sumX (delL 0 l) = l := by rw [sumX_yes h2, sum_del]
theorem sum_fine {l : List Int} (h : okN l = true) (h2 : okN (sumL 0 l) = true) : delV (sumL 0 l) = l := by rw [delV_yes h2, del_sum]
theorem okN_take {l : List Int} (h : okN l = true) (k : Nat) : okN (l.take k) = true := by
  obtain ⟨h1, h2⟩ := okN_iff.1 h
  exact okN_iff.2 ⟨by rw [List.length_take]; omega, fun n hn => h2 n (List.mem_of_mem_take hn)⟩
theorem okN_moved {l : List Int} (h : okN l = true) (h2 : ∀ n ∈ l, n ≠ 100000) : okN (l.map (· + 1)) = true := by
  obtain ⟨h1, h3⟩ := okN_iff.1 h
  refine okN_iff.2 ⟨by rw [List.length_map]; exact h1, fun n hn => ?_⟩
  obtain ⟨m, hm, rfl⟩ := List.mem_map.1 hn
  have := h3 m hm
  have := h2 m hm
  omega
theorem sum_pre {l : List Int} (h : okN l = true) (k : Nat) : sumX (l.take k) = (sumL 0 l).take k := by rw [sumX_yes (okN_take h k), sum_take]
end Go.Proofs.Ytcgeagcfhjdpcaa
