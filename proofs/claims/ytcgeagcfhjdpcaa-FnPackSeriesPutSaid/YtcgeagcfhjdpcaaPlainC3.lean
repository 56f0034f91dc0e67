/- Plain laws of the walks of packing and unpacking: one step more. -/
import Derived.Test.YtcgeagcfhjdpcaaPlainC2
namespace Go.Proofs.Ytcgeagcfhjdpcaa
set_option linter.unusedVariables false
open Go.RowKit

theorem del_at {p : Int} {l : List Int} {k : Nat} {x : Int} (hx : l[k]? = some x) : (delL p l)[k]? = some (x - lastN p (l.take k)) := by
  induction l generalizing p k with
  | nil => simp at hx
  | cons m r ih =>
    simp only [delL]
    cases k with
    | zero =>
      simp at hx
      subst hx
      simp [lastN]
    | succ k =>
      simp at hx
      simp only [List.getElem?_cons_succ, List.take_succ_cons, lastN]
      exact ih hx
theorem zip_at {α β : Type} {a : List α} {b : List β} {k : Nat} {x : α} {y : β} (hx : a[k]? = some x) (hy : b[k]? = some y) : (a.zip b)[k]? = some (x, y) := by
  induction a generalizing b k with
  | nil => simp at hx
  | cons u a ih =>
    cases b with
    | nil => simp at hy
    | cons v b =>
      cases k with
      | zero => simp at hx hy; simp [hx, hy]
      | succ k => simp at hx hy; simp only [List.zip_cons_cons, List.getElem?_cons_succ]; exact ih hx hy
/-- the value before the k-th point -/
def beforeV (l : List Pt) (k : Nat) : Int := lastN 0 (valsL (l.take k))
theorem before_zero (l : List Pt) : beforeV l 0 = 0 := rfl
theorem before_step {l : List Pt} {k : Nat} {t v : Int} (h : l[k]? = some (t, v)) : beforeV l (k + 1) = v := by
  unfold beforeV valsL
  rw [take_get h, List.map_append]
  exact last_snoc 0 _ v
theorem before_bd {l : List Pt} (h : smallP l) (k : Nat) : -1000 ≤ beforeV l k ∧ beforeV l k ≤ 1000 := by
  unfold beforeV
  refine last_bd (B := 1000) (by omega) fun n hn => vals_bd h n ?_
  unfold valsL at hn ⊢
  obtain ⟨p, hp, rfl⟩ := List.mem_map.1 hn
  exact List.mem_map_of_mem (List.mem_of_mem_take hp)
theorem pairs_at {l : List Pt} {k : Nat} {t v a : Int} (h : l[k]? = some (t, v)) (ha : (stepsL l)[k]? = some a) : (pairsL l)[k]? = some (a, v - beforeV l k) := by
  unfold pairsL
  refine zip_at ha ?_
  have hv : (valsL l)[k]? = some v := by unfold valsL; rw [List.getElem?_map, h]; rfl
  have := del_at (p := 0) hv
  unfold beforeV
  rw [this]
  unfold valsL
  rw [List.map_take]
/-- what is packed of the first k points -/
def packK (l : List Pt) (k : Nat) : List Int := (l.length : Int) :: packR ((pairsL l).take k)
theorem packK_zero (l : List Pt) : packK l 0 = [(l.length : Int)] := rfl
theorem packK_step {l : List Pt} {k : Nat} {t v a : Int} (h : l[k]? = some (t, v)) (ha : (stepsL l)[k]? = some a) : packK l (k + 1) = packK l k ++ putL (zigL a) ++ putL (zigL (v - beforeV l k)) := by
  unfold packK
  rw [take_get (pairs_at h ha), packR_snoc]
  simp
theorem packK_all {l : List Pt} {k : Nat} (h : l.length ≤ k) : packK l k = packL l := by
  unfold packK packL
  rw [List.take_of_length_le (by rw [pairs_len]; exact h)]
theorem packK_len (l : List Pt) (k : Nat) : 1 ≤ (packK l k).length ∧ (packK l k).length ≤ 1 + 6 * l.length := by
  unfold packK
  have h1 := packR_len ((pairsL l).take k)
  have h2 : ((pairsL l).take k).length ≤ l.length := by rw [List.length_take, pairs_len]; omega
  rw [List.length_cons]
  omega
theorem packL_by {l : List Pt} (h : smallP l) (hl : l.length ≤ 16) : By (packL l) := by
  unfold packL
  intro x hx
  rcases List.mem_cons.1 hx with rfl | hx
  · omega
  · exact packR_by (pairs_ok h) x hx

/-! reading -/
/-- the number at the beginning of bytes, how many bytes it has, and whether it is there -/
def gz3 (l : List Int) : Int × Int × Bool := if 0 < (getV l).2 then (unzL (getV l).1, (getV l).2, true) else (0, 0, false)
theorem gz3_none {l : List Int} (h : getZ l = none) : gz3 l = (0, 0, false) := by
  unfold getZ at h
  unfold gz3
  split at h
  · cases h
  · rename_i hp
    rw [if_neg hp]
theorem gz3_some {l r : List Int} {a : Int} (hb : By l) (h : getZ l = some (a, r)) : ∃ k : Nat, gz3 l = (a, (k : Int), true) ∧ r = l.drop k ∧ 1 ≤ k ∧ k ≤ l.length ∧ k ≤ 3 := by
  unfold getZ at h
  split at h
  · rename_i hp
    obtain ⟨k, hk, k1, k3, kl, -⟩ := getV_yes hb hp
    rw [hk] at h
    simp at h
    obtain ⟨rfl, rfl⟩ := h
    refine ⟨k, ?_, rfl, k1, kl, k3⟩
    unfold gz3
    rw [if_pos hp, hk]
  · cases h
theorem unzip_snoc (ps : List (Int × Int)) (a b : Int) : unzipL (ps ++ [(a, b)]) = unzipL ps ++ [(totN (sumL 0 (ps.map (·.1))) + (totN (ps.map (·.1)) + a), totN (ps.map (·.2)) + b)] := by
  unfold unzipL
  rw [List.map_append, List.map_append, List.map_singleton, List.map_singleton, sum_snoc, sum_snoc, sum_snoc, List.zip_append (by rw [sum_len, sum_len, sum_len, List.length_map, List.length_map])]
  simp
theorem tot_map_snoc1 (ps : List (Int × Int)) (a b : Int) : totN ((ps ++ [(a, b)]).map (·.1)) = totN (ps.map (·.1)) + a := by rw [List.map_append, List.map_singleton, tot_snoc]
theorem tot_map_snoc2 (ps : List (Int × Int)) (a b : Int) : totN ((ps ++ [(a, b)]).map (·.2)) = totN (ps.map (·.2)) + b := by rw [List.map_append, List.map_singleton, tot_snoc]
theorem tot_sum_snoc (ps : List (Int × Int)) (a b : Int) : totN (sumL 0 ((ps ++ [(a, b)]).map (·.1))) = totN (sumL 0 (ps.map (·.1))) + (totN (ps.map (·.1)) + a) := by
  rw [List.map_append, List.map_singleton, sum_snoc, tot_snoc]
  omega
/-- sums of few pairs are not large -/
theorem pairs_bd {ps : List (Int × Int)} (h : okPairs ps) (hl : ps.length ≤ 16) : (-1600000 ≤ totN (ps.map (·.1)) ∧ totN (ps.map (·.1)) ≤ 1600000) ∧ (-1600000 ≤ totN (ps.map (·.2)) ∧ totN (ps.map (·.2)) ≤ 1600000) ∧ (-27200000 ≤ totN (sumL 0 (ps.map (·.1))) ∧ totN (sumL 0 (ps.map (·.1))) ≤ 27200000) := by
  have f1 : ∀ n ∈ ps.map (·.1), -100000 ≤ n ∧ n ≤ 100000 := by
    intro n hn
    obtain ⟨q, hq, rfl⟩ := List.mem_map.1 hn
    exact (h q hq).1
  have f2 : ∀ n ∈ ps.map (·.2), -100000 ≤ n ∧ n ≤ 100000 := by
    intro n hn
    obtain ⟨q, hq, rfl⟩ := List.mem_map.1 hn
    exact (h q hq).2
  have b1 := tot_bd f1
  have b2 := tot_bd f2
  have f3 := sum_bd2 (B := 100000) (by omega) f1 (by rw [List.length_map]; omega)
  have b3 := tot_bd (B := 1700000) (fun n hn => by have := f3 n hn; omega)
  rw [List.length_map] at b1 b2
  rw [sum_len, List.length_map] at b3
  omega
theorem okPairs_snoc {ps : List (Int × Int)} {a b : Int} (h : okPairs ps) (ha : -100000 ≤ a ∧ a ≤ 100000) (hb : -100000 ≤ b ∧ b ≤ 100000) : okPairs (ps ++ [(a, b)]) := by
  intro q hq
  rcases List.mem_append.1 hq with hq | hq
  · exact h q hq
  · simp at hq
    subst hq
    exact ⟨ha, hb⟩
theorem fineU_yes {ps : List (Int × Int)} (h : validL (unzipL ps) = true) : fineU (some (ps, [])) = some (unzipL ps) := by
  simp only [fineU, h, if_true]
theorem fineU_bad {ps : List (Int × Int)} (h : validL (unzipL ps) = false) : fineU (some (ps, [])) = none := by
  simp only [fineU, h, Bool.false_eq_true, if_false]
theorem fineU_more {ps : List (Int × Int)} {r : List Int} (h : 0 < r.length) : fineU (some (ps, r)) = none := by
  cases r with
  | nil => simp at h
  | cons x r => rfl
theorem unp_out {b : List Int} (hb : By b) (h : 97 < b.length) : unpO b = none := by
  cases hu : unpO b with
  | none => rfl
  | some l =>
    obtain ⟨hv, e⟩ := pack_unp hb hu
    have h1 := packL_len l
    have h2 := ((validL_iff l).1 hv).1
    rw [e] at h1
    omega
theorem unpO_cons (c : Int) (r : List Int) : unpO (c :: r) = if 16 < c then none else fineU (readP c.toNat r) := rfl
theorem unpV_none {b : List Int} (h : unpO b = none) : unpV b = ([], false) := by unfold unpV; rw [h]
theorem unpV_some {b : List Int} {l : List Pt} (h : unpO b = some l) : unpV b = (l, true) := by unfold unpV; rw [h]
theorem readP_len {k : Nat} {l r : List Int} {ps : List (Int × Int)} (hb : By l) (h : readP k l = some (ps, r)) : ps.length = k := (readP_inv hb h).1
end Go.Proofs.Ytcgeagcfhjdpcaa
