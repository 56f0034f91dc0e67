/- Plain laws of differences, sums and packed series. No program is named here, but for the readers. -/
import Derived.Test.YtcgeagcfhjdpcaaGet
import Derived.Test.YtcgeagcfhjdpcaaSer
namespace Go.Proofs.Ytcgeagcfhjdpcaa
set_option linter.unusedVariables false
open Go.RowKit

def okN (l : List Int) : Bool := decide (l.length ≤ 16) && l.all (fun n => decide (-100000 ≤ n) && decide (n ≤ 100000))
theorem okN_iff {l : List Int} : okN l = true ↔ l.length ≤ 16 ∧ ∀ n ∈ l, -100000 ≤ n ∧ n ≤ 100000 := by
  unfold okN
  simp [List.all_eq_true]
/-- the first number and all differences -/
def delL (p : Int) : List Int → List Int
  | [] => []
  | n :: r => (n - p) :: delL n r
/-- the sums of all beginnings -/
def sumL (p : Int) : List Int → List Int
  | [] => []
  | n :: r => (p + n) :: sumL (p + n) r
def totN : List Int → Int
  | [] => 0
  | n :: r => n + totN r
def lastN (p : Int) : List Int → Int
  | [] => p
  | n :: r => lastN n r
def delV (l : List Int) : List Int := if okN l then delL 0 l else []
def sumX (l : List Int) : List Int := if okN l then sumL 0 l else []
theorem delV_yes {l : List Int} (h : okN l = true) : delV l = delL 0 l := if_pos h
theorem delV_no {l : List Int} (h : okN l = false) : delV l = [] := if_neg (by rw [h]; simp)
theorem sumX_yes {l : List Int} (h : okN l = true) : sumX l = sumL 0 l := if_pos h
theorem sumX_no {l : List Int} (h : okN l = false) : sumX l = [] := if_neg (by rw [h]; simp)
theorem del_len (p : Int) (l : List Int) : (delL p l).length = l.length := by
  induction l generalizing p with
  | nil => rfl
  | cons n r ih => simp only [delL, List.length_cons, ih]
theorem sum_len (p : Int) (l : List Int) : (sumL p l).length = l.length := by
  induction l generalizing p with
  | nil => rfl
  | cons n r ih => simp only [sumL, List.length_cons, ih]
theorem sum_del (p : Int) (l : List Int) : sumL p (delL p l) = l := by
  induction l generalizing p with
  | nil => rfl
  | cons n r ih =>
    simp only [delL, sumL]
    rw [show p + (n - p) = n by omega, ih]
theorem del_sum (p : Int) (l : List Int) : delL p (sumL p l) = l := by
  induction l generalizing p with
  | nil => rfl
  | cons n r ih =>
    simp only [delL, sumL]
    rw [show p + n - p = n by omega, ih]
theorem del_snoc (p : Int) (l : List Int) (n : Int) : delL p (l ++ [n]) = delL p l ++ [n - lastN p l] := by
  induction l generalizing p with
  | nil => rfl
  | cons m r ih => simp only [List.cons_append, delL, lastN, ih]
theorem last_snoc (p : Int) (l : List Int) (n : Int) : lastN p (l ++ [n]) = n := by
  induction l generalizing p with
  | nil => rfl
  | cons m r ih => simp only [List.cons_append, lastN, ih]
theorem sum_snoc (p : Int) (l : List Int) (n : Int) : sumL p (l ++ [n]) = sumL p l ++ [p + totN l + n] := by
  induction l generalizing p with
  | nil => simp [sumL, totN]
  | cons m r ih =>
    simp only [List.cons_append, sumL, totN, ih]
    rw [show p + m + totN r + n = p + (m + totN r) + n by omega]
theorem tot_snoc (l : List Int) (n : Int) : totN (l ++ [n]) = totN l + n := by
  induction l with
  | nil => simp [totN]
  | cons m r ih => simp only [List.cons_append, totN, ih]; omega
theorem tot_bd {B : Int} {l : List Int} (h : ∀ n ∈ l, -B ≤ n ∧ n ≤ B) : -(B * (l.length : Int)) ≤ totN l ∧ totN l ≤ B * (l.length : Int) := by
  induction l with
  | nil => simp [totN]
  | cons m r ih =>
    have h0 := ih (fun n hn => h n (List.mem_cons_of_mem _ hn))
    have h1 := h m List.mem_cons_self
    have e : B * ((m :: r).length : Int) = B * (r.length : Int) + B := by
      rw [List.length_cons, Int.natCast_add, Int.mul_add]
      simp
    rw [e]
    simp only [totN]
    omega
theorem last_bd {B p : Int} {l : List Int} (hp : -B ≤ p ∧ p ≤ B) (h : ∀ n ∈ l, -B ≤ n ∧ n ≤ B) : -B ≤ lastN p l ∧ lastN p l ≤ B := by
  induction l generalizing p with
  | nil => exact hp
  | cons m r ih => exact ih (h m List.mem_cons_self) (fun n hn => h n (List.mem_cons_of_mem _ hn))
theorem del_bd {B p : Int} {l : List Int} (hp : -B ≤ p ∧ p ≤ B) (h : ∀ n ∈ l, -B ≤ n ∧ n ≤ B) : ∀ n ∈ delL p l, -(2 * B) ≤ n ∧ n ≤ 2 * B := by
  induction l generalizing p with
  | nil => simp [delL]
  | cons m r ih =>
    have hm := h m List.mem_cons_self
    intro n hn
    simp only [delL] at hn
    rcases List.mem_cons.1 hn with rfl | hn
    · omega
    · exact ih hm (fun n hn => h n (List.mem_cons_of_mem _ hn)) n hn
theorem sum_take (p : Int) (l : List Int) (k : Nat) : (sumL p l).take k = sumL p (l.take k) := by
  induction l generalizing p k with
  | nil => simp [sumL]
  | cons m r ih =>
    cases k with
    | zero => rfl
    | succ k => simp only [sumL, List.take_succ_cons, ih]
theorem del_take (p : Int) (l : List Int) (k : Nat) : (delL p l).take k = delL p (l.take k) := by
  induction l generalizing p k with
  | nil => simp [delL]
  | cons m r ih =>
    cases k with
    | zero => rfl
    | succ k => simp only [delL, List.take_succ_cons, ih]
theorem sum_bd2 {B : Int} {l : List Int} (hB : 0 ≤ B) (h : ∀ n ∈ l, -B ≤ n ∧ n ≤ B) (hl : l.length ≤ 17) : ∀ n ∈ sumL 0 l, -(17 * B) ≤ n ∧ n ≤ 17 * B := by
  intro n hn
  obtain ⟨k, hk⟩ := List.mem_iff_getElem?.1 hn
  obtain ⟨hk1, hk2⟩ := List.getElem?_eq_some_iff.1 hk
  rw [sum_len] at hk1
  have hx : l[k]? = some l[k] := List.getElem?_eq_getElem hk1
  have e := sum_take 0 l (k + 1)
  rw [take_get hx, sum_snoc] at e
  have e2 : ((sumL 0 l).take (k + 1))[k]? = some n := by rw [List.getElem?_take_of_lt (by omega)]; exact hk
  rw [e, List.getElem?_append_right (by rw [sum_len, List.length_take]; omega)] at e2
  rw [sum_len, List.length_take, show k - min k l.length = 0 by omega] at e2
  simp at e2
  have hb := tot_bd (l := l.take (k + 1)) (fun n hn => h n (List.mem_of_mem_take hn))
  rw [take_get hx, tot_snoc] at hb
  have hlen : ((l.take k ++ [l[k]]).length : Int) = k + 1 := by rw [List.length_append, List.length_take]; simp; omega
  rw [hlen] at hb
  have hm : B * ((k : Int) + 1) ≤ B * 17 := Int.mul_le_mul_of_nonneg_left (by omega) hB
  omega
/-- two numbers beside one another -/
theorem del_get {p : Int} {l : List Int} {k : Nat} {x y : Int} (hx : l[k]? = some x) (hy : l[k + 1]? = some y) : (delL p l)[k + 1]? = some (y - x) := by
  induction l generalizing p k with
  | nil => simp at hx
  | cons m r ih =>
    simp only [delL]
    cases k with
    | zero =>
      simp at hx hy
      subst hx
      cases r with
      | nil => simp at hy
      | cons z r =>
        simp at hy
        subst hy
        simp [delL]
    | succ k =>
      simp at hx hy
      simp only [List.getElem?_cons_succ]
      exact ih hx hy
theorem del_first (l : List Int) : (delL 0 l)[0]? = l[0]? := by
  cases l with
  | nil => rfl
  | cons n r => simp [delL]
theorem del_move (p c : Int) (l : List Int) : delL (p + c) (l.map (· + c)) = delL p l := by
  induction l generalizing p with
  | nil => rfl
  | cons n r ih =>
    simp only [List.map_cons, delL, ih]
    rw [show n + c - (p + c) = n - p by omega]
theorem del_moved {n : Int} {r : List Int} : delL 0 ((n :: r).map (· + 1)) = (n + 1) :: delL n r := by
  simp only [List.map_cons, delL]
  rw [del_move n 1 r, Int.sub_zero]
theorem sum_last {l : List Int} (h : l ≠ []) : (sumL 0 l)[l.length - 1]? = some (totN l) := by
  obtain ⟨m, x, rfl⟩ : ∃ m x, l = m ++ [x] := ⟨l.dropLast, l.getLast h, (List.dropLast_concat_getLast h).symm⟩
  rw [sum_snoc, tot_snoc, List.getElem?_append_right (by rw [sum_len]; simp), sum_len]
  simp

/-! series -/
def timesL (l : List Pt) : List Int := l.map (·.1)
def valsL (l : List Pt) : List Int := l.map (·.2)
def stepsL (l : List Pt) : List Int := delL 0 (delL 0 (timesL l))
def stepsV (l : List Pt) : List Int := if validL l then stepsL l else []
theorem stepsV_yes {l : List Pt} (h : validL l = true) : stepsV l = stepsL l := if_pos h
theorem stepsV_no {l : List Pt} (h : validL l = false) : stepsV l = [] := if_neg (by rw [h]; simp)
theorem steps_len (l : List Pt) : (stepsL l).length = l.length := by unfold stepsL timesL; rw [del_len, del_len, List.length_map]
theorem dvals_len (l : List Pt) : (delL 0 (valsL l)).length = l.length := by unfold valsL; rw [del_len, List.length_map]
theorem steps_take (l : List Pt) (k : Nat) : (stepsL l).take k = stepsL (l.take k) := by
  unfold stepsL timesL
  rw [del_take, del_take, List.map_take]
theorem dvals_take (l : List Pt) (k : Nat) : (delL 0 (valsL l)).take k = delL 0 (valsL (l.take k)) := by
  unfold valsL
  rw [del_take, List.map_take]
/-- times and values that are not large -/
def smallP (l : List Pt) : Prop := ∀ p ∈ l, (0 ≤ p.1 ∧ p.1 ≤ 1000) ∧ (-1000 ≤ p.2 ∧ p.2 ≤ 1000)
theorem valid_small {l : List Pt} (h : validL l = true) : smallP l := fun p hp => by have := ((validL_iff l).1 h).2.1 p hp; omega
theorem times_bd {l : List Pt} (h : smallP l) : ∀ n ∈ timesL l, -1000 ≤ n ∧ n ≤ 1000 := by
  intro n hn
  obtain ⟨p, hp, rfl⟩ := List.mem_map.1 hn
  have := h p hp
  omega
theorem vals_bd {l : List Pt} (h : smallP l) : ∀ n ∈ valsL l, -1000 ≤ n ∧ n ≤ 1000 := by
  intro n hn
  obtain ⟨p, hp, rfl⟩ := List.mem_map.1 hn
  have := h p hp
  omega
theorem dtimes_bd {l : List Pt} (h : smallP l) : ∀ n ∈ delL 0 (timesL l), -2000 ≤ n ∧ n ≤ 2000 := fun n hn => by
  have := del_bd (B := 1000) (p := 0) (by omega) (times_bd h) n hn
  omega
theorem steps_bd {l : List Pt} (h : smallP l) : ∀ n ∈ stepsL l, -4000 ≤ n ∧ n ≤ 4000 := fun n hn => by
  have := del_bd (B := 2000) (p := 0) (by omega) (dtimes_bd h) n hn
  omega
theorem dvals_bd {l : List Pt} (h : smallP l) : ∀ n ∈ delL 0 (valsL l), -2000 ≤ n ∧ n ≤ 2000 := fun n hn => by
  have := del_bd (B := 1000) (p := 0) (by omega) (vals_bd h) n hn
  omega

/-! zigzag and back -/
theorem zig_bd {n : Int} (h : -100000 ≤ n ∧ n ≤ 100000) : 0 ≤ zigL n ∧ zigL n ≤ 200000 := by
  unfold zigL
  rw [if_neg (by omega)]
  split <;> omega
theorem zig_bd2 {n : Int} (h : -4000 ≤ n ∧ n ≤ 4000) : 0 ≤ zigL n ∧ zigL n ≤ 8000 := by
  unfold zigL
  rw [if_neg (by omega)]
  split <;> omega
theorem unz_zig {n : Int} (h : -100000 ≤ n ∧ n ≤ 100000) : unzL (zigL n) = n := by
  by_cases h0 : 0 ≤ n
  · rw [zig_pos h0 h.2]
    unfold unzL
    rw [if_pos (by omega)]
    omega
  · rw [zig_neg (by omega) h.1]
    unfold unzL
    rw [if_neg (by omega)]
    omega
theorem unz_bd {z : Int} (h : 0 ≤ z ∧ z ≤ 200000) : -100000 ≤ unzL z ∧ unzL z ≤ 100000 := by
  unfold unzL
  split <;> omega
theorem zig_unz {z : Int} (h : 0 ≤ z ∧ z ≤ 200000) : zigL (unzL z) = z := by
  unfold unzL
  split
  · rw [zig_pos (by omega) (by omega)]
    omega
  · rw [zig_neg (by omega) (by omega)]
    omega

/-- where there is a number, its bytes are the beginning, and what follows does not matter -/
theorem getV_yes {l : List Int} (hb : By l) (h : 0 < (getV l).2) : ∃ k : Nat, (getV l).2 = k ∧ 1 ≤ k ∧ k ≤ 3 ∧ k ≤ l.length ∧ 0 ≤ (getV l).1 ∧ (getV l).1 ≤ 200000 ∧ putL (getV l).1 = l.take k ∧ ∀ m, getV (l.take k ++ m) = getV l := by
  match l with
  | [] => simp [getV] at h
  | a :: r =>
    have ha := hb a (by simp)
    by_cases h1 : a < 128
    · have e : getV (a :: r) = (a, 1) := by simp only [getV]; rw [if_pos h1]
      rw [e]
      refine ⟨1, rfl, by omega, by omega, by simp, ha.1, by simp; omega, ?_, fun m => ?_⟩
      · rw [putL_small h1]; rfl
      · show getV (a :: m) = _
        simp only [getV]; rw [if_pos h1]
    · match r with
      | [] => simp [getV, h1] at h
      | b :: r =>
        have hb2 := hb b (by simp)
        by_cases h2 : b < 128
        · by_cases h3 : b = 0
          · simp [getV, h1, h3] at h
          · have e : ∀ q, getV (a :: b :: q) = (a - 128 + 128 * b, 2) := fun q => by simp only [getV]; rw [if_neg h1, if_pos h2, if_neg h3]
            rw [e]
            refine ⟨2, rfl, by omega, by omega, by simp, by simp; omega, by simp; omega, ?_, fun m => e m⟩
            show putL (a - 128 + 128 * b) = [a, b]
            rw [putL_step (by omega) (by omega), putL_small (by omega)]
            have e1 : (a - 128 + 128 * b) % 128 + 128 = a := by omega
            have e2 : (a - 128 + 128 * b) / 128 = b := by omega
            rw [e1, e2]
        · match r with
          | [] => simp [getV, h1, h2] at h
          | c :: r =>
            have hb3 := hb c (by simp)
            by_cases h3 : c < 128
            · by_cases h4 : c = 0 ∨ 200000 < a - 128 + 128 * (b - 128) + 16384 * c
              · simp [getV, h1, h2, h3, h4] at h
              · have e : ∀ q, getV (a :: b :: c :: q) = (a - 128 + 128 * (b - 128) + 16384 * c, 3) := fun q => by simp only [getV]; rw [if_neg h1, if_neg h2, if_pos h3, if_neg h4]
                rw [e]
                refine ⟨3, rfl, by omega, by omega, by simp, by simp; omega, by simp; omega, ?_, fun m => e m⟩
                show putL (a - 128 + 128 * (b - 128) + 16384 * c) = [a, b, c]
                rw [putL_step (by omega) (by omega), putL_step (by omega) (by omega), putL_small (by omega)]
                have e1 : (a - 128 + 128 * (b - 128) + 16384 * c) % 128 + 128 = a := by omega
                have e2 : (a - 128 + 128 * (b - 128) + 16384 * c) / 128 % 128 + 128 = b := by omega
                have e3 : (a - 128 + 128 * (b - 128) + 16384 * c) / 128 / 128 = c := by omega
                rw [e1, e2, e3]
            · simp [getV, h1, h2, h3] at h
theorem getV_put {n : Int} (h : 0 ≤ n ∧ n ≤ 200000) (m : List Int) : getV (putL n ++ m) = (n, ((putL n).length : Int)) := by
  unfold putL
  split
  · rename_i h1
    simp [getV, h1]
  · rename_i h1
    split
    · rename_i h2
      simp only [List.cons_append, List.nil_append, getV]
      rw [if_neg (by omega), if_pos (by omega), if_neg (by omega)]
      ext <;> simp <;> omega
    · rename_i h2
      simp only [List.cons_append, List.nil_append, getV]
      rw [if_neg (by omega), if_neg (by omega), if_pos (by omega), if_neg (by omega)]
      ext <;> simp <;> omega
/-- a number with a sign at the beginning of bytes, and what is behind it -/
def getZ (l : List Int) : Option (Int × List Int) := if 0 < (getV l).2 then some (unzL (getV l).1, l.drop (getV l).2.toNat) else none
theorem getZ_put {a : Int} (h : -100000 ≤ a ∧ a ≤ 100000) (m : List Int) : getZ (putL (zigL a) ++ m) = some (a, m) := by
  have hz := zig_bd h
  have hl := @putL_len (zigL a)
  unfold getZ
  rw [getV_put hz, if_pos (by omega), unz_zig h]
  simp
theorem getZ_inv {l r : List Int} {a : Int} (hb : By l) (h : getZ l = some (a, r)) : (-100000 ≤ a ∧ a ≤ 100000) ∧ l = putL (zigL a) ++ r ∧ By r := by
  unfold getZ at h
  split at h
  · rename_i hp
    obtain ⟨k, hk, k1, k3, kl, v0, v1, hput, -⟩ := getV_yes hb hp
    rw [hk] at h
    simp at h
    obtain ⟨rfl, rfl⟩ := h
    refine ⟨unz_bd ⟨v0, v1⟩, ?_, fun x hx => hb x (List.mem_of_mem_drop hx)⟩
    rw [zig_unz ⟨v0, v1⟩, hput, List.take_append_drop]
  · cases h
/-- pairs of numbers in bytes -/
def packR : List (Int × Int) → List Int
  | [] => []
  | q :: r => putL (zigL q.1) ++ (putL (zigL q.2) ++ packR r)
theorem packR_snoc (ps : List (Int × Int)) (q : Int × Int) : packR (ps ++ [q]) = packR ps ++ putL (zigL q.1) ++ putL (zigL q.2) := by
  induction ps with
  | nil => simp [packR]
  | cons p r ih => simp only [List.cons_append, packR, ih, List.append_assoc]
theorem packR_len (ps : List (Int × Int)) : 2 * ps.length ≤ (packR ps).length ∧ (packR ps).length ≤ 6 * ps.length := by
  induction ps with
  | nil => simp [packR]
  | cons p r ih =>
    have h1 := @putL_len (zigL p.1)
    have h2 := @putL_len (zigL p.2)
    simp only [packR, List.length_append, List.length_cons]
    omega
def pairsL (l : List Pt) : List (Int × Int) := (stepsL l).zip (delL 0 (valsL l))
theorem pairs_len (l : List Pt) : (pairsL l).length = l.length := by
  unfold pairsL
  rw [List.length_zip, steps_len, dvals_len]
  omega
theorem pairs_take (l : List Pt) (k : Nat) : (pairsL l).take k = pairsL (l.take k) := by
  unfold pairsL
  rw [← steps_take, ← dvals_take, List.zip_eq_zipWith, List.zip_eq_zipWith, List.take_zipWith]
def packL (l : List Pt) : List Int := (l.length : Int) :: packR (pairsL l)
def packV (l : List Pt) : List Int := if validL l then packL l else []
theorem packV_yes {l : List Pt} (h : validL l = true) : packV l = packL l := if_pos h
theorem packV_no {l : List Pt} (h : validL l = false) : packV l = [] := if_neg (by rw [h]; simp)
def sizeV (l : List Pt) : Int := if validL l then (packL l).length else -1
theorem packL_len (l : List Pt) : 1 + 2 * l.length ≤ (packL l).length ∧ (packL l).length ≤ 1 + 6 * l.length := by
  have := packR_len (pairsL l)
  rw [pairs_len] at this
  unfold packL
  rw [List.length_cons]
  omega
/-- numbers that zigzag takes -/
def okPairs (ps : List (Int × Int)) : Prop := ∀ q ∈ ps, (-100000 ≤ q.1 ∧ q.1 ≤ 100000) ∧ (-100000 ≤ q.2 ∧ q.2 ≤ 100000)
theorem pairs_ok {l : List Pt} (h : smallP l) : okPairs (pairsL l) := by
  intro q hq
  have h1 := steps_bd h q.1 (List.of_mem_zip hq).1
  have h2 := dvals_bd h q.2 (List.of_mem_zip hq).2
  omega
theorem packR_by {ps : List (Int × Int)} (h : okPairs ps) : By (packR ps) := by
  induction ps with
  | nil => intro x hx; simp [packR] at hx
  | cons p r ih =>
    have h0 := h p List.mem_cons_self
    have z1 := zig_bd h0.1
    have z2 := zig_bd h0.2
    intro x hx
    simp only [packR] at hx
    rcases List.mem_append.1 hx with hx | hx
    · exact putL_by z1.1 (by omega) x hx
    · rcases List.mem_append.1 hx with hx | hx
      · exact putL_by z2.1 (by omega) x hx
      · exact ih (fun q hq => h q (List.mem_cons_of_mem _ hq)) x hx
def readP : Nat → List Int → Option (List (Int × Int) × List Int)
  | 0, l => some ([], l)
  | k + 1, l => match getZ l with
    | none => none
    | some (a, r) => match getZ r with
      | none => none
      | some (b, r2) => match readP k r2 with
        | none => none
        | some (ps, r3) => some ((a, b) :: ps, r3)
theorem readP_pack {ps : List (Int × Int)} (h : okPairs ps) (r : List Int) : readP ps.length (packR ps ++ r) = some (ps, r) := by
  induction ps with
  | nil => rfl
  | cons p q ih =>
    have h0 := h p List.mem_cons_self
    simp only [packR, List.length_cons, readP, List.append_assoc]
    rw [getZ_put h0.1]
    simp only
    rw [getZ_put h0.2]
    simp only
    rw [ih (fun x hx => h x (List.mem_cons_of_mem _ hx))]
theorem readP_inv {k : Nat} {l r : List Int} {ps : List (Int × Int)} (hb : By l) (h : readP k l = some (ps, r)) : ps.length = k ∧ l = packR ps ++ r ∧ okPairs ps := by
  induction k generalizing l ps with
  | zero =>
    simp [readP] at h
    obtain ⟨rfl, rfl⟩ := h
    exact ⟨rfl, rfl, fun q hq => by cases hq⟩
  | succ k ih =>
    simp only [readP] at h
    cases h1 : getZ l with
    | none => rw [h1] at h; cases h
    | some x =>
      obtain ⟨a, r1⟩ := x
      rw [h1] at h
      simp only at h
      obtain ⟨ha, e1, hb1⟩ := getZ_inv hb h1
      cases h2 : getZ r1 with
      | none => rw [h2] at h; cases h
      | some x =>
        obtain ⟨b, r2⟩ := x
        rw [h2] at h
        simp only at h
        obtain ⟨hb0, e2, hb2⟩ := getZ_inv hb1 h2
        cases h3 : readP k r2 with
        | none => rw [h3] at h; cases h
        | some x =>
          obtain ⟨qs, r3⟩ := x
          rw [h3] at h
          simp at h
          obtain ⟨rfl, rfl⟩ := h
          obtain ⟨i1, i2, i3⟩ := ih hb2 h3
          refine ⟨by simp [i1], ?_, ?_⟩
          · simp only [packR, List.append_assoc]
            rw [← i2, ← e2, ← e1]
          · intro q hq
            rcases List.mem_cons.1 hq with rfl | hq
            · exact ⟨ha, hb0⟩
            · exact i3 q hq
def unzipL (ps : List (Int × Int)) : List Pt := (sumL 0 (sumL 0 (ps.map (·.1)))).zip (sumL 0 (ps.map (·.2)))
theorem zip_fst {a b : List Int} (h : a.length = b.length) : (a.zip b).map (·.1) = a := by
  induction a generalizing b with
  | nil => simp
  | cons x a ih =>
    cases b with
    | nil => simp at h
    | cons y b => simp at h; simp [ih h]
theorem zip_snd {a b : List Int} (h : a.length = b.length) : (a.zip b).map (·.2) = b := by
  induction a generalizing b with
  | nil =>
    cases b with
    | nil => rfl
    | cons y b => simp at h
  | cons x a ih =>
    cases b with
    | nil => simp at h
    | cons y b => simp at h; simp [ih h]
theorem zip_self (l : List Pt) : (l.map (·.1)).zip (l.map (·.2)) = l := by
  induction l with
  | nil => rfl
  | cons p l ih => simp [ih]
theorem unzip_len (ps : List (Int × Int)) : (unzipL ps).length = ps.length := by
  unfold unzipL
  rw [List.length_zip, sum_len, sum_len, sum_len, List.length_map, List.length_map]
  omega
theorem unzip_pairs (l : List Pt) : unzipL (pairsL l) = l := by
  unfold unzipL pairsL
  rw [zip_fst (by rw [steps_len, dvals_len]), zip_snd (by rw [steps_len, dvals_len])]
  unfold stepsL
  rw [sum_del, sum_del, sum_del]
  exact zip_self l
theorem pairs_unzip (ps : List (Int × Int)) : pairsL (unzipL ps) = ps := by
  have e1 : timesL (unzipL ps) = sumL 0 (sumL 0 (ps.map (·.1))) := zip_fst (by rw [sum_len, sum_len, sum_len, List.length_map, List.length_map])
  have e2 : valsL (unzipL ps) = sumL 0 (ps.map (·.2)) := zip_snd (by rw [sum_len, sum_len, sum_len, List.length_map, List.length_map])
  unfold pairsL stepsL
  rw [e1, e2, del_sum, del_sum, del_sum]
  exact zip_self ps
/-- what is told by bytes -/
def fineU (r : Option (List (Int × Int) × List Int)) : Option (List Pt) := match r with
  | some (ps, []) => if validL (unzipL ps) then some (unzipL ps) else none
  | _ => none
def unpO (b : List Int) : Option (List Pt) := match b with
  | [] => none
  | c :: r => if 16 < c then none else fineU (readP c.toNat r)
def unpV (b : List Int) : List Pt × Bool := match unpO b with
  | none => ([], false)
  | some l => (l, true)
theorem unp_pack {l : List Pt} (h : validL l = true) : unpO (packL l) = some l := by
  have hl := ((validL_iff l).1 h).1
  have hr := readP_pack (pairs_ok (valid_small h)) []
  rw [pairs_len, List.append_nil] at hr
  show (if 16 < (l.length : Int) then none else fineU (readP (l.length : Int).toNat _)) = _
  rw [if_neg (by omega), Int.toNat_natCast, hr]
  simp only [fineU, unzip_pairs, h, if_true]
theorem unp_long {l : List Pt} (h : validL l = true) (x : Int) : unpO (packL l ++ [x]) = none := by
  have hl := ((validL_iff l).1 h).1
  have hr := readP_pack (pairs_ok (valid_small h)) [x]
  rw [pairs_len] at hr
  show (if 16 < (l.length : Int) then none else fineU (readP (l.length : Int).toNat (packR (pairsL l) ++ [x]))) = _
  rw [if_neg (by omega), Int.toNat_natCast, hr]
  rfl
theorem unp_short {l : List Pt} (h : validL l = true) {b : List Int} {x : Int} (hb : packL l = b ++ [x]) : unpO b = none := by
  have hl := ((validL_iff l).1 h).1
  have hok := pairs_ok (valid_small h)
  cases b with
  | nil => rfl
  | cons c r =>
    unfold packL at hb
    rw [List.cons_append] at hb
    injection hb with h1 h2
    subst h1
    show (if 16 < (l.length : Int) then none else fineU (readP (l.length : Int).toNat r)) = _
    rw [if_neg (by omega), Int.toNat_natCast]
    have hby : By r := fun y hy => packR_by hok y (by rw [h2]; exact List.mem_append_left _ hy)
    cases hr : readP l.length r with
    | none => rfl
    | some q =>
      obtain ⟨ps, t⟩ := q
      obtain ⟨i1, i2, i3⟩ := readP_inv hby hr
      have e1 := readP_pack i3 (t ++ [x])
      rw [← List.append_assoc, ← i2, ← h2, i1] at e1
      have e2 := readP_pack hok []
      rw [pairs_len, List.append_nil, e1] at e2
      injection e2 with e2
      injection e2 with e3 e4
      simp at e4
theorem pack_unp {b : List Int} (hb : By b) {l : List Pt} (h : unpO b = some l) : validL l = true ∧ packL l = b := by
  cases b with
  | nil => cases h
  | cons c r =>
    have hc := hb c List.mem_cons_self
    have hby : By r := fun x hx => hb x (List.mem_cons_of_mem _ hx)
    change (if 16 < c then none else fineU (readP c.toNat r)) = some l at h
    split at h
    · cases h
    · cases hr : readP c.toNat r with
      | none => rw [hr] at h; cases h
      | some q =>
        obtain ⟨ps, t⟩ := q
        rw [hr] at h
        cases t with
        | cons y t => cases h
        | nil =>
          simp only [fineU] at h
          split at h
          · rename_i hv
            injection h with h
            subst h
            obtain ⟨i1, i2, i3⟩ := readP_inv hby hr
            refine ⟨hv, ?_⟩
            unfold packL
            rw [unzip_len, i1, pairs_unzip, i2, List.append_nil]
            congr 1
            omega
          · cases h
/-- the walk from the front: pairs that have come, and what is left -/
def unpF (k : Nat) (ps : List (Int × Int)) (r : List Int) : Option (List (Int × Int) × List Int) := match readP k r with
  | none => none
  | some (qs, t) => some (ps ++ qs, t)
theorem unpF_zero (ps : List (Int × Int)) (r : List Int) : unpF 0 ps r = some (ps, r) := by simp [unpF, readP]
theorem unpF_nil (k : Nat) (r : List Int) : unpF k [] r = readP k r := by
  unfold unpF
  cases readP k r with
  | none => rfl
  | some q => rfl
theorem unpF_no1 {k : Nat} {ps : List (Int × Int)} {r : List Int} (h : getZ r = none) : unpF (k + 1) ps r = none := by
  unfold unpF
  simp only [readP, h]
theorem unpF_no2 {k : Nat} {ps : List (Int × Int)} {r r1 : List Int} {a : Int} (h : getZ r = some (a, r1)) (h2 : getZ r1 = none) : unpF (k + 1) ps r = none := by
  unfold unpF
  simp only [readP, h, h2]
theorem unpF_step {k : Nat} {ps : List (Int × Int)} {r r1 r2 : List Int} {a b : Int} (h : getZ r = some (a, r1)) (h2 : getZ r1 = some (b, r2)) : unpF (k + 1) ps r = unpF k (ps ++ [(a, b)]) r2 := by
  unfold unpF
  simp only [readP, h, h2]
  cases readP k r2 with
  | none => rfl
  | some q => simp
end Go.Proofs.Ytcgeagcfhjdpcaa
