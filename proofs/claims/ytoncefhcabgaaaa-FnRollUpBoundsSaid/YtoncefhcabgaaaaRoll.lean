/- Contracts of RollUp, of the program and of the reference. -/
import Derived.Test.YtoncefhcabgaaaaProg
import Derived.Test.YtoncefhcabgaaaaPts
import Derived.Test.YtoncefhcabgaaaaAddS
import Derived.Test.YtoncefhcabgaaaaDrawS
namespace Go.Proofs.Ytoncefhcabgaaaa
set_option linter.unusedVariables false
open Go.RowKit
attribute [local irreducible] wpQuiet
attribute [local go_sem ↓] Go.wp_at_zero Go.wp_at_succ

theorem inRange_bR (n lo hi : Int) (w : World) (b : Bool) (h : (decide (lo ≤ n) && decide (n ≤ hi)) = b) : Calls Try.prog 24 #[.int .i64 n, .int .i64 lo, .int .i64 hi] w fun e w' => e = .returned (.bool b) ∧ w = w' := by
  subst h
  exact inRange_any n lo hi w
/-- the bucket of one point -/
def bktOf (W : Int) (p : Pt) : Bk := (p.1 - p.1 % W, 1, p.2, p.2, p.2)
def rollG (W : Int) (l : List Pt) : List Bk := grp (l.map (bktOf W))
def bdB (M : Int) (q : Bk) : Prop := (-M ≤ q.2.1 ∧ q.2.1 ≤ M) ∧ (-M ≤ q.2.2.1 ∧ q.2.2.1 ≤ M)
theorem addF_bd {M N : Int} {b : Bk} {l : List Bk} (h0 : 0 ≤ M) (h1 : 0 ≤ N) (hb : bdB N b) (hl : ∀ q ∈ l, bdB M q) : ∀ q ∈ addF b l, bdB (M + N) q := by
  intro q hq
  have up : ∀ x, bdB M x → bdB (M + N) x := fun x hx => by unfold bdB at hx ⊢; omega
  have up2 : bdB (M + N) b := by unfold bdB at hb ⊢; omega
  cases l with
  | nil => simp [addF] at hq; subst hq; exact up2
  | cons a r =>
    simp only [addF] at hq
    split at hq
    · rcases List.mem_cons.1 hq with rfl | hq
      · have ha := hl a (by simp)
        unfold bdB at hb ha ⊢
        simp only [joinB]
        omega
      · exact up _ (hl q (by simp [hq]))
    · rcases List.mem_cons.1 hq with rfl | hq
      · exact up2
      · exact up _ (hl q hq)
theorem grp_bd {N : Int} {l : List Bk} (h1 : 0 ≤ N) (hl : ∀ q ∈ l, bdB N q) : ∀ q ∈ grp l, bdB (N * l.length) q := by
  induction l with
  | nil => simp [grp]
  | cons a l ih =>
    intro q hq
    rw [grp_cons] at hq
    have := addF_bd (M := N * l.length) (N := N) (Int.mul_nonneg h1 (by omega)) h1 (hl a (by simp)) (ih (fun q hq => hl q (by simp [hq]))) q hq
    have e : N * ((a :: l).length : Int) = N * l.length + N := by rw [List.length_cons]; push_cast; rw [Int.mul_add, Int.mul_one]
    rw [e]
    exact this
theorem sm_of_bd {M : Int} {q : Bk} (h : bdB M q) (hM : M ≤ 1000000000) : smB q := by unfold bdB at h; unfold smB; omega
theorem roll_sm {W : Int} {l : List Pt} (hl : l.length ≤ 100) (hv : ∀ p ∈ l, -1000000 ≤ p.2 ∧ p.2 ≤ 1000000) : ∀ q ∈ rollG W l, smB q := by
  intro q hq
  have h := grp_bd (N := 1000000) (l := l.map (bktOf W)) (by omega) (fun x hx => by
    obtain ⟨p, hp, rfl⟩ := List.mem_map.1 hx
    have := hv p hp
    unfold bdB bktOf
    simp only
    omega) q hq
  refine sm_of_bd h ?_
  rw [List.length_map]
  omega
theorem roll_snoc {W : Int} {l : List Pt} {k : Nat} {t v : Int} (h : l[k]? = some (t, v)) : rollG W (l.take (k + 1)) = addL (rollG W (l.take k)) (t - t % W, 1, v, v, v) := by
  unfold rollG
  rw [take_get' h, List.map_append, List.map_singleton, grp_snoc]
  rfl
theorem roll_len {W : Int} {l : List Pt} : (rollG W l).length ≤ l.length := by
  unfold rollG
  have := grp_len (l.map (bktOf W))
  rwa [List.length_map] at this
theorem sm_one {s v : Int} (h : -1000000 ≤ v ∧ v ≤ 1000000) : smB (s, 1, v, v, v) := by unfold smB; simp only; omega

set_option maxHeartbeats 3200000 in
theorem rollI_loop (A : Option Addr) (n c : Nat) (l : List Pt) (W : Int) (w : World) (h : Rd w 2 A n c (pc l)) (hq : validL l = true) (hW : 1 ≤ W) (hW2 : W ≤ 100) :
    Calls Try.prog 9 #[.slice A n c, .int .i64 W] w fun e w' => ∃ A' c', e = .returned (.slice A' (rollG W l).length c') ∧ w'.ownsRow w.heap.size 31 5 (.slice A' (rollG W l).length c') (rollG W l).length (bkc (rollG W l)) ∧ w.grownBy w' none := by
  have l1 : l.length = n := by have := h.len; rw [pc_len] at this; omega
  have hv := (validL_iff l).1 hq
  have hn : n ≤ 16 := by omega
  have HQ := Lib.hid (And.intro h (And.intro hq (And.intro hv l1)))
  have hd1 : decide (W < 1) = false := by simp; omega
  have hd2 : decide (100 < W) = false := by simp; omega
  have hW0 : ¬ W = 0 := by omega
  have hWb : (W == 0) = false := by simpa using hW0
  clear h hq hv l1
  go_enter Try.func9, Try.ntmps9
  go_wp2_with fail
  refine (validI_at A n c l true _ HQ.out.1 HQ.out.2.1).mono ?_
  rintro e w1 ⟨rfl, g1⟩
  have hs1 := g1.size
  go_wp2
  go_loopw [5, 21] (fun q i wr => ∃ (k : Nat) (acc : List Bk) (A' : Option Addr) (c' : Nat), k ≤ n ∧ i = .int .i64 k ∧ q = .slice A' acc.length c' ∧ Hid (acc = rollG W (l.take k)) ∧ wr.ownsRow w.heap.size 31 5 (.slice A' acc.length c') acc.length (bkc acc) ∧ w.grownBy wr none) (fun _ i _ => n - (intOf i).toNat)
  case atStart => exact ⟨0, [], none, 0, Nat.zero_le _, rfl, rfl, rfl, World.ownsRow_nil _ _ _ _, g1⟩
  case round =>
    obtain ⟨k, acc, A', c', hk, rfl, rfl, hI, hown, hg⟩ := hrel
    have hsz := hg.size
    by_cases hlt : k < n
    · obtain ⟨⟨t, v⟩, hx, -⟩ := get_ex (l := l) (i := k) (by have := HQ.out.2.2.2; omega)
      obtain ⟨b, o, rfl, hc⟩ := (HQ.out.1.keptN hg).cells hlt
      have c0 := hc _ _ (pc_at hx).1
      have c1 := hc _ _ (pc_at hx).2
      simp only [Nat.add_zero, ← Nat.add_assoc] at c0 c1
      have hlt' : (k : Int) < (n : Int) := by omega
      have hok := HQ.out.2.2.1.2.1 _ (List.mem_of_getElem? hx)
      simp only at hok
      obtain ⟨t0, t1, v0, v1⟩ := hok
      have HI : Hid (addL acc (t - t % W, 1, v, v, v) = rollG W (l.take (k + 1))) := by
        show _ = _
        rw [hI.out, roll_snoc hx]
      have hsm : ∀ q ∈ acc, smB q := by
        rw [hI.out]
        refine roll_sm (by rw [List.length_take]; omega) (fun p hp => ?_)
        have := HQ.out.2.2.1.2.1 p (List.mem_of_mem_take hp)
        omega
      have hal : acc.length ≤ 1000 := by
        have := @roll_len W (l.take k)
        rw [hI.out]
        rw [List.length_take] at this
        omega
      have HS := Lib.hid hsm
      have hm1 : t.tmod W = t % W := Int.tmod_eq_emod_of_nonneg t0
      have e1 := Int.emod_nonneg t hW0
      have e2 := Int.emod_lt_of_pos t (show 0 < W by omega)
      have hw1 : IntKind.i64.wrap (t - t % W) = t - t % W := IntWalk.i64_in _ (by omega)
      clear hc hx hI hsm
      go_wp2_with fail
      have hb0 : (wr.alloc (.cells #[.int .i64 t, .int .i64 v] 33)).cell? ⟨wr.heap.size, 0, none⟩ = some (.int .i64 t) := by go_simp
      have hb1 : (wr.alloc (.cells #[.int .i64 t, .int .i64 v] 33)).cell? ⟨wr.heap.size, 1, none⟩ = some (.int .i64 v) := by go_simp
      have P0 := g_trans (g_alloc wr (.cells #[.int .i64 t, .int .i64 v] 33) none) (g_drew _ none)
      have hO0 := Lib.hid (own_keptN hown P0)
      have hnr : some wr.heap.size ≠ (Value.slice A' acc.length c').ownBlock := fun e => by have := (hown.lt _ e.symm).2; omega
      have hbase : w.heap.size ≤ (wr.alloc (.cells #[.int .i64 t, .int .i64 v] 33)).drew.heap.size := by simp; omega
      go_region_held3 (fun w' => w'.cell? ⟨wr.heap.size, 0, none⟩ = some (.int .i64 t) ∧ w'.cell? ⟨wr.heap.size, 1, none⟩ = some (.int .i64 v))
        (first | go_keep | exact ⟨g6.cell (by simp) hnr, g6.cell (by simp) hnr⟩)
        (first | (go_at_call 22; refine (addI_any w.heap.size acc A' c' (t - t % W) 1 v v v _ hO0.out hbase hal HS.out (sm_one (by omega))).mono ?_; rintro e w6 ⟨A6, c6, rfl, o6, g6, f6⟩))
      have HO := Lib.hid (And.intro o6 (g_new (g_trans hg P0) g6 (own_new hO0.out)))
      clear o6 g6 f6 hown hg hw1 hm1 hb0 hb1 P0 hbase hnr
      go_wp2
      go_roundw
      case rel => exact ⟨k + 1, addL acc (t - t % W, 1, v, v, v), A6, c6, by omega, by go_num, rfl, HI, HO.out.1, HO.out.2⟩
      case measure => simp [intOf]; omega
    · have hge : ¬ (k : Int) < (n : Int) := by omega
      have hE : acc = rollG W l := by rw [hI.out, List.take_of_length_le (by have := HQ.out.2.2.2; omega)]
      have HE := Lib.hid hE
      clear hE hI
      go_wp2
      go_ret
      rw [← HE.out]
      exact ⟨A', c', rfl, hown, hg⟩
def rollV (W : Int) (l : List Pt) : List Bk := if (1 ≤ W ∧ W ≤ 100) ∧ validL l = true then rollG W l else []
theorem rollV_no {W : Int} {l : List Pt} (h : ¬ ((1 ≤ W ∧ W ≤ 100) ∧ validL l = true)) : rollV W l = [] := if_neg h
theorem rollV_yes {W : Int} {l : List Pt} (h : (1 ≤ W ∧ W ≤ 100) ∧ validL l = true) : rollV W l = rollG W l := if_pos h
def Rolled (l : List Bk) (w : World) (e : Ending) (w' : World) : Prop := ∃ A' c', e = .returned (.slice A' l.length c') ∧ w'.ownsRow w.heap.size 31 5 (.slice A' l.length c') l.length (bkc l) ∧ w.grownBy w' none
theorem rollI_any (A : Option Addr) (n c : Nat) (l : List Pt) (W : Int) (w : World) (h : Rd w 2 A n c (pc l)) :
    Calls Try.prog 9 #[.slice A n c, .int .i64 W] w (Rolled (rollV W l) w) := by
  by_cases h1 : W < 1
  · have E := Lib.hid (rollV_no (W := W) (l := l) (by omega))
    have hd : decide (W < 1) = true := by simpa using h1
    rw [E.out]
    go_enter Try.func9, Try.ntmps9
    go_wp2
    go_ret
    exact ⟨none, 0, rfl, World.ownsRow_nil _ _ _ _, g_refl _ _⟩
  by_cases h2 : 100 < W
  · have E := Lib.hid (rollV_no (W := W) (l := l) (by omega))
    have hd : decide (W < 1) = false := by simpa using h1
    have hd2 : decide (100 < W) = true := by simpa using h2
    rw [E.out]
    go_enter Try.func9, Try.ntmps9
    go_wp2
    go_ret
    exact ⟨none, 0, rfl, World.ownsRow_nil _ _ _ _, g_refl _ _⟩
  obtain ⟨q, hq⟩ : ∃ q, validL l = q := ⟨_, rfl⟩
  cases q with
  | false =>
    have E := Lib.hid (rollV_no (W := W) (l := l) (by rw [hq]; simp))
    have hd : decide (W < 1) = false := by simpa using h1
    have hd2 : decide (100 < W) = false := by simpa using h2
    have HQ := Lib.hid (And.intro h hq)
    rw [E.out]
    clear h hq
    go_enter Try.func9, Try.ntmps9
    go_wp2_with fail
    refine (validI_at A n c l false _ HQ.out.1 HQ.out.2).mono ?_
    rintro e w1 ⟨rfl, g1⟩
    go_wp2
    go_ret
    exact ⟨none, 0, rfl, World.ownsRow_nil _ _ _ _, g1⟩
  | true =>
    rw [rollV_yes ⟨by omega, hq⟩]
    exact rollI_loop A n c l W w h hq (by omega) (by omega)
set_option maxHeartbeats 3200000 in
theorem bucketsOf_any (A : Option Addr) (n c : Nat) (l : List Pt) (W : Int) (w : World) (h : Rd w 2 A n c (pc l)) (hn : n ≤ 17) (hm : ∀ p ∈ l, (0 ≤ p.1 ∧ p.1 ≤ 1000000) ∧ (-1000000 ≤ p.2 ∧ p.2 ≤ 1000000)) (hW : 1 ≤ W) (hW2 : W ≤ 100) :
    Calls Try.prog 25 #[.slice A n c, .int .i64 W] w (Rolled (rollG W l) w) := by
  have l1 : l.length = n := by have := h.len; rw [pc_len] at this; omega
  have HQ := Lib.hid (And.intro h (And.intro hm l1))
  have hW0 : ¬ W = 0 := by omega
  have hWb : (W == 0) = false := by simpa using hW0
  clear h hm l1
  go_enter Try.func25, Try.ntmps25
  go_wp2
  go_loopw [5, 6] (fun q i wr => ∃ (k : Nat) (acc : List Bk) (A' : Option Addr) (c' : Nat), k ≤ n ∧ i = .int .i64 k ∧ q = .slice A' acc.length c' ∧ Hid (acc = rollG W (l.take k)) ∧ wr.ownsRow w.heap.size 31 5 (.slice A' acc.length c') acc.length (bkc acc) ∧ w.grownBy wr none) (fun _ i _ => n - (intOf i).toNat)
  case atStart => exact ⟨0, [], _, 0, Nat.zero_le _, rfl, rfl, rfl, lit_own w w.heap.size _ 5 [] 0 (Nat.le_refl _) (by omega) rfl, g_alloc _ _ _⟩
  case round =>
    obtain ⟨k, acc, A', c', hk, rfl, rfl, hI, hown, hg⟩ := hrel
    have hsz := hg.size
    by_cases hlt : k < n
    · obtain ⟨⟨t, v⟩, hx, -⟩ := get_ex (l := l) (i := k) (by have := HQ.out.2.2; omega)
      obtain ⟨b, o, rfl, hc⟩ := (HQ.out.1.keptN hg).cells hlt
      have c0 := hc _ _ (pc_at hx).1
      have c1 := hc _ _ (pc_at hx).2
      simp only [Nat.add_zero, ← Nat.add_assoc] at c0 c1
      have hlt' : (k : Int) < (n : Int) := by omega
      have hk0 : (0 : Int) ≤ (k : Int) := by omega
      have hok := HQ.out.2.1 _ (List.mem_of_getElem? hx)
      simp only at hok
      obtain ⟨⟨t0, t1⟩, v0, v1⟩ := hok
      have HI : Hid (addL acc (t - t % W, 1, v, v, v) = rollG W (l.take (k + 1))) := by
        show _ = _
        rw [hI.out, roll_snoc hx]
      have hsm : ∀ q ∈ acc, smB q := by
        rw [hI.out]
        refine roll_sm (by rw [List.length_take]; omega) (fun p hp => ?_)
        have := HQ.out.2.1 p (List.mem_of_mem_take hp)
        omega
      have hal : acc.length ≤ 1000 := by
        have := @roll_len W (l.take k)
        rw [hI.out]
        rw [List.length_take] at this
        omega
      have HS := Lib.hid hsm
      have hm1 : t.tmod W = t % W := Int.tmod_eq_emod_of_nonneg t0
      have e1 := Int.emod_nonneg t hW0
      have e2 := Int.emod_lt_of_pos t (show 0 < W by omega)
      have hw1 : IntKind.i64.wrap (t - t % W) = t - t % W := IntWalk.i64_in _ (by omega)
      have hO0 := Lib.hid (Rd.own (own_keptN hown (g_drew wr none)))
      clear hc hx hI hsm
      go_wp2_with fail
      go_region_held3 (fun w' => w'.cell? ⟨b, o + k * 2, none⟩ = some (.int .i64 t) ∧ w'.cell? ⟨b, o + k * 2 + 1, none⟩ = some (.int .i64 v))
        (first | go_keep | exact ⟨g6.cell (by simp; exact c0) (by simp), g6.cell (by simp; exact c1) (by simp)⟩)
        (first | (go_at_call 29; refine (addS_any acc A' c' (t - t % W) 1 v v v _ hO0.out hal HS.out (sm_one (by omega))).mono ?_; rintro e w6 ⟨A6, c6, rfl, o6, g6⟩))
      have HO := Lib.hid (And.intro (own_le (base' := w.heap.size) o6 (by simp; omega)) (g_trans hg (g_trans (g_drew _ _) g6)))
      clear o6 g6 hown hg hw1 hm1
      go_wp2
      go_roundw
      case rel => exact ⟨k + 1, addL acc (t - t % W, 1, v, v, v), A6, c6, by omega, by go_num, rfl, HI, HO.out.1, HO.out.2⟩
      case measure => simp [intOf]; omega
    · have hge : ¬ (k : Int) < (n : Int) := by omega
      have hE : acc = rollG W l := by rw [hI.out, List.take_of_length_le (by have := HQ.out.2.2; omega)]
      have HE := Lib.hid hE
      clear hE hI
      go_wp2
      go_ret
      rw [← HE.out]
      exact ⟨A', c', rfl, hown, hg⟩
theorem rollS_any (A : Option Addr) (n c : Nat) (l : List Pt) (W : Int) (w : World) (h : Rd w 2 A n c (pc l)) :
    Calls Try.prog 11 #[.slice A n c, .int .i64 W] w (Rolled (rollV W l) w) := by
  have l1 : l.length = n := by have := h.len; rw [pc_len] at this; omega
  obtain ⟨q, hq⟩ : ∃ q, validL l = q := ⟨_, rfl⟩
  obtain ⟨r, hr⟩ : ∃ r, (decide (1 ≤ W) && decide (W ≤ 100)) = r := ⟨_, rfl⟩
  have HQ := Lib.hid (And.intro h (And.intro hq hr))
  cases q with
  | false =>
    have E := Lib.hid (rollV_no (W := W) (l := l) (by rw [hq]; simp))
    rw [E.out]
    clear h hq hr l1
    go_enter Try.func11, Try.ntmps11
    go_wp2_with fail
    refine (validSS_at A n c l false _ HQ.out.1 HQ.out.2.1).mono ?_
    rintro e w1 ⟨rfl, g1⟩
    go_wp2
    go_ret
    exact ⟨none, 0, rfl, World.ownsRow_nil _ _ _ _, g1⟩
  | true =>
    cases r with
    | false =>
      have E := Lib.hid (rollV_no (W := W) (l := l) (by intro hh; simp only [Bool.and_eq_false_iff, decide_eq_false_iff_not] at hr; omega))
      rw [E.out]
      clear h hq hr l1
      go_enter Try.func11, Try.ntmps11
      go_wp2_with fail
      refine (validSS_at A n c l true _ HQ.out.1 HQ.out.2.1).mono ?_
      rintro e w1 ⟨rfl, g1⟩
      go_wp2_with fail
      refine (inRange_bR _ _ _ _ _ HQ.out.2.2).mono ?_
      rintro e w2 ⟨rfl, rfl⟩
      go_wp2
      go_ret
      exact ⟨none, 0, rfl, World.ownsRow_nil _ _ _ _, g1⟩
    | true =>
      have hW : 1 ≤ W ∧ W ≤ 100 := by simpa using hr
      rw [rollV_yes ⟨hW, hq⟩]
      have hv := (validL_iff l).1 hq
      have hvv := Lib.hid (show ∀ p ∈ l, (0 ≤ p.1 ∧ p.1 ≤ 1000000) ∧ (-1000000 ≤ p.2 ∧ p.2 ≤ 1000000) from fun p hp => by have := hv.2.1 p hp; omega)
      have hn : n ≤ 17 := by omega
      obtain ⟨hW1, hW2⟩ := hW
      clear h hq hr l1 hv
      go_enter Try.func11, Try.ntmps11
      go_wp2_with fail
      refine (validSS_at A n c l true _ HQ.out.1 HQ.out.2.1).mono ?_
      rintro e w1 ⟨rfl, g1⟩
      go_wp2_with fail
      refine (inRange_bR _ _ _ _ _ HQ.out.2.2).mono ?_
      rintro e w2 ⟨rfl, rfl⟩
      go_wp2_with fail
      refine (bucketsOf_any A n c l W _ (HQ.out.1.keptN g1) hn hvv.out hW1 hW2).mono ?_
      rintro e w3 ⟨A3, c3, rfl, o3, g3⟩
      go_wp2
      go_ret
      exact ⟨A3, c3, rfl, own_le o3 g1.size, g_trans g1 g3⟩
end Go.Proofs.Ytoncefhcabgaaaa
