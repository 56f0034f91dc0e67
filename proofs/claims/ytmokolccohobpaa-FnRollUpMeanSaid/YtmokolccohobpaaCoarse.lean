/- Contracts of Coarser, of the program and of the reference. -/
import Derived.Test.YtmokolccohobpaaProg
import Derived.Test.YtmokolccohobpaaBvl
import Derived.Test.YtmokolccohobpaaRoll
import Derived.Deep.RegionLaw
namespace Go.Proofs.Ytmokolccohobpaa
set_option linter.unusedVariables false
open Go.RowKit
attribute [local irreducible] wpQuiet
attribute [local go_sem ↓] Go.wp_at_zero Go.wp_at_succ

/-- buckets as valid ones are: starts, counts and sums are not large -/
def okS (b : Bk) : Prop := (0 ≤ b.1 ∧ b.1 ≤ 1000) ∧ bdB 1000000 b
theorem coar_sm {V : Int} {l : List Bk} (hl : l.length ≤ 100) (hv : ∀ b ∈ l, okS b) : ∀ q ∈ coarG V l, smB q := by
  intro q hq
  have h := grp_bd (N := 1000000) (l := l.map (reB (flr V))) (by omega) (fun x hx => by
    obtain ⟨p, hp, rfl⟩ := List.mem_map.1 hx
    exact (hv p hp).2) q hq
  refine sm_of_bd h ?_
  rw [List.length_map]
  omega
theorem coar_snoc {V : Int} {l : List Bk} {k : Nat} {s n u lo hi : Int} (h : l[k]? = some (s, n, u, lo, hi)) : coarG V (l.take (k + 1)) = addL (coarG V (l.take k)) (s - s % V, n, u, lo, hi) := by
  unfold coarG
  rw [take_get' h, List.map_append, List.map_singleton, grp_snoc]
  rfl
theorem coar_len {V : Int} {l : List Bk} : (coarG V l).length ≤ l.length := by
  unfold coarG
  have := grp_len (l.map (reB (flr V)))
  rwa [List.length_map] at this
theorem sm_okS {s s' n u lo hi : Int} (h : okS (s, n, u, lo, hi)) : smB (s', n, u, lo, hi) := by
  unfold okS bdB at h
  unfold smB
  simp only at h ⊢
  omega

set_option maxHeartbeats 3200000 in
theorem coarserS_any (A : Option Addr) (n c : Nat) (l : List Bk) (V : Int) (w : World) (h : Rd w 5 A n c (bkc l)) (hn : n ≤ 16) (hm : ∀ b ∈ l, okS b) (hV : 1 ≤ V) (hV2 : V ≤ 100) :
    Calls Try.prog 58 #[.slice A n c, .int .i64 V] w (Rolled (coarG V l) w) := by
  have l1 : l.length = n := by have := h.len; rw [bkc_len] at this; omega
  have HQ := Lib.hid (And.intro h (And.intro hm l1))
  have hV0 : ¬ V = 0 := by omega
  have hVb : (V == 0) = false := by simpa using hV0
  clear h hm l1
  go_enter Try.func58, Try.ntmps58
  go_wp2
  go_loopw [5, 6] (fun q i wr => ∃ (k : Nat) (acc : List Bk) (A' : Option Addr) (c' : Nat), k ≤ n ∧ i = .int .i64 k ∧ q = .slice A' acc.length c' ∧ Hid (acc = coarG V (l.take k)) ∧ wr.ownsRow w.heap.size 39 5 (.slice A' acc.length c') acc.length (bkc acc) ∧ w.grownBy wr none) (fun _ i _ => n - (intOf i).toNat)
  case atStart => exact ⟨0, [], _, 0, Nat.zero_le _, rfl, rfl, rfl, lit_own w w.heap.size _ 5 [] 0 (Nat.le_refl _) (by omega) rfl, g_alloc _ _ _⟩
  case round =>
    obtain ⟨k, acc, A', c', hk, rfl, rfl, hI, hown, hg⟩ := hrel
    have hsz := hg.size
    by_cases hlt : k < n
    · obtain ⟨⟨s, ct, u, lo, hi⟩, hx, -⟩ := get_ex (l := l) (i := k) (by have := HQ.out.2.2; omega)
      obtain ⟨b, o, rfl, hc⟩ := (HQ.out.1.keptN hg).cells hlt
      obtain ⟨x0, x1, x2, x3, x4⟩ := bkc_at hx
      have c0 := hc _ _ x0
      have c1 := hc _ _ x1
      have c2 := hc _ _ x2
      have c3 := hc _ _ x3
      have c4 := hc _ _ x4
      simp only [Nat.add_zero, ← Nat.add_assoc] at c0 c1 c2 c3 c4
      have hlt' : (k : Int) < (n : Int) := by omega
      have hok := HQ.out.2.1 _ (List.mem_of_getElem? hx)
      have HOK := Lib.hid hok
      obtain ⟨t0, t1⟩ := hok.1
      simp only at t0 t1
      have HI : Hid (addL acc (s - s % V, ct, u, lo, hi) = coarG V (l.take (k + 1))) := by
        show _ = _
        rw [hI.out, coar_snoc hx]
      have hsm : ∀ q ∈ acc, smB q := by
        rw [hI.out]
        exact coar_sm (by rw [List.length_take]; omega) (fun p hp => HQ.out.2.1 p (List.mem_of_mem_take hp))
      have hal : acc.length ≤ 1000 := by
        have := @coar_len V (l.take k)
        rw [hI.out]
        rw [List.length_take] at this
        omega
      have HS := Lib.hid hsm
      have hm1 : s.tmod V = s % V := Int.tmod_eq_emod_of_nonneg t0
      have e1 := Int.emod_nonneg s hV0
      have e2 := Int.emod_lt_of_pos s (show 0 < V by omega)
      have hw1 : IntKind.i64.wrap (s - s % V) = s - s % V := IntWalk.i64_in _ (by omega)
      clear hc hx hI hsm hok x0 x1 x2 x3 x4
      go_wp2_with fail
      go_region_law (fail)
      all_goals
        have P0 := g_trans (g_alloc wr (.cells #[.int .i64 (s - s % V), .int .i64 ct, .int .i64 u, .int .i64 lo, .int .i64 hi] 39) none) (g_drew _ none)
        have hO0 := Lib.hid (Rd.own (own_keptN hown P0))
        have hbase : w.heap.size ≤ (wr.alloc (.cells #[.int .i64 (s - s % V), .int .i64 ct, .int .i64 u, .int .i64 lo, .int .i64 hi] 39)).drew.heap.size := by simp; omega
        go_wp2_with fail
        refine (addS_any acc A' c' (s - s % V) ct u lo hi _ hO0.out hal HS.out (sm_okS HOK.out)).mono ?_
        rintro e w6 ⟨A6, c6, rfl, o6, g6⟩
        have HO := Lib.hid (And.intro (own_le (base' := w.heap.size) o6 hbase) (g_trans hg (g_trans P0 g6)))
        clear o6 g6 hown hg hw1 hm1 P0 hbase
        go_wp2
        go_roundw
        case rel => exact ⟨k + 1, addL acc (s - s % V, ct, u, lo, hi), A6, c6, by omega, by go_num, rfl, HI, HO.out.1, HO.out.2⟩
        case measure => simp [intOf]; omega
    · have hge : ¬ (k : Int) < (n : Int) := by omega
      have hE : acc = coarG V l := by rw [hI.out, List.take_of_length_le (by have := HQ.out.2.2; omega)]
      have HE := Lib.hid hE
      clear hE hI
      go_wp2
      go_ret
      rw [← HE.out]
      exact ⟨A', c', rfl, hown, hg⟩
theorem okS_of {W : Int} {l : List Bk} (h : okBs W l = true) : ∀ b ∈ l, okS b := by
  intro b hb
  obtain ⟨a1, a2, a3, a4, a5, a6, a7, a8, a9, a10⟩ := okB1_iff.1 ((okBs_iff.1 h).2.1 b hb)
  have m1 := mul_bd (a := b.2.2.2.1) (c := b.2.1) (by omega) (by omega) a4 a5
  have m2 := mul_bd (a := b.2.2.2.2) (c := b.2.1) (by omega) (by omega) a4 a5
  unfold okS bdB
  omega
def Coarsed (r : List Bk × Bool) (w : World) (e : Ending) (w' : World) : Prop := ∃ A' c', e = .returned (.tuple #[.slice A' r.1.length c', .bool r.2]) ∧ w'.ownsRow w.heap.size 39 5 (.slice A' r.1.length c') r.1.length (bkc r.1) ∧ w.grownBy w' none
theorem coarC_parts (W T : Int) (l : List Bk) : ∃ p q r : Bool, okW W l = p ∧ (decide (1 ≤ T) && decide (T ≤ 100)) = q ∧ decide (W * T ≤ 100) = r ∧ coarC W T l = (p && q && r) := ⟨_, _, _, rfl, rfl, rfl, rfl⟩
theorem wrap_mul {W T : Int} (hW : 1 ≤ W) (hW2 : W ≤ 100) (hT : 1 ≤ T) (hT2 : T ≤ 100) : 1 ≤ W * T ∧ W * T ≤ 10000 ∧ IntKind.i64.wrap (W * T) = W * T := by
  have h1 := mul_ge hW hT
  have h2 : W * T ≤ 100 * T := Int.mul_le_mul_of_nonneg_right hW2 (by omega)
  exact ⟨h1, by omega, IntWalk.i64_in _ (by omega)⟩
theorem validBSS_at (A : Option Addr) (n c : Nat) (l : List Bk) (W : Int) (b : Bool) (w : World) (h : Rd w 5 A n c (bkc l)) (hW : 1 ≤ W) (hW2 : W ≤ 100) (hb : okBs W l = b) :
    Calls Try.prog 45 #[.slice A n c, .int .i64 W] w fun e w' => e = .returned (.bool b) ∧ w.grownBy w' none := by
  subst hb
  exact validBucketsS_any A n c l W w h hW hW2
set_option maxHeartbeats 1600000 in
theorem coarS_any (A : Option Addr) (n c : Nat) (l : List Bk) (W T : Int) (w : World) (h : Rd w 5 A n c (bkc l)) :
    Calls Try.prog 31 #[.slice A n c, .int .i64 W, .int .i64 T] w (Coarsed (coarV W T l) w) := by
  have l1 : l.length = n := by have := h.len; rw [bkc_len] at this; omega
  obtain ⟨p, q, r, hp, hq, hr, e⟩ := coarC_parts W T l
  have HP := Lib.hid (And.intro h (And.intro hp (And.intro hq hr)))
  cases p with
  | false =>
    have E := Lib.hid (coarV_no (W := W) (T := T) (l := l) (by rw [e]; rfl))
    rw [E.out]
    clear h hp hq hr e l1
    go_enter Try.func31, Try.ntmps31
    go_wp2_with fail
    refine (validBS_at A n c l W _ _ HP.out.1 HP.out.2.1).mono ?_
    rintro e w1 ⟨rfl, g1⟩
    go_wp2
    go_ret2
    exact ⟨none, 0, rfl, World.ownsRow_nil _ _ _ _, g1⟩
  | true =>
    cases q with
    | false =>
      have E := Lib.hid (coarV_no (W := W) (T := T) (l := l) (by rw [e]; rfl))
      rw [E.out]
      clear h hp hq hr e l1
      go_enter Try.func31, Try.ntmps31
      go_wp2_with fail
      refine (validBS_at A n c l W _ _ HP.out.1 HP.out.2.1).mono ?_
      rintro e w1 ⟨rfl, g1⟩
      go_wp2_with fail
      refine (inRange_bB _ _ _ _ _ HP.out.2.2.1).mono ?_
      rintro e w2 ⟨rfl, rfl⟩
      go_wp2
      go_ret2
      exact ⟨none, 0, rfl, World.ownsRow_nil _ _ _ _, g1⟩
    | true =>
      have hW := (okW_iff.1 hp).1
      have hT : 1 ≤ T ∧ T ≤ 100 := by simpa using hq
      obtain ⟨m1, m2, m3⟩ := wrap_mul hW.1 hW.2 hT.1 hT.2
      cases r with
      | false =>
        have E := Lib.hid (coarV_no (W := W) (T := T) (l := l) (by rw [e]; rfl))
        rw [E.out]
        have hd : decide (100 < W * T) = true := by simp at hr ⊢; omega
        clear h hp hq hr e l1 hW hT
        go_enter Try.func31, Try.ntmps31
        go_wp2_with fail
        refine (validBS_at A n c l W _ _ HP.out.1 HP.out.2.1).mono ?_
        rintro e w1 ⟨rfl, g1⟩
        go_wp2_with fail
        refine (inRange_bB _ _ _ _ _ HP.out.2.2.1).mono ?_
        rintro e w2 ⟨rfl, rfl⟩
        go_wp2
        go_ret2
        exact ⟨none, 0, rfl, World.ownsRow_nil _ _ _ _, g1⟩
      | true =>
        have hok := (okW_iff.1 hp).2
        have hVr : W * T ≤ 100 := by simpa using hr
        have hd : decide (100 < W * T) = false := by simp; omega
        have hn : n ≤ 16 := by have := (okBs_iff.1 hok).1; omega
        have hcl := @coar_len (W * T) l
        have HOK := Lib.hid (okS_of hok)
        have HCO := Lib.hid (coar_ok m1 hok)
        have HE := Lib.hid (coarV_yes (W := W) (T := T) (l := l) (by rw [e]; rfl))
        rw [HE.out]
        clear h hp hq hr e hW hT hok
        obtain ⟨L, hL⟩ : ∃ L, coarG (W * T) l = L := ⟨_, rfl⟩
        have HC := Lib.hid (fun w h => coarserS_any A n c l (W * T) w h hn HOK.out m1 hVr)
        rw [hL] at HCO HC hcl ⊢
        obtain ⟨q, hq⟩ : ∃ q, cntOk L = q := ⟨_, rfl⟩
        have HV := Lib.hid (HCO.out.trans hq)
        clear hL HE
        cases q with
        | false =>
          rw [if_neg (by rw [hq]; simp)]
          clear hq
          go_enter Try.func31, Try.ntmps31
          go_wp2_with fail
          refine (validBS_at A n c l W _ _ HP.out.1 HP.out.2.1).mono ?_
          rintro e w1 ⟨rfl, g1⟩
          go_wp2_with fail
          refine (inRange_bB _ _ _ _ _ HP.out.2.2.1).mono ?_
          rintro e w2 ⟨rfl, rfl⟩
          go_wp2_with fail
          refine (HC.out _ (HP.out.1.keptN g1)).mono ?_
          rintro e w3 ⟨A3, c3, rfl, o3, g3⟩
          go_wp2_with fail
          refine (validBSS_at _ _ _ L (W * T) _ _ (Rd.own o3) m1 hVr HV.out).mono ?_
          rintro e w4 ⟨rfl, g4⟩
          have HO := Lib.hid (And.intro (own_le (base' := w.heap.size) (own_keptN o3 g4) g1.size) (g_trans g1 (g_trans g3 g4)))
          clear o3 g1 g3 g4
          go_wp2
          go_ret2
          exact ⟨none, 0, rfl, World.ownsRow_nil _ _ _ _, HO.out.2⟩
        | true =>
          rw [if_pos hq]
          clear hq
          go_enter Try.func31, Try.ntmps31
          go_wp2_with fail
          refine (validBS_at A n c l W _ _ HP.out.1 HP.out.2.1).mono ?_
          rintro e w1 ⟨rfl, g1⟩
          go_wp2_with fail
          refine (inRange_bB _ _ _ _ _ HP.out.2.2.1).mono ?_
          rintro e w2 ⟨rfl, rfl⟩
          go_wp2_with fail
          refine (HC.out _ (HP.out.1.keptN g1)).mono ?_
          rintro e w3 ⟨A3, c3, rfl, o3, g3⟩
          go_wp2_with fail
          refine (validBSS_at _ _ _ L (W * T) _ _ (Rd.own o3) m1 hVr HV.out).mono ?_
          rintro e w4 ⟨rfl, g4⟩
          have HO := Lib.hid (And.intro (own_le (base' := w.heap.size) (own_keptN o3 g4) g1.size) (g_trans g1 (g_trans g3 g4)))
          clear o3 g1 g3 g4
          go_wp2
          go_ret2
          exact ⟨A3, c3, rfl, HO.out.1, HO.out.2⟩
set_option maxHeartbeats 3200000 in
theorem coarI_loop (A : Option Addr) (n c : Nat) (l : List Bk) (W T : Int) (w : World) (h : Rd w 5 A n c (bkc l)) (hp : okW W l = true) (hT : 1 ≤ T) (hT2 : T ≤ 100) (hVr : W * T ≤ 100) :
    Calls Try.prog 30 #[.slice A n c, .int .i64 W, .int .i64 T] w (Coarsed (if cntOk (coarG (W * T) l) then (coarG (W * T) l, true) else ([], false)) w) := by
  have l1 : l.length = n := by have := h.len; rw [bkc_len] at this; omega
  have hW := (okW_iff.1 hp).1
  have hok := (okW_iff.1 hp).2
  obtain ⟨m1, m2, m3⟩ := wrap_mul hW.1 hW.2 hT hT2
  have hn : n ≤ 16 := by have := (okBs_iff.1 hok).1; omega
  have hcl := @coar_len (W * T) l
  have HQ := Lib.hid (And.intro h (And.intro (okS_of hok) (And.intro l1 hp)))
  have hd1 : decide (T < 1) = false := by simp; omega
  have hd2 : decide (100 < T) = false := by simp; omega
  have hd3 : decide (100 < W * T) = false := by simp; omega
  have hV0 : ¬ W * T = 0 := by omega
  have hVb : (W * T == 0) = false := by simpa using hV0
  obtain ⟨V, hV⟩ : ∃ V, W * T = V := ⟨_, rfl⟩
  rw [hV] at m1 m2 m3 hVr hd3 hV0 hVb hcl ⊢
  obtain ⟨R, hR⟩ : ∃ R, (if cntOk (coarG V l) then (coarG V l, true) else ([], false)) = R := ⟨_, rfl⟩
  rw [hR]
  have HR := Lib.hid hR
  clear h hok l1 hW hp hR
  go_enter Try.func30, Try.ntmps30
  go_wp2_with fail
  refine (validBI_at A n c l W _ _ HQ.out.1 HQ.out.2.2.2).mono ?_
  rintro e w1 ⟨rfl, g1⟩
  have hs1 := g1.size
  go_wp2
  go_loopw [8, 33] (fun q i wr => ∃ (k : Nat) (acc : List Bk) (A' : Option Addr) (c' : Nat), k ≤ n ∧ i = .int .i64 k ∧ q = .slice A' acc.length c' ∧ Hid (acc = coarG V (l.take k)) ∧ wr.ownsRow w.heap.size 39 5 (.slice A' acc.length c') acc.length (bkc acc) ∧ w.grownBy wr none) (fun _ i _ => n - (intOf i).toNat)
  case atStart => exact ⟨0, [], none, 0, Nat.zero_le _, rfl, rfl, rfl, World.ownsRow_nil _ _ _ _, g1⟩
  case round =>
    obtain ⟨k, acc, A', c', hk, rfl, rfl, hI, hown, hg⟩ := hrel
    have hsz := hg.size
    by_cases hlt : k < n
    · obtain ⟨⟨s, ct, u, lo, hi⟩, hx, -⟩ := get_ex (l := l) (i := k) (by have := HQ.out.2.2.1; omega)
      obtain ⟨b, o, rfl, hc⟩ := (HQ.out.1.keptN hg).cells hlt
      obtain ⟨x0, x1, x2, x3, x4⟩ := bkc_at hx
      have c0 := hc _ _ x0
      have c1 := hc _ _ x1
      have c2 := hc _ _ x2
      have c3 := hc _ _ x3
      have c4 := hc _ _ x4
      simp only [Nat.add_zero, ← Nat.add_assoc] at c0 c1 c2 c3 c4
      have hlt' : (k : Int) < (n : Int) := by omega
      have hok := HQ.out.2.1 _ (List.mem_of_getElem? hx)
      have HOK := Lib.hid hok
      obtain ⟨t0, t1⟩ := hok.1
      simp only at t0 t1
      have HI : Hid (addL acc (s - s % V, ct, u, lo, hi) = coarG V (l.take (k + 1))) := by
        show _ = _
        rw [hI.out, coar_snoc hx]
      have hsm : ∀ q ∈ acc, smB q := by
        rw [hI.out]
        exact coar_sm (by rw [List.length_take]; omega) (fun p hp => HQ.out.2.1 p (List.mem_of_mem_take hp))
      have hal : acc.length ≤ 1000 := by
        have := @coar_len V (l.take k)
        rw [hI.out]
        rw [List.length_take] at this
        omega
      have HS := Lib.hid hsm
      have hm1 : s.tmod V = s % V := Int.tmod_eq_emod_of_nonneg t0
      have e1 := Int.emod_nonneg s hV0
      have e2 := Int.emod_lt_of_pos s (show 0 < V by omega)
      have hw1 : IntKind.i64.wrap (s - s % V) = s - s % V := IntWalk.i64_in _ (by omega)
      clear hc hx hI hsm hok x0 x1 x2 x3 x4
      go_wp2_with fail
      go_region_law (fail)
      all_goals
        have P0 := g_trans (g_alloc wr (.cells #[.int .i64 (s - s % V), .int .i64 ct, .int .i64 u, .int .i64 lo, .int .i64 hi] 39) none) (g_drew _ none)
        have hO0 := Lib.hid (own_keptN hown P0)
        have hbase : w.heap.size ≤ (wr.alloc (.cells #[.int .i64 (s - s % V), .int .i64 ct, .int .i64 u, .int .i64 lo, .int .i64 hi] 39)).drew.heap.size := by simp; omega
        go_wp2_with fail
        refine (addI_any w.heap.size acc A' c' (s - s % V) ct u lo hi _ hO0.out hbase hal HS.out (sm_okS HOK.out)).mono ?_
        rintro e w6 ⟨A6, c6, rfl, o6, g6, f6⟩
        have HO := Lib.hid (And.intro o6 (g_new (g_trans hg P0) g6 (own_new hO0.out)))
        clear o6 g6 hown hg hw1 hm1 P0 hbase
        go_wp2
        go_roundw
        case rel => exact ⟨k + 1, addL acc (s - s % V, ct, u, lo, hi), A6, c6, by omega, by go_num, rfl, HI, HO.out.1, HO.out.2⟩
        case measure => simp [intOf]; omega
    · have hge : ¬ (k : Int) < (n : Int) := by omega
      have hE : acc = coarG V l := by rw [hI.out, List.take_of_length_le (by have := HQ.out.2.2.1; omega)]
      have HE := Lib.hid hE
      have hal : acc.length ≤ 16 := by rw [hE]; have := HQ.out.2.2.1; omega
      obtain ⟨wo, rfl⟩ : ∃ wo : World, wo = wr := ⟨_, rfl⟩
      have hHI : Hid (cntOk acc = cntOk (acc.drop 0)) := rfl
      clear hE hI
      go_wp2
      go_loopw [53] (fun i wr => ∃ k : Nat, k ≤ acc.length ∧ i = .int .i64 k ∧ wo.grownBy wr none ∧ Hid (cntOk acc = cntOk (acc.drop k))) (fun i _ => acc.length - (intOf i).toNat)
      case atStart => exact ⟨0, Nat.zero_le _, rfl, g_refl _ _, hHI⟩
      case round =>
        obtain ⟨m, hm, rfl, hgq, hC⟩ := hrel
        have hownq := own_keptN hown hgq
        by_cases hlt2 : m < acc.length
        · obtain ⟨⟨s, ct, u, lo, hi⟩, hx, hdx⟩ := get_ex (l := acc) (i := m) hlt2
          obtain ⟨b, o, rfl, hc⟩ := (Rd.own hownq).cells hlt2
          obtain ⟨x0, x1, x2, x3, x4⟩ := bkc_at hx
          have c0 := hc _ _ x0
          have c1 := hc _ _ x1
          have c2 := hc _ _ x2
          have c3 := hc _ _ x3
          have c4 := hc _ _ x4
          simp only [Nat.add_zero, ← Nat.add_assoc] at c0 c1 c2 c3 c4
          have hlt' : (m : Int) < (acc.length : Int) := by omega
          have hC2 : cntOk acc = (decide (ct ≤ 100) && cntOk (acc.drop (m + 1))) := by rw [hC.out, hdx]; rfl
          by_cases hct : ct ≤ 100
          · have HC2 : Hid (cntOk acc = cntOk (acc.drop (m + 1))) := by show _ = _; rw [hC2]; simp [hct]
            have hct' : ¬ 100 < ct := by omega
            clear hC2 hC hc hx hdx x0 x1 x2 x3 x4 hHI hown hownq
            go_wp2
            go_roundw
            case rel => exact ⟨m + 1, by omega, by go_num, g_trans hgq (g_alloc _ _ _), HC2⟩
            case measure => simp [intOf]; omega
          · have HC2 : Hid (cntOk acc = false) := by show _ = _; rw [hC2]; simp [hct]
            have hct' : 100 < ct := by omega
            have G := g_trans hg (g_trans hgq (g_alloc wr (.cells #[.int .i64 s, .int .i64 ct, .int .i64 u, .int .i64 lo, .int .i64 hi] 39) none))
            clear hC2 hC hc hx hdx x0 x1 x2 x3 x4 hHI hown hownq
            go_wp2
            go_ret2
            have hR : R = ([], false) := by rw [← HR.out, ← HE.out, HC2.out]; rfl
            rw [hR]
            exact ⟨none, 0, rfl, World.ownsRow_nil _ _ _ _, G⟩
        · have hge2 : ¬ (m : Int) < (acc.length : Int) := by omega
          have HC2 : Hid (cntOk acc = true) := by show _ = _; rw [hC.out, List.drop_eq_nil_of_le (by omega)]; rfl
          have G := g_trans hg hgq
          clear hC hHI hown
          go_wp2
          go_ret2
          have hR : R = (acc, true) := by rw [← HR.out, ← HE.out, HC2.out]; rfl
          rw [hR]
          exact ⟨A', c', rfl, hownq, G⟩
theorem coarI_any (A : Option Addr) (n c : Nat) (l : List Bk) (W T : Int) (w : World) (h : Rd w 5 A n c (bkc l)) :
    Calls Try.prog 30 #[.slice A n c, .int .i64 W, .int .i64 T] w (Coarsed (coarV W T l) w) := by
  obtain ⟨p, hp⟩ : ∃ p, okW W l = p := ⟨_, rfl⟩
  have HP := Lib.hid (And.intro h hp)
  cases p with
  | false =>
    have E := Lib.hid (coarV_no (W := W) (T := T) (l := l) (by unfold coarC; rw [hp]; rfl))
    rw [E.out]
    clear h hp
    go_enter Try.func30, Try.ntmps30
    go_wp2_with fail
    refine (validBI_at A n c l W _ _ HP.out.1 HP.out.2).mono ?_
    rintro e w1 ⟨rfl, g1⟩
    go_wp2
    go_ret2
    exact ⟨none, 0, rfl, World.ownsRow_nil _ _ _ _, g1⟩
  | true =>
    by_cases h1 : T < 1
    · have E := Lib.hid (coarV_no (W := W) (T := T) (l := l) (by cases hk : coarC W T l with | false => rfl | true => have := (coarC_iff.1 hk).2.1; omega))
      have hd : decide (T < 1) = true := by simpa using h1
      rw [E.out]
      clear h hp
      go_enter Try.func30, Try.ntmps30
      go_wp2_with fail
      refine (validBI_at A n c l W _ _ HP.out.1 HP.out.2).mono ?_
      rintro e w1 ⟨rfl, g1⟩
      go_wp2
      go_ret2
      exact ⟨none, 0, rfl, World.ownsRow_nil _ _ _ _, g1⟩
    by_cases h2 : 100 < T
    · have E := Lib.hid (coarV_no (W := W) (T := T) (l := l) (by cases hk : coarC W T l with | false => rfl | true => have := (coarC_iff.1 hk).2.1; omega))
      have hd : decide (T < 1) = false := by simpa using h1
      have hd2 : decide (100 < T) = true := by simpa using h2
      rw [E.out]
      clear h hp
      go_enter Try.func30, Try.ntmps30
      go_wp2_with fail
      refine (validBI_at A n c l W _ _ HP.out.1 HP.out.2).mono ?_
      rintro e w1 ⟨rfl, g1⟩
      go_wp2
      go_ret2
      exact ⟨none, 0, rfl, World.ownsRow_nil _ _ _ _, g1⟩
    have hW := (okW_iff.1 hp).1
    by_cases h3 : 100 < W * T
    · have E := Lib.hid (coarV_no (W := W) (T := T) (l := l) (by cases hk : coarC W T l with | false => rfl | true => have := (coarC_iff.1 hk).2.2; omega))
      obtain ⟨m1, m2, m3⟩ := wrap_mul hW.1 hW.2 (show 1 ≤ T by omega) (by omega)
      have hd : decide (T < 1) = false := by simpa using h1
      have hd2 : decide (100 < T) = false := by simpa using h2
      have hd3 : decide (100 < W * T) = true := by simpa using h3
      rw [E.out]
      clear h hp
      go_enter Try.func30, Try.ntmps30
      go_wp2_with fail
      refine (validBI_at A n c l W _ _ HP.out.1 HP.out.2).mono ?_
      rintro e w1 ⟨rfl, g1⟩
      go_wp2
      go_ret2
      exact ⟨none, 0, rfl, World.ownsRow_nil _ _ _ _, g1⟩
    rw [coarV_yes (coarC_iff.2 ⟨okW_iff.1 hp, by omega, by omega⟩)]
    exact coarI_loop A n c l W T w h hp (by omega) (by omega) (by omega)
end Go.Proofs.Ytmokolccohobpaa
