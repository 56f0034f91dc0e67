/- Contracts of the loops that copy, compare, mark and look at marks, over slices of points. -/
import Derived.Test.YtcgeagcfhjdpcaaProg
import Derived.Test.YtcgeagcfhjdpcaaSer
import Derived.Test.YtcgeagcfhjdpcaaMark
import Derived.Test.YtcgeagcfhjdpcaaPApp
namespace Go.Proofs.Ytcgeagcfhjdpcaa
set_option linter.unusedVariables false
open Go.RowKit

/-- marks on points -/
def mkPs (k : Int) : Nat → List Pt
  | 0 => []
  | n + 1 => mkPs k n ++ [(k + 2 * n, k + 2 * n + 1)]
theorem mkPs_len (k : Int) (n : Nat) : (mkPs k n).length = n := by
  induction n with
  | zero => rfl
  | succ n ih => simp [mkPs, ih]
theorem mkPs_at (k : Int) (n i : Nat) (h : i < n) : (mkPs k n)[i]? = some (k + 2 * i, k + 2 * i + 1) := by
  induction n with
  | zero => omega
  | succ n ih =>
    unfold mkPs
    by_cases hi : i < n
    · rw [List.getElem?_append_left (by rw [mkPs_len]; exact hi)]
      exact ih hi
    · have : i = n := by omega
      subst this
      rw [List.getElem?_append_right (by rw [mkPs_len]; exact Nat.le_refl _), mkPs_len]
      simp
theorem set_mid2 {α : Type} (a : List α) (x y u v : α) (b : List α) (k : Nat) (h : a.length = k) : ((a ++ x :: y :: b).set k u).set (k + 1) v = (a ++ [u, v]) ++ b := by
  subst h
  simp

theorem szPointS_any (A : Option Addr) (n c : Nat) (left : Int) (w : World) (hn : n ≤ 9223372036854775807) (h0 : 0 ≤ left) (h1 : left ≤ 1048576) :
    Calls Try.prog 37 #[.slice A n c, .int .i64 left] w fun e w' => e = .returned (.int .i64 (if left < n then -1 else left - n)) ∧ w = w' := by
  by_cases h : left < (n : Int)
  · rw [if_pos h]
    go_enter Try.func37, Try.ntmps37
    go_wp2
    go_ret
    exact ⟨rfl, rfl⟩
  · rw [if_neg h]
    go_enter Try.func37, Try.ntmps37
    go_wp2
    go_ret
    exact ⟨rfl, rfl⟩
theorem toPoint_any (t v : Int) (w : World) : Calls Try.prog 73 #[.agg #[.int .i64 t, .int .i64 v]] w fun e w' => e = .returned (.agg #[.int .i64 t, .int .i64 v]) ∧ w.grownBy w' none := by
  go_enter Try.func73, Try.ntmps73
  go_wp2
  refine bodyPost_ret (v := .agg #[.int .i64 t, .int .i64 v]) (by simp [results, Try.results73, go_sem]) rfl ⟨rfl, ?_⟩
  exact g_trans (g_alloc _ _ _) (g_trans (g_alloc _ _ _) (g_alloc _ _ _))
theorem eqPoint_yes (t v : Int) (w : World) : Calls Try.prog 74 #[.agg #[.int .i64 t, .int .i64 v], .agg #[.int .i64 t, .int .i64 v]] w fun e w' => e = .returned (.bool true) ∧ w.grownBy w' none := by
  go_enter Try.func74, Try.ntmps74
  go_wp2
  go_ret
  exact ⟨rfl, g_trans (g_alloc _ _ _) (g_alloc _ _ _)⟩
theorem eqPoint_no (t v t2 v2 : Int) (w : World) (h : ¬ (t = t2 ∧ v = v2)) : Calls Try.prog 74 #[.agg #[.int .i64 t, .int .i64 v], .agg #[.int .i64 t2, .int .i64 v2]] w fun e w' => e = .returned (.bool false) ∧ w.grownBy w' none := by
  by_cases h1 : t = t2
  · subst h1
    have h2 : (v != v2) = true := by rw [bne_iff_ne]; exact fun e => h ⟨rfl, e⟩
    clear h
    go_enter Try.func74, Try.ntmps74
    go_wp2
    go_ret
    exact ⟨rfl, g_trans (g_alloc _ _ _) (g_alloc _ _ _)⟩
  · have h2 : (t != t2) = true := by rw [bne_iff_ne]; exact h1
    clear h h1
    go_enter Try.func74, Try.ntmps74
    go_wp2
    go_ret
    exact ⟨rfl, g_trans (g_alloc _ _ _) (g_alloc _ _ _)⟩
theorem eqPoint_b (t v t2 v2 : Int) (b : Bool) (w : World) (h : decide (t = t2 ∧ v = v2) = b) : Calls Try.prog 74 #[.agg #[.int .i64 t, .int .i64 v], .agg #[.int .i64 t2, .int .i64 v2]] w fun e w' => e = .returned (.bool b) ∧ w.grownBy w' none := by
  cases b with
  | false => exact eqPoint_no t v t2 v2 w (of_decide_eq_false h)
  | true =>
    obtain ⟨rfl, rfl⟩ := of_decide_eq_true h
    exact eqPoint_yes t v w

set_option maxHeartbeats 800000 in
theorem toPointS_any (A : Option Addr) (n c : Nat) (la : List Pt) (w : World) (h1 : Rd w 2 A n c (pc la)) (hn : n ≤ 16777216) :
    Calls Try.prog 38 #[.slice A n c] w fun e w' => ∃ A' c', e = .returned (.slice A' n c') ∧ w'.ownsRow w.heap.size 39 2 (.slice A' n c') n (pc la) ∧ w.grownBy w' none := by
  have la1 : la.length = n := by have := h1.len; rw [pc_len] at this; omega
  have H1 := Lib.hid la1
  clear la1
  obtain ⟨i0, hi, hz0, hz1, hz2⟩ := info_parts infoPt
  go_enter Try.func38, Try.ntmps38
  go_wp2_with (at_make; refine wpList_make_full w rfl _ _ 23 rfl w.heap.size 39 i0 _ 2 Try.underlying23 hi hz0 hz1 _ _ _ _ n rfl rfl rfl rfl (by rw [hz2]; omega) (by simp only [maxLen]; omega) (Nat.le_refl _) ?_; intro w1 hown1 hg1)
  clear hz0 hz1 hz2
  have hlen := hown1.1
  have HL : Hid (∃ tl : List Value, tl.length = n * 2 - 0 * 2 ∧ w1.ownsRow w.heap.size 39 2 (.slice (some ⟨w.heap.size, 0, none⟩) n n) n (pc (la.take 0) ++ tl)) := ⟨_, by rw [hlen]; omega, hown1⟩
  have hsz := (own_addr (A := some ⟨w.heap.size, 0, none⟩) hown1)
  clear hlen hown1
  go_wp2
  go_loopw [4] (fun i wr => ∃ k : Nat, k ≤ n ∧ i = .int .i64 k ∧ w.grownBy wr none ∧ Hid (∃ tl : List Value, tl.length = n * 2 - k * 2 ∧ wr.ownsRow w.heap.size 39 2 (.slice (some ⟨w.heap.size, 0, none⟩) n n) n (pc (la.take k) ++ tl))) (fun i _ => n - (intOf i).toNat)
  case atStart => exact ⟨0, Nat.zero_le _, rfl, hg1, HL⟩
  case round =>
    obtain ⟨k, hk, rfl, hg, hO⟩ := hrel
    by_cases hlt : k < n
    · obtain ⟨⟨t, v⟩, hx, hdx⟩ := get_ex (l := la) (i := k) (by have := H1.out; omega)
      obtain ⟨b1, o1, rfl, hc1⟩ := (h1.keptN hg).cells hlt
      have c0 := hc1 _ _ (pc_at hx).1
      have c1 := hc1 _ _ (pc_at hx).2
      simp only [Nat.add_zero, ← Nat.add_assoc] at c0 c1
      have HX := Lib.hid (And.intro hx hg)
      clear hc1 hx hdx HL
      have hlt' : (k : Int) < (n : Int) := by omega
      go_wp2_with fail
      refine (toPoint_any t v _).mono ?_
      rintro e w2 ⟨rfl, hg2⟩
      obtain ⟨tl, htl, hO⟩ := hO.out
      have hO2 := own_keptN hO hg2
      have hlen : (pc (la.take k)).length = k * 2 := by rw [pc_len, List.length_take]; have := H1.out; omega
      obtain ⟨t0, t1, tl', rfl⟩ : ∃ t0 t1 tl', tl = t0 :: t1 :: tl' := by
        match tl, htl with
        | [], htl => simp at htl; omega
        | [_], htl => simp at htl; omega
        | t0 :: t1 :: tl', _ => exact ⟨t0, t1, tl', rfl⟩
      have cd0 : w2.cell? ⟨w.heap.size, k * 2, none⟩ = some t0 := by
        rw [hO2.cellAt (k * 2) (by omega), List.getElem?_append_right (by rw [hlen]; exact Nat.le_refl _), hlen]
        simp
      have cd1 : w2.cell? ⟨w.heap.size, k * 2 + 1, none⟩ = some t1 := by
        rw [hO2.cellAt (k * 2 + 1) (by omega), List.getElem?_append_right (by rw [hlen]; omega), hlen]
        simp
      have fd0 := hO2.frozenAt (k * 2)
      have fd1 := hO2.frozenAt (k * 2 + 1)
      have HO : Hid (_ ∧ _) := hO2.stored (k * 2) (.int .i64 t)
      have HO2 : Hid (_ ∧ _) := HO.out.1.stored (k * 2 + 1) (.int .i64 v)
      have HT := Lib.hid (And.intro hlen (And.intro htl hg2))
      clear hO hO2 hlen htl hg2 hsz
      go_wp2
      go_roundw
      case rel =>
        refine ⟨k + 1, by omega, by go_num, ?_, tl', by have := HT.out.2.1; simp at this; omega, ?_⟩
        · exact g_new (g_new (g_trans HX.out.2 HT.out.2.2) HO.out.2 (by intro g e; injection e with e; omega)) HO2.out.2 (by intro g e; injection e with e; omega)
        · have := HO2.out.1
          rw [set_mid2 _ _ _ _ _ _ _ HT.out.1] at this
          rw [take_get HX.out.1, pc_app]
          exact this
      case measure => simp [intOf]; omega
    · have hkn : k = n := by omega
      have hge : ¬ (k : Int) < (n : Int) := by omega
      have HK := Lib.hid hkn
      clear hkn HL hsz
      go_wp2
      go_ret
      refine ⟨_, _, rfl, ?_, hg⟩
      obtain ⟨tl, htl, hO⟩ := hO.out
      rw [HK.out, Nat.sub_self] at htl
      rw [List.eq_nil_of_length_eq_zero htl, List.append_nil, List.take_of_length_le (by have := H1.out; have := HK.out; omega)] at hO
      exact hO

set_option maxHeartbeats 800000 in
theorem markPointS_any (A : Option Addr) (n c : Nat) (la : List Pt) (k0 : Int) (base : Nat) (w : World) (h1 : w.ownsRow base 39 2 (.slice A n c) n (pc la)) (hn : n ≤ 16777216) (hk0 : 0 ≤ k0) (hk1 : k0 ≤ 1000000000000) :
    Calls Try.prog 41 #[.slice A n c, .int .i64 k0] w fun e w' => e = .returned (.int .i64 (k0 + 2 * n)) ∧ w'.ownsRow base 39 2 (.slice A n c) n (pc (mkPs k0 n)) ∧ w.grownBy w' (Value.slice A n c).ownBlock := by
  have la1 : la.length = n := by have := h1.1; rw [pc_len] at this; omega
  have H1 := Lib.hid la1
  have HL : Hid (w.ownsRow base 39 2 (.slice A n c) n (pc (mkPs k0 0) ++ pc (la.drop 0))) := h1
  have HA : Hid (0 < n → ∃ g, A = some ⟨g, 0, none⟩ ∧ base ≤ g ∧ g < w.heap.size) := own_addr h1
  clear la1 h1
  go_enter Try.func41, Try.ntmps41
  go_wp2
  go_loopw [1, 5] (fun q i wr => ∃ k : Nat, k ≤ n ∧ i = .int .i64 k ∧ q = .int .i64 (k0 + 2 * k) ∧ w.grownBy wr (Value.slice A n c).ownBlock ∧ Hid (wr.ownsRow base 39 2 (.slice A n c) n (pc (mkPs k0 k) ++ pc (la.drop k)))) (fun _ i _ => n - (intOf i).toNat)
  case atStart => exact ⟨0, Nat.zero_le _, rfl, by go_num, g_refl _ _, HL⟩
  case round =>
    obtain ⟨k, hk, rfl, rfl, hg, hO⟩ := hrel
    by_cases hlt : k < n
    · obtain ⟨⟨t, v⟩, hx, hdx⟩ := get_ex (l := la) (i := k) (by have := H1.out; omega)
      obtain ⟨g, rfl, hgb, hgs⟩ := HA.out (by omega)
      have hO := hO.out
      have hlen : (pc (mkPs k0 k)).length = k * 2 := by rw [pc_len, mkPs_len]
      have hsplit : pc (la.drop k) = .int .i64 t :: .int .i64 v :: pc (la.drop (k + 1)) := by rw [hdx]; rfl
      rw [hsplit] at hO
      have cd0 : wr.cell? ⟨g, k * 2, none⟩ = some (.int .i64 t) := by
        rw [hO.cellAt (k * 2) (by omega), List.getElem?_append_right (by rw [hlen]; exact Nat.le_refl _), hlen]
        simp
      have cd1 : wr.cell? ⟨g, k * 2 + 1, none⟩ = some (.int .i64 v) := by
        rw [hO.cellAt (k * 2 + 1) (by omega), List.getElem?_append_right (by rw [hlen]; omega), hlen]
        simp
      have fd0 := hO.frozenAt (k * 2)
      have fd1 := hO.frozenAt (k * 2 + 1)
      have HO : Hid (_ ∧ _) := hO.stored (k * 2) (.int .i64 (k0 + 2 * k))
      have HO2 : Hid (_ ∧ _) := HO.out.1.stored (k * 2 + 1) (.int .i64 (k0 + 2 * k + 1))
      have HT := Lib.hid hlen
      have HG := Lib.hid hg
      clear hx hdx hO hlen hsplit HL HA hgb hgs hg
      have hlt' : (k : Int) < (n : Int) := by omega
      go_wp2
      go_roundw
      case rel =>
        refine ⟨k + 1, by omega, by go_num, by go_num, g_trans (g_trans HG.out HO.out.2) HO2.out.2, ?_⟩
        have := HO2.out.1
        rw [set_mid2 _ _ _ _ _ _ _ HT.out] at this
        show World.ownsRow _ _ _ _ _ _ (pc (mkPs k0 k ++ [_]) ++ _)
        rw [pc_app]
        exact this
      case measure => simp [intOf]; omega
    · have hkn : k = n := by omega
      have hge : ¬ (k : Int) < (n : Int) := by omega
      have HK := Lib.hid hkn
      clear hkn HL HA
      go_wp2
      go_ret
      have hO := hO.out
      rw [HK.out, List.drop_eq_nil_of_le (by have := H1.out; omega)] at hO
      have e0 : pc ([] : List Pt) = [] := rfl
      rw [e0, List.append_nil] at hO
      exact ⟨ret_i (by rw [HK.out]), hO, hg⟩

set_option maxHeartbeats 400000 in
theorem heldPointS_any (A : Option Addr) (n c : Nat) (k0 : Int) (w : World) (h1 : Rd w 2 A n c (pc (mkPs k0 n))) (hn : n ≤ 16777216) (hk0 : 0 ≤ k0) (hk1 : k0 ≤ 1000000000000) :
    Calls Try.prog 50 #[.slice A n c, .int .i64 k0] w fun e w' => e = .returned (.int .i64 (k0 + 2 * n)) ∧ w.grownBy w' none := by
  go_enter Try.func50, Try.ntmps50
  go_wp2
  go_loopw [1, 5] (fun q i wr => ∃ k : Nat, k ≤ n ∧ i = .int .i64 k ∧ q = .int .i64 (k0 + 2 * k) ∧ w.grownBy wr none) (fun _ i _ => n - (intOf i).toNat)
  case atStart => exact ⟨0, Nat.zero_le _, rfl, by go_num, g_refl _ _⟩
  case round =>
    obtain ⟨k, hk, rfl, rfl, hg⟩ := hrel
    by_cases hlt : k < n
    · obtain ⟨b1, o1, rfl, hc1⟩ := (h1.keptN hg).cells hlt
      have hp := pc_at (mkPs_at k0 n k hlt)
      have c0 := hc1 _ _ hp.1
      have c1 := hc1 _ _ hp.2
      simp only [Nat.add_zero, ← Nat.add_assoc] at c0 c1
      clear hc1 h1 hp
      have hlt' : (k : Int) < (n : Int) := by omega
      go_wp2
      go_roundw
      case rel => exact ⟨k + 1, by omega, by go_num, by go_num, hg⟩
      case measure => simp [intOf]; omega
    · have hkn : k = n := by omega
      have hge : ¬ (k : Int) < (n : Int) := by omega
      have HK := Lib.hid hkn
      clear hkn
      go_wp2
      go_ret
      exact ⟨ret_i (by rw [HK.out]), hg⟩

attribute [local irreducible] wpQuiet
theorem pt_eq_iff (a b : Pt) : (a = b) ↔ (a.1 = b.1 ∧ a.2 = b.2) := Prod.ext_iff
theorem step_eq {la lb : List Pt} {k : Nat} {t v t2 v2 : Int} (h : la = lb ↔ la.drop k = lb.drop k) (hx : la.drop k = (t, v) :: la.drop (k + 1)) (hy : lb.drop k = (t2, v2) :: lb.drop (k + 1)) : la = lb ↔ ((t = t2 ∧ v = v2) ∧ la.drop (k + 1) = lb.drop (k + 1)) := by
  rw [h, hx, hy]
  simp
set_option maxHeartbeats 1600000 in
theorem eqPointS_any (A B : Option Addr) (n c m d : Nat) (la lb : List Pt) (w : World) (h1 : Rd w 2 A n c (pc la)) (h2 : Rd w 2 B m d (pc lb)) :
    Calls Try.prog 40 #[.slice A n c, .slice B m d] w fun e w' => e = .returned (.bool (decide (la = lb))) ∧ w.grownBy w' none := by
  have la1 : la.length = n := by have := h1.len; rw [pc_len] at this; omega
  have lb1 : lb.length = m := by have := h2.len; rw [pc_len] at this; omega
  have nb : n ≤ 9223372036854775807 := Nat.le_trans h1.cap h1.lim
  by_cases hnm : n = m
  · subst hnm
    have H1 := Lib.hid la1
    have H2 := Lib.hid lb1
    clear la1 lb1
    go_enter Try.func40, Try.ntmps40
    go_wp2
    go_loopw [5] (fun i wr => ∃ k : Nat, k ≤ n ∧ i = .int .i64 k ∧ w.grownBy wr none ∧ Hid (la = lb ↔ la.drop k = lb.drop k)) (fun i _ => n - (intOf i).toNat)
    case atStart => exact ⟨0, Nat.zero_le _, rfl, g_refl _ _, Iff.rfl⟩
    case round =>
      obtain ⟨k, hk, rfl, hg, hI⟩ := hrel
      by_cases hlt : k < n
      · obtain ⟨⟨t, v⟩, hx, hdx⟩ := get_ex (l := la) (i := k) (by have := H1.out; omega)
        obtain ⟨⟨t2, v2⟩, hy, hdy⟩ := get_ex (l := lb) (i := k) (by have := H2.out; omega)
        obtain ⟨b1, o1, rfl, hc1⟩ := (h1.keptN hg).cells hlt
        obtain ⟨b2, o2, rfl, hc2⟩ := (h2.keptN hg).cells hlt
        have c0 := hc1 _ _ (pc_at hx).1
        have c1 := hc1 _ _ (pc_at hx).2
        have c2 := hc2 _ _ (pc_at hy).1
        have c3 := hc2 _ _ (pc_at hy).2
        simp only [Nat.add_zero, ← Nat.add_assoc] at c0 c1 c2 c3
        have HX := Lib.hid (step_eq hI.out hdx hdy)
        clear hc1 hc2 hx hy hdx hdy h1 h2 hI
        have hlt' : (k : Int) < (n : Int) := by omega
        go_wp2_with fail
        have d0 := gw_cellW c0
        have d1 := gw_cellW c1
        have d2 := gw_cellW c2
        have d3 := gw_cellW c3
        clear c0 c1 c2 c3
        refine wp_region_gw (W := wr) (by kernel_rfl) (by kernel_rfl) (g_refl _ _) ?_
        by_cases hxy : t = t2 ∧ v = v2
        · obtain ⟨rfl, rfl⟩ := hxy
          repeat (quiet_step ((go_at_call 74; exact gw_call (eqPoint_b _ _ _ _ true _ (by simp)))))
          repeat (quiet_step (fail))
          refine wpQuiet_nil ?_
          rintro _ ⟨⟨w2, hg2⟩, rfl⟩
          go_wp2
          go_roundw
          case rel => exact ⟨k + 1, by omega, by go_num, g_trans hg hg2, HX.out.trans (by simp)⟩
          case measure => simp [intOf]; omega
        · have HN := Lib.hid hxy
          have hb : (t == t2) = false ∨ ((t == t2) = true ∧ (v == v2) = false) := by
            simp only [beq_iff_eq, beq_eq_false_iff_ne]
            omega
          clear hxy
          rcases hb with hb | ⟨hb, hb2⟩
          all_goals
            repeat (quiet_step ((go_at_call 74; exact gw_call (eqPoint_b _ _ _ _ false _ (decide_eq_false HN.out)))))
            repeat (quiet_step (fail))
            refine wpQuiet_nil ?_
            rintro _ ⟨⟨w2, hg2⟩, rfl⟩
            go_wp2
            go_ret
            refine ⟨ret_b ?_, g_trans hg hg2⟩
            exact (decide_eq_false (fun h => HN.out (HX.out.1 h).1)).symm
      · have hkn : k = n := by omega
        have hge : ¬ (k : Int) < (n : Int) := by omega
        have HK := Lib.hid hkn
        clear hkn
        go_wp2
        go_ret
        refine ⟨ret_b ?_, hg⟩
        have he : la = lb := by
          rw [hI.out, List.drop_eq_nil_of_le (by have := H1.out; have := HK.out; omega), List.drop_eq_nil_of_le (by have := H2.out; have := HK.out; omega)]
        simp [he]
  · have hne : ((n : Int) != (m : Int)) = true := by rw [bne_iff_ne]; omega
    have hab : Hid (¬ la = lb) := by
      intro h
      rw [h] at la1
      omega
    clear la1 lb1
    go_enter Try.func40, Try.ntmps40
    go_wp2
    go_ret
    exact ⟨ret_b (by simp [hab.out]), g_refl _ _⟩
theorem eqPointS_same (A B : Option Addr) (n c m d : Nat) (l : List Pt) (w : World) (h1 : Rd w 2 A n c (pc l)) (h2 : Rd w 2 B m d (pc l)) :
    Calls Try.prog 40 #[.slice A n c, .slice B m d] w fun e w' => e = .returned (.bool true) ∧ w.grownBy w' none := by
  refine (eqPointS_any A B n c m d l l w h1 h2).mono ?_
  rintro e w' ⟨rfl, hg⟩
  exact ⟨ret_b (by simp), hg⟩
theorem eqPointS_diff (A B : Option Addr) (n c m d : Nat) (la lb : List Pt) (w : World) (h1 : Rd w 2 A n c (pc la)) (h2 : Rd w 2 B m d (pc lb)) (hne : ¬ la = lb) :
    Calls Try.prog 40 #[.slice A n c, .slice B m d] w fun e w' => e = .returned (.bool false) ∧ w.grownBy w' none := by
  refine (eqPointS_any A B n c m d la lb w h1 h2).mono ?_
  rintro e w' ⟨rfl, hg⟩
  exact ⟨ret_b (by simp [hne]), hg⟩
set_option maxHeartbeats 1600000 in
theorem equalPoints_any (A B : Option Addr) (n c m d : Nat) (la lb : List Pt) (w : World) (h1 : Rd w 2 A n c (pc la)) (h2 : Rd w 2 B m d (pc lb)) :
    Calls Try.prog 23 #[.slice A n c, .slice B m d] w fun e w' => e = .returned (.bool (decide (la = lb))) ∧ w.grownBy w' none := by
  have la1 : la.length = n := by have := h1.len; rw [pc_len] at this; omega
  have lb1 : lb.length = m := by have := h2.len; rw [pc_len] at this; omega
  have nb : n ≤ 9223372036854775807 := Nat.le_trans h1.cap h1.lim
  by_cases hnm : n = m
  · subst hnm
    have H1 := Lib.hid la1
    have H2 := Lib.hid lb1
    clear la1 lb1
    go_enter Try.func23, Try.ntmps23
    go_wp2
    go_loopw [5] (fun i wr => ∃ k : Nat, k ≤ n ∧ i = .int .i64 k ∧ w.grownBy wr none ∧ Hid (la = lb ↔ la.drop k = lb.drop k)) (fun i _ => n - (intOf i).toNat)
    case atStart => exact ⟨0, Nat.zero_le _, rfl, g_refl _ _, Iff.rfl⟩
    case round =>
      obtain ⟨k, hk, rfl, hg, hI⟩ := hrel
      by_cases hlt : k < n
      · obtain ⟨⟨t, v⟩, hx, hdx⟩ := get_ex (l := la) (i := k) (by have := H1.out; omega)
        obtain ⟨⟨t2, v2⟩, hy, hdy⟩ := get_ex (l := lb) (i := k) (by have := H2.out; omega)
        obtain ⟨b1, o1, rfl, hc1⟩ := (h1.keptN hg).cells hlt
        obtain ⟨b2, o2, rfl, hc2⟩ := (h2.keptN hg).cells hlt
        have c0 := hc1 _ _ (pc_at hx).1
        have c1 := hc1 _ _ (pc_at hx).2
        have c2 := hc2 _ _ (pc_at hy).1
        have c3 := hc2 _ _ (pc_at hy).2
        simp only [Nat.add_zero, ← Nat.add_assoc] at c0 c1 c2 c3
        have HX := Lib.hid (step_eq hI.out hdx hdy)
        clear hc1 hc2 hx hy hdx hdy h1 h2 hI
        have hlt' : (k : Int) < (n : Int) := by omega
        go_wp2_with fail
        have d0 := gw_cellW c0
        have d1 := gw_cellW c1
        have d2 := gw_cellW c2
        have d3 := gw_cellW c3
        clear c0 c1 c2 c3
        refine wp_region_gw (W := wr) (by kernel_rfl) (by kernel_rfl) (g_refl _ _) ?_
        by_cases hxy : t = t2 ∧ v = v2
        · obtain ⟨rfl, rfl⟩ := hxy
          repeat (quiet_step ((go_at_call 74; exact gw_call (eqPoint_b _ _ _ _ true _ (by simp)))))
          repeat (quiet_step (fail))
          refine wpQuiet_nil ?_
          rintro _ ⟨⟨w2, hg2⟩, rfl⟩
          go_wp2
          go_roundw
          case rel => exact ⟨k + 1, by omega, by go_num, g_trans hg hg2, HX.out.trans (by simp)⟩
          case measure => simp [intOf]; omega
        · have HN := Lib.hid hxy
          have hb : (t == t2) = false ∨ ((t == t2) = true ∧ (v == v2) = false) := by
            simp only [beq_iff_eq, beq_eq_false_iff_ne]
            omega
          clear hxy
          rcases hb with hb | ⟨hb, hb2⟩
          all_goals
            repeat (quiet_step ((go_at_call 74; exact gw_call (eqPoint_b _ _ _ _ false _ (decide_eq_false HN.out)))))
            repeat (quiet_step (fail))
            refine wpQuiet_nil ?_
            rintro _ ⟨⟨w2, hg2⟩, rfl⟩
            go_wp2
            go_ret
            refine ⟨ret_b ?_, g_trans hg hg2⟩
            exact (decide_eq_false (fun h => HN.out (HX.out.1 h).1)).symm
      · have hkn : k = n := by omega
        have hge : ¬ (k : Int) < (n : Int) := by omega
        have HK := Lib.hid hkn
        clear hkn
        go_wp2
        go_ret
        refine ⟨ret_b ?_, hg⟩
        have he : la = lb := by
          rw [hI.out, List.drop_eq_nil_of_le (by have := H1.out; have := HK.out; omega), List.drop_eq_nil_of_le (by have := H2.out; have := HK.out; omega)]
        simp [he]
  · have hne : ((n : Int) != (m : Int)) = true := by rw [bne_iff_ne]; omega
    have hab : Hid (¬ la = lb) := by
      intro h
      rw [h] at la1
      omega
    clear la1 lb1
    go_enter Try.func23, Try.ntmps23
    go_wp2
    go_ret
    exact ⟨ret_b (by simp [hab.out]), g_refl _ _⟩
theorem equalPoints_same (A B : Option Addr) (n c m d : Nat) (l : List Pt) (w : World) (h1 : Rd w 2 A n c (pc l)) (h2 : Rd w 2 B m d (pc l)) :
    Calls Try.prog 23 #[.slice A n c, .slice B m d] w fun e w' => e = .returned (.bool true) ∧ w.grownBy w' none := by
  refine (equalPoints_any A B n c m d l l w h1 h2).mono ?_
  rintro e w' ⟨rfl, hg⟩
  exact ⟨ret_b (by simp), hg⟩
theorem equalPoints_diff (A B : Option Addr) (n c m d : Nat) (la lb : List Pt) (w : World) (h1 : Rd w 2 A n c (pc la)) (h2 : Rd w 2 B m d (pc lb)) (hne : ¬ la = lb) :
    Calls Try.prog 23 #[.slice A n c, .slice B m d] w fun e w' => e = .returned (.bool false) ∧ w.grownBy w' none := by
  refine (equalPoints_any A B n c m d la lb w h1 h2).mono ?_
  rintro e w' ⟨rfl, hg⟩
  exact ⟨ret_b (by simp [hne]), hg⟩
end Go.Proofs.Ytcgeagcfhjdpcaa
