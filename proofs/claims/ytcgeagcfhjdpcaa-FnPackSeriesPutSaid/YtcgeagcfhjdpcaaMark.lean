/- Contracts of the loops that copy, mark and look at marks, over slices of bytes and of ints. -/
import Derived.Test.YtcgeagcfhjdpcaaProg
import Derived.Test.YtcgeagcfhjdpcaaWords
namespace Go.Proofs.Ytcgeagcfhjdpcaa
set_option linter.unusedVariables false
open Go.RowKit

theorem own_addr {w : World} {base : Nat} {e : TypeId} {size n c : Nat} {A : Option Addr} {xs : List Value} (h : w.ownsRow base e size (.slice A n c) n xs) (hn : 0 < n) : ∃ g, A = some ⟨g, 0, none⟩ ∧ base ≤ g ∧ g < w.heap.size := by
  rcases h.2 with ⟨hv, rfl⟩ | ⟨g, cap, cur, hv, hb, hh, _⟩
  · omega
  · injection hv with e1 e2 e3
    subst e1
    exact ⟨g, rfl, hb, (Array.getElem?_eq_some_iff.1 hh).1⟩

theorem set_mid {α : Type} (a : List α) (x u : α) (b : List α) (k : Nat) (h : a.length = k) : (a ++ x :: b).set k u = (a ++ [u]) ++ b := by
  subst h
  simp

/-- marks: k, k + 1, .. as bytes -/
def mkB (k : Int) : Nat → List Int
  | 0 => []
  | n + 1 => mkB k n ++ [IntKind.u8.wrap (k + n)]
theorem mkB_len (k : Int) (n : Nat) : (mkB k n).length = n := by
  induction n with
  | zero => rfl
  | succ n ih => simp [mkB, ih]
theorem mkB_at (k : Int) (n i : Nat) (h : i < n) : (mkB k n)[i]? = some (IntKind.u8.wrap (k + i)) := by
  induction n with
  | zero => omega
  | succ n ih =>
    unfold mkB
    by_cases hi : i < n
    · rw [List.getElem?_append_left (by rw [mkB_len]; exact hi)]
      exact ih hi
    · have : i = n := by omega
      subst this
      rw [List.getElem?_append_right (by rw [mkB_len]; exact Nat.le_refl _), mkB_len]
      simp
/-- marks: k, k + 1, .. as ints -/
def mkI (k : Int) : Nat → List Int
  | 0 => []
  | n + 1 => mkI k n ++ [k + n]
theorem mkI_len (k : Int) (n : Nat) : (mkI k n).length = n := by
  induction n with
  | zero => rfl
  | succ n ih => simp [mkI, ih]
theorem mkI_at (k : Int) (n i : Nat) (h : i < n) : (mkI k n)[i]? = some (k + i) := by
  induction n with
  | zero => omega
  | succ n ih =>
    unfold mkI
    by_cases hi : i < n
    · rw [List.getElem?_append_left (by rw [mkI_len]; exact hi)]
      exact ih hi
    · have : i = n := by omega
      subst this
      rw [List.getElem?_append_right (by rw [mkI_len]; exact Nat.le_refl _), mkI_len]
      simp

theorem take_get {α : Type} {l : List α} {k : Nat} {x : α} (h : l[k]? = some x) : l.take (k + 1) = l.take k ++ [x] := by
  rw [List.take_add_one, h]; rfl

theorem info_toByteS : (Try.prog.info? 5).map (fun i => (i.zero, i.size, i.bytes)) = some (some (.int .u8 0), 1, 1) := by kernel_rfl
set_option maxHeartbeats 400000 in
theorem toByteS_any (A : Option Addr) (n c : Nat) (la : List Int) (w : World) (h1 : Rd w 1 A n c (bc la)) (hn : n ≤ 16777216) :
    Calls Try.prog 47 #[.slice A n c] w fun e w' => ∃ A' c', e = .returned (.slice A' n c') ∧ w'.ownsRow w.heap.size 5 1 (.slice A' n c') n (bc la) ∧ w.grownBy w' none := by
  have la1 : la.length = n := by have := h1.len; rw [bc_len] at this; omega
  have H1 := Lib.hid la1
  clear la1
  obtain ⟨i0, hi, hz0, hz1, hz2⟩ := info_parts info_toByteS
  go_enter Try.func47, Try.ntmps47
  go_wp2_with (at_make; refine wpList_make_full w rfl _ _ 22 rfl w.heap.size 5 i0 _ 1 Try.underlying22 hi hz0 hz1 _ _ _ _ n rfl rfl rfl rfl (by rw [hz2]; omega) (by simp only [maxLen]; omega) (Nat.le_refl _) ?_; intro w1 hown1 hg1)
  clear hz0 hz1 hz2
  have hlen := hown1.1
  have HL : Hid (∃ tl : List Value, tl.length = n - 0 ∧ w1.ownsRow w.heap.size 5 1 (.slice (some ⟨w.heap.size, 0, none⟩) n n) n (bc (la.take 0) ++ tl)) := ⟨_, by rw [hlen]; omega, hown1⟩
  have hsz := (own_addr (A := some ⟨w.heap.size, 0, none⟩) hown1)
  clear hlen hown1
  go_wp2
  go_loopw [4] (fun i wr => ∃ k : Nat, k ≤ n ∧ i = .int .i64 k ∧ w.grownBy wr none ∧ Hid (∃ tl : List Value, tl.length = n - k ∧ wr.ownsRow w.heap.size 5 1 (.slice (some ⟨w.heap.size, 0, none⟩) n n) n (bc (la.take k) ++ tl))) (fun i _ => n - (intOf i).toNat)
  case atStart => exact ⟨0, Nat.zero_le _, rfl, hg1, HL⟩
  case round =>
    obtain ⟨k, hk, rfl, hg, hO⟩ := hrel
    by_cases hlt : k < n
    · obtain ⟨x, hx, hdx⟩ := get_ex (l := la) (i := k) (by have := H1.out; omega)
      obtain ⟨b1, o1, rfl, hc1⟩ := (h1.keptN hg).cells hlt
      obtain ⟨tl, htl, hO⟩ := hO.out
      have hlen : (bc (la.take k)).length = k := by rw [bc_len, List.length_take]; have := H1.out; omega
      obtain ⟨t0, tl', rfl⟩ : ∃ t0 tl', tl = t0 :: tl' := by
        cases tl with
        | nil => simp at htl; omega
        | cons t0 tl' => exact ⟨t0, tl', rfl⟩
      have cx := hc1 _ _ (bc_at hx)
      have cd : wr.cell? ⟨w.heap.size, k, none⟩ = some t0 := by
        rw [hO.cellAt k (by omega), List.getElem?_append_right (by rw [hlen]; exact Nat.le_refl _), hlen]
        simp
      have fd := hO.frozenAt k
      have HO : Hid (_ ∧ _) := hO.stored k (.int .u8 x)
      have HX := Lib.hid (And.intro hx (And.intro hlen htl))
      clear hc1 hx hdx hO hlen htl HL hsz
      have hlt' : (k : Int) < (n : Int) := by omega
      go_wp2
      go_roundw
      case rel =>
        refine ⟨k + 1, by omega, by go_num, g_new hg HO.out.2 (by intro g e; injection e with e; omega), tl', by have := HX.out.2.2; simp at this; omega, ?_⟩
        have := HO.out.1
        rw [set_mid _ _ _ _ _ HX.out.2.1] at this
        rw [take_get HX.out.1, bc_app]
        exact this
      case measure => simp [intOf]; omega
    · have hkn : k = n := by omega
      have hge : ¬ (k : Int) < (n : Int) := by omega
      have HK := Lib.hid hkn
      clear hkn HL hsz
      go_wp2
      go_ret
      refine ⟨_, _, rfl, ?_, hg⟩
      obtain ⟨tl, htl, hO⟩ := hO.out
      rw [HK.out, Nat.sub_self] at htl
      rw [List.eq_nil_of_length_eq_zero htl, List.append_nil, List.take_of_length_le (by have := H1.out; have := HK.out; omega)] at hO
      exact hO

set_option maxHeartbeats 400000 in
theorem markByteS_any (A : Option Addr) (n c : Nat) (la : List Int) (k0 : Int) (base : Nat) (w : World) (h1 : w.ownsRow base 5 1 (.slice A n c) n (bc la)) (hn : n ≤ 16777216) (hk0 : 0 ≤ k0) (hk1 : k0 ≤ 1000000000000) :
    Calls Try.prog 49 #[.slice A n c, .int .i64 k0] w fun e w' => e = .returned (.int .i64 (k0 + n)) ∧ w'.ownsRow base 5 1 (.slice A n c) n (bc (mkB k0 n)) ∧ w.grownBy w' (Value.slice A n c).ownBlock := by
  have la1 : la.length = n := by have := h1.1; rw [bc_len] at this; omega
  have H1 := Lib.hid la1
  have HL : Hid (w.ownsRow base 5 1 (.slice A n c) n (bc (mkB k0 0) ++ bc (la.drop 0))) := h1
  have HA : Hid (0 < n → ∃ g, A = some ⟨g, 0, none⟩ ∧ base ≤ g ∧ g < w.heap.size) := own_addr h1
  clear la1 h1
  go_enter Try.func49, Try.ntmps49
  go_wp2
  go_loopw [1, 5] (fun q i wr => ∃ k : Nat, k ≤ n ∧ i = .int .i64 k ∧ q = .int .i64 (k0 + k) ∧ w.grownBy wr (Value.slice A n c).ownBlock ∧ Hid (wr.ownsRow base 5 1 (.slice A n c) n (bc (mkB k0 k) ++ bc (la.drop k)))) (fun _ i _ => n - (intOf i).toNat)
  case atStart => exact ⟨0, Nat.zero_le _, rfl, by go_num, g_refl _ _, HL⟩
  case round =>
    obtain ⟨k, hk, rfl, rfl, hg, hO⟩ := hrel
    by_cases hlt : k < n
    · obtain ⟨x, hx, hdx⟩ := get_ex (l := la) (i := k) (by have := H1.out; omega)
      obtain ⟨g, rfl, hgb, hgs⟩ := HA.out (by omega)
      have hO := hO.out
      have hlen : (bc (mkB k0 k)).length = k := by rw [bc_len, mkB_len]; omega
      have hsplit : bc (la.drop k) = .int .u8 x :: bc (la.drop (k + 1)) := by rw [hdx]; rfl
      rw [hsplit] at hO
      have cd : wr.cell? ⟨g, k, none⟩ = some (.int .u8 x) := by
        rw [hO.cellAt k (by omega), List.getElem?_append_right (by rw [hlen]; exact Nat.le_refl _), hlen]
        simp
      have fd := hO.frozenAt k
      have HO := Lib.hid (And.intro hO hlen)
      clear hx hdx hO hlen hsplit HL HA hgb hgs
      have hlt' : (k : Int) < (n : Int) := by omega
      go_wp2
      go_roundw
      case rel =>
        have hst := HO.out.1.stored k (.int .u8 (match IntKind.u8 with | .u8 => IntKind.u8.wrap (k0 + k) | _ => k0 + k))
        refine ⟨k + 1, by omega, by go_num, by go_num, g_trans hg hst.2, ?_⟩
        have := hst.1
        rw [set_mid _ _ _ _ _ HO.out.2] at this
        show World.ownsRow _ _ _ _ _ _ (bc (mkB k0 k ++ [_]) ++ _)
        rw [bc_app]
        exact this
      case measure => simp [intOf]; omega
    · have hkn : k = n := by omega
      have hge : ¬ (k : Int) < (n : Int) := by omega
      have HK := Lib.hid hkn
      clear hkn HL HA
      go_wp2
      go_ret
      have hO := hO.out
      rw [HK.out, List.drop_eq_nil_of_le (by have := H1.out; omega)] at hO
      have e0 : bc ([] : List Int) = [] := rfl
      rw [e0, List.append_nil] at hO
      exact ⟨ret_i (by rw [HK.out]), hO, hg⟩
set_option maxHeartbeats 400000 in
theorem markIntS_any (A : Option Addr) (n c : Nat) (la : List Int) (k0 : Int) (base : Nat) (w : World) (h1 : w.ownsRow base 3 1 (.slice A n c) n (ic la)) (hn : n ≤ 16777216) (hk0 : 0 ≤ k0) (hk1 : k0 ≤ 1000000000000) :
    Calls Try.prog 42 #[.slice A n c, .int .i64 k0] w fun e w' => e = .returned (.int .i64 (k0 + n)) ∧ w'.ownsRow base 3 1 (.slice A n c) n (ic (mkI k0 n)) ∧ w.grownBy w' (Value.slice A n c).ownBlock := by
  have la1 : la.length = n := by have := h1.1; rw [ic_len] at this; omega
  have H1 := Lib.hid la1
  have HL : Hid (w.ownsRow base 3 1 (.slice A n c) n (ic (mkI k0 0) ++ ic (la.drop 0))) := h1
  have HA : Hid (0 < n → ∃ g, A = some ⟨g, 0, none⟩ ∧ base ≤ g ∧ g < w.heap.size) := own_addr h1
  clear la1 h1
  go_enter Try.func42, Try.ntmps42
  go_wp2
  go_loopw [1, 5] (fun q i wr => ∃ k : Nat, k ≤ n ∧ i = .int .i64 k ∧ q = .int .i64 (k0 + k) ∧ w.grownBy wr (Value.slice A n c).ownBlock ∧ Hid (wr.ownsRow base 3 1 (.slice A n c) n (ic (mkI k0 k) ++ ic (la.drop k)))) (fun _ i _ => n - (intOf i).toNat)
  case atStart => exact ⟨0, Nat.zero_le _, rfl, by go_num, g_refl _ _, HL⟩
  case round =>
    obtain ⟨k, hk, rfl, rfl, hg, hO⟩ := hrel
    by_cases hlt : k < n
    · obtain ⟨x, hx, hdx⟩ := get_ex (l := la) (i := k) (by have := H1.out; omega)
      obtain ⟨g, rfl, hgb, hgs⟩ := HA.out (by omega)
      have hO := hO.out
      have hlen : (ic (mkI k0 k)).length = k := by rw [ic_len, mkI_len]; omega
      have hsplit : ic (la.drop k) = .int .i64 x :: ic (la.drop (k + 1)) := by rw [hdx]; rfl
      rw [hsplit] at hO
      have cd : wr.cell? ⟨g, k, none⟩ = some (.int .i64 x) := by
        rw [hO.cellAt k (by omega), List.getElem?_append_right (by rw [hlen]; exact Nat.le_refl _), hlen]
        simp
      have fd := hO.frozenAt k
      have HO := Lib.hid (And.intro hO hlen)
      clear hx hdx hO hlen hsplit HL HA hgb hgs
      have hlt' : (k : Int) < (n : Int) := by omega
      go_wp2
      go_roundw
      case rel =>
        have hst := HO.out.1.stored k (.int .i64 (match IntKind.i64 with | .u8 => IntKind.u8.wrap (k0 + k) | _ => k0 + k))
        refine ⟨k + 1, by omega, by go_num, by go_num, g_trans hg hst.2, ?_⟩
        have := hst.1
        rw [set_mid _ _ _ _ _ HO.out.2] at this
        show World.ownsRow _ _ _ _ _ _ (ic (mkI k0 k ++ [_]) ++ _)
        rw [ic_app]
        exact this
      case measure => simp [intOf]; omega
    · have hkn : k = n := by omega
      have hge : ¬ (k : Int) < (n : Int) := by omega
      have HK := Lib.hid hkn
      clear hkn HL HA
      go_wp2
      go_ret
      have hO := hO.out
      rw [HK.out, List.drop_eq_nil_of_le (by have := H1.out; omega)] at hO
      have e0 : ic ([] : List Int) = [] := rfl
      rw [e0, List.append_nil] at hO
      exact ⟨ret_i (by rw [HK.out]), hO, hg⟩

set_option maxHeartbeats 400000 in
theorem heldByteS_any (A : Option Addr) (n c : Nat) (k0 : Int) (w : World) (h1 : Rd w 1 A n c (bc (mkB k0 n))) (hn : n ≤ 16777216) (hk0 : 0 ≤ k0) (hk1 : k0 ≤ 1000000000000) :
    Calls Try.prog 51 #[.slice A n c, .int .i64 k0] w fun e w' => e = .returned (.int .i64 (k0 + n)) ∧ w.grownBy w' none := by
  go_enter Try.func51, Try.ntmps51
  go_wp2
  go_loopw [1, 5] (fun q i wr => ∃ k : Nat, k ≤ n ∧ i = .int .i64 k ∧ q = .int .i64 (k0 + k) ∧ w.grownBy wr none) (fun _ i _ => n - (intOf i).toNat)
  case atStart => exact ⟨0, Nat.zero_le _, rfl, by go_num, g_refl _ _⟩
  case round =>
    obtain ⟨k, hk, rfl, rfl, hg⟩ := hrel
    by_cases hlt : k < n
    · obtain ⟨b1, o1, rfl, hc1⟩ := (h1.keptN hg).cells hlt
      have cx := hc1 _ _ (bc_at (mkB_at k0 n k hlt))
      clear hc1 h1
      have hlt' : (k : Int) < (n : Int) := by omega
      go_wp2
      go_roundw
      case rel => exact ⟨k + 1, by omega, by go_num, by go_num, hg⟩
      case measure => simp [intOf]; omega
    · have hkn : k = n := by omega
      have hge : ¬ (k : Int) < (n : Int) := by omega
      have HK := Lib.hid hkn
      clear hkn
      go_wp2
      go_ret
      exact ⟨ret_i (by rw [HK.out]), hg⟩
set_option maxHeartbeats 400000 in
theorem heldIntS_any (A : Option Addr) (n c : Nat) (k0 : Int) (w : World) (h1 : Rd w 1 A n c (ic (mkI k0 n))) (hn : n ≤ 16777216) (hk0 : 0 ≤ k0) (hk1 : k0 ≤ 1000000000000) :
    Calls Try.prog 43 #[.slice A n c, .int .i64 k0] w fun e w' => e = .returned (.int .i64 (k0 + n)) ∧ w.grownBy w' none := by
  go_enter Try.func43, Try.ntmps43
  go_wp2
  go_loopw [1, 5] (fun q i wr => ∃ k : Nat, k ≤ n ∧ i = .int .i64 k ∧ q = .int .i64 (k0 + k) ∧ w.grownBy wr none) (fun _ i _ => n - (intOf i).toNat)
  case atStart => exact ⟨0, Nat.zero_le _, rfl, by go_num, g_refl _ _⟩
  case round =>
    obtain ⟨k, hk, rfl, rfl, hg⟩ := hrel
    by_cases hlt : k < n
    · obtain ⟨b1, o1, rfl, hc1⟩ := (h1.keptN hg).cells hlt
      have cx := hc1 _ _ (ic_at (mkI_at k0 n k hlt))
      clear hc1 h1
      have hlt' : (k : Int) < (n : Int) := by omega
      go_wp2
      go_roundw
      case rel => exact ⟨k + 1, by omega, by go_num, by go_num, hg⟩
      case measure => simp [intOf]; omega
    · have hkn : k = n := by omega
      have hge : ¬ (k : Int) < (n : Int) := by omega
      have HK := Lib.hid hkn
      clear hkn
      go_wp2
      go_ret
      exact ⟨ret_i (by rw [HK.out]), hg⟩
end Go.Proofs.Ytcgeagcfhjdpcaa
