/- The contract of TimeSteps of the program. -/
import Derived.Test.YtcgeagcfhjdpcaaColl
import Derived.Test.YtcgeagcfhjdpcaaPts
namespace Go.Proofs.Ytcgeagcfhjdpcaa
set_option linter.unusedVariables false
open Go.RowKit

set_option maxHeartbeats 1600000 in
theorem stepsI_at (A : Option Addr) (n c : Nat) (l : List Pt) (L : List Int) (w : World) (h : Rd w 2 A n c (pc l)) (hL : stepsV l = L) :
    Calls Try.prog 35 #[.slice A n c] w (Numbers L w) := by
  subst hL
  have hlen : l.length = n := by have := h.len; rw [pc_len] at this; omega
  cases hv : validL l with
  | false =>
    rw [stepsV_no hv]
    have HV := Lib.hid hv
    clear hv hlen
    go_enter Try.func35, Try.ntmps35
    go_wp2_with fail
    refine (validI_at A n c l false w h HV.out).mono ?_
    rintro e w1 ⟨rfl, g1⟩
    go_wp2
    go_ret
    exact ⟨_, _, rfl, World.ownsRow_nil _ _ _ _, g1⟩
  | true =>
    rw [stepsV_yes hv]
    have h16 := ((validL_iff l).1 hv).1
    have hs := valid_small hv
    have ht2 : okN (timesL l) = true := okN_iff.2 ⟨by unfold timesL; rw [List.length_map]; exact h16, fun x hx => by have := times_bd hs x hx; omega⟩
    have hd2 : okN (delL 0 (timesL l)) = true := okN_iff.2 ⟨by unfold timesL; rw [del_len, List.length_map]; exact h16, fun x hx => by have := dtimes_bd hs x hx; omega⟩
    have HD : Hid (delV (timesL l) = delL 0 (timesL l) ∧ delV (delL 0 (timesL l)) = stepsL l) := ⟨delV_yes ht2, delV_yes hd2⟩
    have HV := Lib.hid hv
    have H1 := Lib.hid hlen
    have hn16 : n ≤ 16 := by omega
    obtain ⟨i0, hi0, hz0, hz1, hz2⟩ := info_parts infoInt
    clear hv h16 hlen hs ht2 hd2
    go_enter Try.func35, Try.ntmps35
    go_wp2_with fail
    refine (validI_at A n c l true w h HV.out).mono ?_
    rintro e w1 ⟨rfl, g1⟩
    have hsz1 := g1.size
    go_wp2_with (at_make; refine wpList_make_own _ rfl _ _ 33 rfl w.heap.size 3 i0 (.int .i64 0) 1 Try.underlying33 hi0 hz0 hz1 .i64 .i64 _ n rfl rfl rfl (by rw [hz2]; omega) (by unfold maxLen; omega) hsz1 ?_; intro w2 o2 g2)
    have G2 := g_trans g1 g2
    have o2' : w2.ownsRow w.heap.size 3 1 (.slice (some ⟨w1.heap.size, 0, none⟩) ([] : List Int).length n) ([] : List Int).length (ic []) := o2
    clear o2 g1 g2 hsz1
    go_loopw [3, 14] (fun o i wr => ∃ (k : Nat) (A' : Option Addr) (c' : Nat) (L : List Int), k ≤ n ∧ i = .int .i64 k ∧ o = .slice A' L.length c' ∧ L.length ≤ 1000 ∧ wr.ownsRow w.heap.size 3 1 (.slice A' L.length c') L.length (ic L) ∧ w.grownBy wr none ∧ Hid (L = timesL (l.take k))) (fun _ i _ => n - (Go.RowKit.intOf i).toNat)
    case atStart => exact ⟨0, _, _, [], Nat.zero_le _, rfl, rfl, by simp, o2', G2, rfl⟩
    case round =>
      obtain ⟨k, A', c', L, hk, rfl, rfl, hL, hown, hg, hI⟩ := hrel
      have hsz := hg.size
      clear o2' G2
      by_cases hlt : k < n
      · obtain ⟨⟨t, v⟩, hx, hdx⟩ := get_ex (l := l) (i := k) (by have := H1.out; omega)
        obtain ⟨b1, o2, rfl, hc1⟩ := (h.keptN hg).cells hlt
        have cx := hc1 _ _ (pc_at hx).1
        have cy := hc1 _ _ (pc_at hx).2
        simp only [Nat.add_zero, ← Nat.add_assoc] at cx cy
        have hlt' : (k : Int) < (n : Int) := by omega
        have HI2 : Hid (L ++ [t] = timesL (l.take (k + 1))) := by
          show _ = _
          rw [take_get hx, hI.out]
          unfold timesL
          rw [List.map_append]
          rfl
        have HL2 : Hid ((L ++ [t]).length ≤ 1000) := by
          show _ ≤ _
          rw [HI2.out]
          unfold timesL
          rw [List.length_map, List.length_take]
          omega
        clear hc1 hx hdx hI
        have ho5 := own_keptN hown (g_alloc wr (.cells #[.int .i64 t, .int .i64 v] 39) none)
        have hs5 : w.heap.size ≤ (wr.alloc (.cells #[.int .i64 t, .int .i64 v] 39)).heap.size := by simp; omega
        have hg5 := g_trans hg (g_alloc wr (.cells #[.int .i64 t, .int .i64 v] 39) none)
        go_wp2_with (at_builtin; refine app_in rfl (.tmp 18) (.tmp 21) rfl w.heap.size L (wr.alloc (.cells #[.int .i64 t, .int .i64 v] 39)) t A' c' rfl ho5 (by simp [Act.eval]) (by omega) hs5 ?_; intro A6 c6 w6 hown6 hg6 _)
        have G6 := g_new hg5 hg6 (own_new ho5)
        clear hown hg6 cx cy hg ho5 hs5 hg5
        go_wp2
        go_roundw
        case rel => exact ⟨k + 1, A6, c6, L ++ [t], by omega, by go_num, by simp, HL2.out, hown6, G6, HI2⟩
        case measure => simp [Go.RowKit.intOf]; omega
      · have hge : ¬ (k : Int) < (n : Int) := by omega
        have e1 : L = timesL l := by rw [hI.out, List.take_of_length_le (by have := H1.out; omega)]
        have E1 := Lib.hid e1
        have RL := Lib.hid (Rd.own hown)
        clear e1 hI hown
        go_wp2_with fail
        refine (deltasI_at A' _ c' L (delL 0 (timesL l)) wr RL.out (by rw [E1.out]; exact HD.out.1)).mono ?_
        rintro e w3 ⟨A3, c3, rfl, o3, g3⟩
        have R3 := Lib.hid (Rd.own o3)
        have G3 := g_trans hg g3
        have hsz3 := G3.size
        clear o3 g3 hg
        go_wp2_with fail
        refine (deltasI_at A3 _ c3 (delL 0 (timesL l)) (stepsL l) w3 R3.out HD.out.2).mono ?_
        rintro e w4 ⟨A4, c4, rfl, o4, g4⟩
        have O4 := own_le o4 hsz3
        have G4 := g_trans G3 g4
        clear o4 g4
        go_wp2
        go_ret
        exact ⟨A4, c4, rfl, O4, G4⟩
end Go.Proofs.Ytcgeagcfhjdpcaa
