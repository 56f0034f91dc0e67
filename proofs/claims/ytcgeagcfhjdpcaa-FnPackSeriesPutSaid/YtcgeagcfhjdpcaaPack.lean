/- Contracts of packing, of the program and of the reference. -/
import Derived.Test.YtcgeagcfhjdpcaaTim
import Derived.Test.YtcgeagcfhjdpcaaPlainC3
import Derived.Test.YtcgeagcfhjdpcaaLive
import Derived.Test.YtcgeagcfhjdpcaaVar
namespace Go.Proofs.Ytcgeagcfhjdpcaa
set_option linter.unusedVariables false
open Go.RowKit

def Bytes (L : List Int) (w : World) (e : Ending) (w' : World) : Prop := ∃ A c, e = .returned (.slice A L.length c) ∧ w'.ownsRow w.heap.size 5 1 (.slice A L.length c) L.length (bc L) ∧ w.grownBy w' none
abbrev nuR (A : Option Addr) (n c : Nat) (l : List Int) : Row := ⟨3, 1, .slice A n c, n, ic l⟩
abbrev byR (A : Option Addr) (c : Nat) (l : List Int) : Row := ⟨5, 1, .slice A l.length c, l.length, bc l⟩
theorem putS_at (n : Int) (P : List Int) (w : World) (h0 : 0 ≤ n) (h1 : n ≤ 200000) (hP : putL n = P) : Calls Try.prog 77 #[.int .i64 n] w (Bytes P w) := by
  subst hP
  exact putS_any n w h0 (by omega)
theorem putI_at (n : Int) (P : List Int) (w : World) (h0 : 0 ≤ n) (h1 : n ≤ 200000) (hP : putL n = P) : Calls Try.prog 54 #[.int .i64 n] w (Bytes P w) := by
  subst hP
  have := putVI_any n w
  rw [putV_in h0 h1] at this
  exact this
theorem live_by {W w w' : World} {A A' A6 : Option Addr} {n c c' c6 : Nat} {st acc acc2 : List Int} (L : Live W w [nuR A n c st, byR A' c' acc]) (o : w'.ownsRow W.heap.size 5 1 (.slice A6 acc2.length c6) acc2.length (bc acc2)) (g : w.grownBy w' (Value.slice A' acc.length c').ownBlock) (f : Lies w (.slice A' acc.length c') (.slice A6 acc2.length c6)) :
    Live W w' [nuR A n c st, byR A6 c6 acc2] := by
  have h := L.app 1 rfl o g f
  exact h
/-- what one round of packing asks -/
theorem pack_round {l : List Pt} (hs : smallP l) {k : Nat} (hk : k < l.length) : ∃ t v a y z1 z2 P1 P2, l[k]? = some (t, v) ∧ (stepsL l)[k]? = some a ∧ beforeV l k = y ∧ beforeV l (k + 1) = v ∧ zigL a = z1 ∧ zigL (v - y) = z2 ∧ putL z1 = P1 ∧ putL z2 = P2 ∧ packK l (k + 1) = packK l k ++ P1 ++ P2 ∧
    (-1000 ≤ v ∧ v ≤ 1000) ∧ (-4000 ≤ a ∧ a ≤ 4000) ∧ (-1000 ≤ y ∧ y ≤ 1000) ∧ (0 ≤ z1 ∧ z1 ≤ 200000) ∧ (0 ≤ z2 ∧ z2 ≤ 200000) ∧ P1.length ≤ 3 ∧ P2.length ≤ 3 := by
  obtain ⟨⟨t, v⟩, hx, -⟩ := get_ex hk
  obtain ⟨a, ha, -⟩ := get_ex (l := stepsL l) (i := k) (by rw [steps_len]; exact hk)
  have hv := hs _ (List.mem_of_getElem? hx)
  have hb := steps_bd hs a (List.mem_of_getElem? ha)
  have hy := before_bd hs k
  refine ⟨t, v, a, _, _, _, _, _, hx, ha, rfl, before_step hx, rfl, rfl, rfl, rfl, packK_step hx ha, hv.2, hb, hy, zig_bd (by omega), zig_bd (by simp only at hv; omega), putL_len.2, putL_len.2⟩

set_option maxHeartbeats 3200000 in
theorem pack_any (A : Option Addr) (n c : Nat) (l : List Pt) (w : World) (h : Rd w 2 A n c (pc l)) (hs : smallP l) (hn : n ≤ 16) :
    Calls Try.prog 57 #[.slice A n c] w (Bytes (packL l) w) := by
  have hlen : l.length = n := by have := h.len; rw [pc_len] at this; omega
  have H1 := Lib.hid hlen
  have HS := Lib.hid hs
  have hw0 : IntKind.u8.wrap (n : Int) = (n : Int) := IntWalk.u8_in _ (by omega)
  clear hs
  go_enter Try.func57, Try.ntmps57
  go_wp2_with fail
  have L0 : Live w (w.alloc (.cells #[.int .u8 (n : Int)] 5)) [byR (some ⟨w.heap.size, 0, none⟩) 1 [(n : Int)]] := (Live.zero w).new (lit_own w w.heap.size 5 1 [.int .u8 (n : Int)] 1 (Nat.le_refl _) (by omega) rfl) (g_alloc _ _ _)
  refine (timesOf_any A n c l _ (h.keptN L0.grown) (by omega)).mono ?_
  rintro e w2 ⟨A2, c2, rfl, o2, g2⟩
  have L2 := L0.step g2
  clear L0
  go_wp2_with fail
  refine (deltas_any A2 _ c2 (timesL l) w2 (Rd.own o2) (by unfold timesL; rw [List.length_map]; omega) (fun x hx => by have := times_bd HS.out x hx; omega)).mono ?_
  rintro e w3 ⟨A3, c3, rfl, o3, g3⟩
  have L3 := L2.step g3
  clear L2 o2 g2
  go_wp2_with fail
  refine (deltas_any A3 _ c3 (delL 0 (timesL l)) w3 (Rd.own o3) (by unfold timesL; rw [del_len, List.length_map]; omega) (fun x hx => by have := dtimes_bd HS.out x hx; omega)).mono ?_
  rintro e w4 ⟨A4, c4, rfl, o4, g4⟩
  have hst : (delL 0 (delL 0 (timesL l))).length = n := by have := steps_len l; unfold stepsL at this; omega
  rw [hst] at o4
  rw [hst]
  have L4 : Hid (Live w w4 [nuR A4 n c4 (stepsL l), byR (some ⟨w.heap.size, 0, none⟩) 1 [(n : Int)]]) := L3.new o4 g4
  have HB0 : Hid (packK l 0 = [(n : Int)]) := by rw [packK_zero, H1.out]; rfl
  clear L3 o3 g3 o4 g4 hst
  go_wp2
  go_loopw [3, 5, 6] (fun o la i wr => ∃ (k : Nat) (A' : Option Addr) (c' : Nat) (acc : List Int), k ≤ n ∧ i = .int .i64 k ∧ la = .int .i64 (beforeV l k) ∧ o = .slice A' acc.length c' ∧ acc.length ≤ 1000 ∧ Hid (Live w wr [nuR A4 n c4 (stepsL l), byR A' c' acc]) ∧ Hid (acc = packK l k)) (fun _ _ i _ => n - (Go.RowKit.intOf i).toNat)
  case atStart => exact ⟨0, _, _, [(n : Int)], Nat.zero_le _, rfl, by rw [before_zero], rfl, by simp, L4, HB0.out.symm⟩
  case round =>
    obtain ⟨k, A', c', acc, hk, rfl, rfl, rfl, hacc, hL, hI⟩ := hrel
    clear L4 HB0
    by_cases hlt : k < n
    · obtain ⟨t, v, a, y, z1, z2, P1, P2, hx, ha, hy, hy2, hz1, hz2, hP1, hP2, hst, v2, a2, y2, z1b, z2b, l1, l2⟩ := pack_round (l := l) (k := k) HS.out (by have := H1.out; omega)
      rw [hy]
      have hS : (∃ b0 o0 b1 o1, (A4 = some ⟨b0, o0, none⟩ ∧ A = some ⟨b1, o1, none⟩) ∧ ∀ (w' : World) (rs : List Row), Live w w' (nuR A4 n c4 (stepsL l) :: rs) → w'.cell? ⟨b0, o0 + k, none⟩ = some (.int .i64 a) ∧ w'.cell? ⟨b1, o1 + k * 2 + 1, none⟩ = some (.int .i64 v)) := by
        obtain ⟨b0, o0, e0, -⟩ := (hL.out.rd 0 rfl).cells (i := k) hlt
        obtain ⟨b1, o1, e1, -⟩ := h.cells (i := k) hlt
        refine ⟨b0, o0, b1, o1, ⟨e0, e1⟩, fun w' rs L' => ⟨?_, ?_⟩⟩
        · obtain ⟨b, o, e, hc⟩ := (L'.rd 0 rfl).cells (i := k) hlt
          rw [e0] at e
          injection e with e
          injection e with q1 q2
          subst q1 q2
          exact hc _ _ (ic_at ha)
        · obtain ⟨b, o, e, hc⟩ := (h.keptN L'.grown).cells (i := k) hlt
          rw [e1] at e
          injection e with e
          injection e with q1 q2
          subst q1 q2
          have := hc _ _ (pc_at hx).2
          rwa [← Nat.add_assoc] at this
      obtain ⟨b0, o0, b1, o1, ⟨rfl, rfl⟩, hS⟩ := hS
      have HSS := Lib.hid hS
      have LD := Lib.hid (hL.out.step (g_drew wr none))
      have cc := hS wr _ hL.out
      obtain ⟨cc0, cc1⟩ := cc
      have hlt' : (k : Int) < (n : Int) := by omega
      have hw1 : IntKind.i64.wrap (v - y) = v - y := IntWalk.i64_in _ (by omega)
      have HI2 : Hid (acc ++ P1 ++ P2 = packK l (k + 1)) := by show _ = _; rw [hst, hI.out]
      have HZ := Lib.hid (And.intro hz1 (And.intro hz2 (And.intro hP1 hP2)))
      have HV := Lib.hid hy2
      clear hS hx ha hy hy2 hz1 hz2 hP1 hP2 hst hI a2
      go_wp2_with fail
      go_region_held3 (fun w' => w'.cell? ⟨b0, o0 + k, none⟩ = some (.int .i64 a) ∧ w'.cell? ⟨b1, o1 + k * 2 + 1, none⟩ = some (.int .i64 v))
        (first | exact HSS.out _ _ L8.out | exact HSS.out _ _ L7.out | exact HSS.out _ _ L6.out | exact HSS.out _ _ L5.out | exact HSS.out _ _ LD.out | go_keep)
        (first
          | (refine sapps_by (by rfl) (.tmp 21) (.tmp 27) (by rfl) w.heap.size acc P1 _ A' A5 c' P1.length c5 (by rfl) O5.out (by rfl) R5.out (by omega) (by omega) L5.out.grown.size ?_; intro A6 c6 w6 o6 g6 f6; have L6 := Lib.hid (live_by L5.out o6 g6 f6); clear o6 g6 f6)
          | (refine sapps_by (by rfl) (.tmp 28) (.tmp 37) (by rfl) w.heap.size (acc ++ P1) P2 _ A6 A7 c6 P2.length c7 (by first | rfl | (simp [Act.eval]; done)) O7.out (by rfl) R7.out (by simp; omega) (by omega) L7.out.grown.size ?_; intro A8 c8 w8 o8 g8 f8; have L8 := Lib.hid (live_by L7.out o8 g8 f8); clear o8 g8 f8)
          | (go_at_call 78; have _l6 := L6.out; refine (zigS_at (v - y) z2 _ HZ.out.2.1).mono ?_; rintro e w9 ⟨rfl, rfl⟩)
          | (go_at_call 77; have _l6 := L6.out; refine (putS_at z2 P2 _ (by omega) (by omega) HZ.out.2.2.2).mono ?_; rintro e w7 ⟨A7, c7, rfl, o7, g7⟩; have L7 := Lib.hid (L6.out.step g7); have O7 := Lib.hid (show World.ownsRow w7 w.heap.size 5 1 (.slice A6 (acc ++ P1).length c6) (acc ++ P1).length (bc (acc ++ P1)) from L7.out.own 1 rfl); have R7 := Lib.hid (Rd.own o7); clear o7 g7)
          | (go_at_call 78; refine (zigS_at a z1 _ HZ.out.1).mono ?_; rintro e w9 ⟨rfl, rfl⟩)
          | (go_at_call 77; refine (putS_at z1 P1 _ (by omega) (by omega) HZ.out.2.2.1).mono ?_; rintro e w5 ⟨A5, c5, rfl, o5, g5⟩; have L5 := Lib.hid (LD.out.step g5); have O5 := Lib.hid (show World.ownsRow w5 w.heap.size 5 1 (.slice A' acc.length c') acc.length (bc acc) from L5.out.own 1 rfl); have R5 := Lib.hid (Rd.own o5); clear o5 g5))
      have cc1' := (HSS.out _ _ L8.out).2
      have HLN : Hid ((acc ++ P1 ++ P2).length ≤ 1000) := by
        show _ ≤ _
        rw [HI2.out]
        have := packK_len l (k + 1)
        have := H1.out
        omega
      clear L5 L6 L7 R5 R7 O5 O7 LD cc0 cc1 hL HSS
      go_wp2
      go_roundw
      case rel => exact ⟨k + 1, A8, c8, acc ++ P1 ++ P2, by omega, by go_num, by rw [HV.out], by simp, HLN.out, L8, HI2⟩
      case measure => simp [Go.RowKit.intOf]; omega
    · have hge : ¬ (k : Int) < (n : Int) := by omega
      have e1 : acc = packL l := by rw [hI.out, packK_all (by have := H1.out; omega)]
      have E1 := Lib.hid e1
      clear e1 hI
      go_wp2
      go_ret
      rw [← E1.out]
      exact ⟨A', c', rfl, hL.out.own 1 rfl, hL.out.grown⟩
set_option maxHeartbeats 3200000 in
theorem packI_any (A : Option Addr) (n c : Nat) (l : List Pt) (w : World) (h : Rd w 2 A n c (pc l)) (hv : validL l = true) :
    Calls Try.prog 19 #[.slice A n c] w (Bytes (packL l) w) := by
  have hlen : l.length = n := by have := h.len; rw [pc_len] at this; omega
  have hs := valid_small hv
  have hn : n ≤ 16 := by have := ((validL_iff l).1 hv).1; omega
  have H1 := Lib.hid hlen
  have HS := Lib.hid hs
  have HQ := Lib.hid hv
  have hw0 : IntKind.u8.wrap (n : Int) = (n : Int) := IntWalk.u8_in _ (by omega)
  clear hs hv
  go_enter Try.func19, Try.ntmps19
  go_wp2_with fail
  refine (validI_at A n c l true w h HQ.out).mono ?_
  rintro e w1 ⟨rfl, g1⟩
  go_wp2_with fail
  have L0 : Live w (w1.alloc (.cells #[.int .u8 (n : Int)] 5)) [byR (some ⟨w1.heap.size, 0, none⟩) 1 [(n : Int)]] := ((Live.zero w).step g1).new (lit_own w1 w1.heap.size 5 1 [.int .u8 (n : Int)] 1 (Nat.le_refl _) (by omega) rfl) (g_alloc _ _ _)
  refine (stepsI_at A n c l (stepsL l) _ (h.keptN L0.grown) (stepsV_yes HQ.out)).mono ?_
  rintro e w4 ⟨A4, c4, rfl, o4, g4⟩
  have hst : (stepsL l).length = n := by rw [steps_len]; exact H1.out
  rw [hst] at o4
  rw [hst]
  have L4 : Hid (Live w w4 [nuR A4 n c4 (stepsL l), byR (some ⟨w1.heap.size, 0, none⟩) 1 [(n : Int)]]) := L0.new o4 g4
  have HB0 : Hid (packK l 0 = [(n : Int)]) := by rw [packK_zero, H1.out]; rfl
  clear L0 o4 g4 hst g1
  go_wp2
  go_loopw [3, 4, 17] (fun o la i wr => ∃ (k : Nat) (A' : Option Addr) (c' : Nat) (acc : List Int), k ≤ n ∧ i = .int .i64 k ∧ la = .int .i64 (beforeV l k) ∧ o = .slice A' acc.length c' ∧ acc.length ≤ 1000 ∧ Hid (Live w wr [nuR A4 n c4 (stepsL l), byR A' c' acc]) ∧ Hid (acc = packK l k)) (fun _ _ i _ => n - (Go.RowKit.intOf i).toNat)
  case atStart => exact ⟨0, _, _, [(n : Int)], Nat.zero_le _, rfl, by rw [before_zero], rfl, by simp, L4, HB0.out.symm⟩
  case round =>
    obtain ⟨k, A', c', acc, hk, rfl, rfl, rfl, hacc, hL, hI⟩ := hrel
    clear L4 HB0
    by_cases hlt : k < n
    · obtain ⟨t, v, a, y, z1, z2, P1, P2, hx, ha, hy, hy2, hz1, hz2, hP1, hP2, hst, v2, a2, y2, z1b, z2b, l1, l2⟩ := pack_round (l := l) (k := k) HS.out (by have := H1.out; omega)
      rw [hy]
      have hS : (∃ b0 o0 b1 o1, (A4 = some ⟨b0, o0, none⟩ ∧ A = some ⟨b1, o1, none⟩) ∧ ∀ (w' : World) (rs : List Row), Live w w' (nuR A4 n c4 (stepsL l) :: rs) → w'.cell? ⟨b0, o0 + k, none⟩ = some (.int .i64 a) ∧ w'.cell? ⟨b1, o1 + k * 2 + 1, none⟩ = some (.int .i64 v)) := by
        obtain ⟨b0, o0, e0, -⟩ := (hL.out.rd 0 rfl).cells (i := k) hlt
        obtain ⟨b1, o1, e1, -⟩ := h.cells (i := k) hlt
        refine ⟨b0, o0, b1, o1, ⟨e0, e1⟩, fun w' rs L' => ⟨?_, ?_⟩⟩
        · obtain ⟨b, o, e, hc⟩ := (L'.rd 0 rfl).cells (i := k) hlt
          rw [e0] at e
          injection e with e
          injection e with q1 q2
          subst q1 q2
          exact hc _ _ (ic_at ha)
        · obtain ⟨b, o, e, hc⟩ := (h.keptN L'.grown).cells (i := k) hlt
          rw [e1] at e
          injection e with e
          injection e with q1 q2
          subst q1 q2
          have := hc _ _ (pc_at hx).2
          rwa [← Nat.add_assoc] at this
      obtain ⟨b0, o0, b1, o1, ⟨rfl, rfl⟩, hS⟩ := hS
      have HSS := Lib.hid hS
      have cc := hS wr _ hL.out
      obtain ⟨cc0, cc1⟩ := cc
      have hlt' : (k : Int) < (n : Int) := by omega
      have hw1 : IntKind.i64.wrap (v - y) = v - y := IntWalk.i64_in _ (by omega)
      have HI2 : Hid (acc ++ P1 ++ P2 = packK l (k + 1)) := by show _ = _; rw [hst, hI.out]
      have HZ := Lib.hid (And.intro hz1 (And.intro hz2 (And.intro hP1 hP2)))
      have HV := Lib.hid hy2
      have HLN : Hid ((acc ++ P1 ++ P2).length ≤ 1000) := by
        show _ ≤ _
        rw [HI2.out]
        have := packK_len l (k + 1)
        have := H1.out
        omega
      have hL6 : (acc ++ P1).length ≤ 1000000 := by rw [List.length_append]; omega
      clear hS hx ha hy hy2 hz1 hz2 hP1 hP2 hst hI a2
      go_wp2_with fail
      refine (zigI_at a z1 _ HZ.out.1).mono ?_
      rintro e w9 ⟨rfl, rfl⟩
      go_wp2_with fail
      refine (putI_at z1 P1 _ (by omega) (by omega) HZ.out.2.2.1).mono ?_
      rintro e w5 ⟨A5, c5, rfl, o5, g5⟩
      have L5 := Lib.hid (hL.out.step g5)
      have O5 := Lib.hid (show World.ownsRow w5 w.heap.size 5 1 (.slice A' acc.length c') acc.length (bc acc) from L5.out.own 1 rfl)
      have R5 := Lib.hid (Rd.own o5)
      have hb5 := L5.out.grown.size
      clear o5 g5 cc0 cc1
      go_wp2_with (at_builtin; refine apps_by rfl (.tmp 22) (.tmp 25) rfl w.heap.size acc P1 _ A' A5 c' P1.length c5 rfl O5.out rfl R5.out (by omega) (by omega) hb5 ?_; intro A6 c6 w6 o6 g6 f6; have L6 := Lib.hid (live_by L5.out o6 g6 f6); clear o6 g6 f6; have cc1 := (HSS.out _ _ L6.out).2)
      refine (zigI_at (v - y) z2 _ HZ.out.2.1).mono ?_
      rintro e w9 ⟨rfl, rfl⟩
      go_wp2_with fail
      refine (putI_at z2 P2 _ (by omega) (by omega) HZ.out.2.2.2).mono ?_
      rintro e w7 ⟨A7, c7, rfl, o7, g7⟩
      have L7 := Lib.hid (L6.out.step g7)
      have O7 := Lib.hid (show World.ownsRow w7 w.heap.size 5 1 (.slice A6 (acc ++ P1).length c6) (acc ++ P1).length (bc (acc ++ P1)) from L7.out.own 1 rfl)
      have R7 := Lib.hid (Rd.own o7)
      have hb7 := L7.out.grown.size
      clear o7 g7 cc1
      go_wp2_with (at_builtin; refine apps_by rfl (.tmp 27) (.tmp 36) rfl w.heap.size (acc ++ P1) P2 _ A6 A7 c6 P2.length c7 (by simp [Act.eval]) O7.out rfl R7.out hL6 (by omega) hb7 ?_; intro A8 c8 w8 o8 g8 f8; have L8 := Lib.hid (live_by L7.out o8 g8 f8); clear o8 g8 f8; have cc1 := (HSS.out _ _ L8.out).2)
      clear L5 L6 L7 O5 O7 R5 R7 hL HSS
      go_wp2
      go_roundw
      case rel => exact ⟨k + 1, A8, c8, acc ++ P1 ++ P2, by omega, by go_num, by rw [HV.out], by simp, HLN.out, L8, HI2⟩
      case measure => simp [Go.RowKit.intOf]; omega
    · have hge : ¬ (k : Int) < (n : Int) := by omega
      have e1 : acc = packL l := by rw [hI.out, packK_all (by have := H1.out; omega)]
      have E1 := Lib.hid e1
      clear e1 hI
      go_wp2
      go_ret
      rw [← E1.out]
      exact ⟨A', c', rfl, hL.out.own 1 rfl, hL.out.grown⟩
end Go.Proofs.Ytcgeagcfhjdpcaa
