/- The laws FnValidSeriesMove and FnValueAtMove: for every input the law returns true, and nothing that was there has turned. -/
import Derived.Test.YtceihlnmaeikdaaFrame
import Derived.Test.YtceihlnmaeikdaaDrawS
import Derived.Test.YtceihlnmaeikdaaQst
import Derived.Test.YtceihlnmaeikdaaLive
import Derived.Deep.RegionHeld3
namespace Go.Proofs.Ytceihlnmaeikdaa
set_option linter.unusedVariables false
open Go.ChangeShapes Go.WideShapes Go.ChangeAt Go.RowKit

theorem later_snoc {l : List Pt} {k : Nat} {t v : Int} (h : l[k]? = some (t, v)) : (l.take (k + 1)).map laterP = (l.take k).map laterP ++ [(t + 1, v)] := by
  rw [take_get' h, List.map_append]; rfl

set_option maxHeartbeats 3200000 in
theorem walkFnValidSeriesMove (A : Option Addr) (n c : Nat) (l0 : List Int) (W : World) (h : Rd W 1 A n c (bc l0)) (hb : By l0) : Calls Try.prog 5 #[.slice A n c] W fun e w' => e = .returned (.bool true) ∧ Below W.heap.size W w' := by
  by_cases hbig : 1048576 < n
  · go_enter Try.func5, Try.ntmps5
    go_wp2
    go_ret
    exact ⟨rfl, Below.refl _ _⟩
  go_enter Try.func5, Try.ntmps5
  go_wp2_with fail
  refine (drawVS_any A n c l0 W h hb (by omega)).mono ?_
  rintro e w1 ⟨A1, c1, l, rfl, o1, hm, g1⟩
  have L1 := (Live.zero _).new o1 g1
  have hlen := hm.1
  have HM := Lib.hid hm
  clear h hb o1 g1 hm
  obtain ⟨q, hq⟩ : ∃ q, validL l = q := ⟨_, rfl⟩
  have HQ := Lib.hid hq
  clear hq
  go_wp2_with fail
  refine (validI_at _ _ _ l q _ (L1.rd 0 rfl) HQ.out).mono ?_
  rintro e w2 ⟨rfl, g2⟩
  have L2 := L1.step g2
  clear L1 g2
  go_wp2_with fail
  refine (validS_at _ _ _ l q _ (L2.rd 0 rfl) HQ.out).mono ?_
  rintro e w4 ⟨rfl, g4⟩
  have L4 := L2.step g4
  clear L2 g4
  cases q with
  | false =>
    go_wp2_with fail
    refine (validS_at _ _ _ l false _ (L4.rd 0 rfl) HQ.out).mono ?_
    rintro e w5 ⟨rfl, g5⟩
    have hbel := (L4.step g5).bel
    clear L4 g5
    go_wp2
    go_ret
    exact ⟨rfl, hbel⟩
  | true =>
    by_cases hz : l.length = 0
    · have hz' : ((l.length : Int) == 0) = true := by rw [beq_iff_eq]; omega
      clear hz
      go_wp2_with fail
      refine (validS_at _ _ _ l true _ (L4.rd 0 rfl) HQ.out).mono ?_
      rintro e w5 ⟨rfl, g5⟩
      have hbel := (L4.step g5).bel
      clear L4 g5
      go_wp2
      go_ret
      exact ⟨rfl, hbel⟩
    have hz' : ((l.length : Int) == 0) = false := by rw [beq_eq_false_iff_ne]; omega
    obtain ⟨j, hj⟩ : ∃ j, l.length = j + 1 := ⟨l.length - 1, by omega⟩
    obtain ⟨⟨tl, vl⟩, hlast, -⟩ := get_ex (l := l) (i := j) (by omega)
    have hR := L4.rd 0 rfl
    obtain ⟨b1, o1', rfl, hc⟩ := hR.cells (i := j) (by omega)
    have k0 := hc _ _ (pc_at hlast).1
    simp only [Nat.add_zero] at k0
    have hj1 : ((l.length : Int) - 1) = (j : Int) := by omega
    have hj2 : (j : Int) < (l.length : Int) := by omega
    have hj3 : l.length - 1 = j := by omega
    have HJ := Lib.hid (And.intro hlast hj3)
    clear hz hlast hc hj hj3
    by_cases ht : tl = 1000
    · have ht' : (tl == 1000) = true := by simpa using ht
      clear ht
      go_wp2_with fail
      refine (validS_at _ _ _ l true _ (L4.rd 0 rfl) HQ.out).mono ?_
      rintro e w5 ⟨rfl, g5⟩
      have hbel := (L4.step g5).bel
      clear L4 g5
      go_wp2
      go_ret
      exact ⟨rfl, hbel⟩
    have ht' : (tl == 1000) = false := by simpa using ht
    have HL := Lib.hid (valid_later HQ.out (by rw [HJ.out.2]; exact HJ.out.1) ht)
    have HG := Lib.hid L4.grown
    clear ht L4
    go_wp2
    go_loopw [5, 6] (fun s5 s6 wr => ∃ (k : Nat) (acc : List Pt) (A' : Option Addr) (c' : Nat), k ≤ l.length ∧ s6 = .int .i64 k ∧ s5 = .slice A' acc.length c' ∧ acc.length = k ∧ Hid (acc = (l.take k).map laterP) ∧ wr.ownsRow w4.heap.size 33 2 (.slice A' acc.length c') acc.length (pc acc) ∧ w4.grownBy wr none) (fun _ i _ => l.length - (intOf i).toNat)
    case atStart => exact ⟨0, [], _, 0, Nat.zero_le _, rfl, rfl, rfl, rfl, lit_own w4 w4.heap.size _ 2 [] 0 (Nat.le_refl _) (by omega) rfl, g_alloc _ _ _⟩
    case round =>
      obtain ⟨k, acc, A', c', hk, rfl, rfl, hacc, hI, hown, hg⟩ := hrel
      have hsz := hg.size
      have HA := Lib.hid hacc
      clear hacc
      by_cases hlt : k < l.length
      · obtain ⟨⟨t, u⟩, hp, -⟩ := get_ex (l := l) (i := k) hlt
        have hc := (hR.keptN hg).cells hlt
        obtain ⟨b0, o0, e0, hc⟩ := hc
        injection e0 with e0
        injection e0 with eb eo
        subst eb eo
        have c0 := hc _ _ (pc_at hp).1
        have c1' := hc _ _ (pc_at hp).2
        simp only [Nat.add_zero, ← Nat.add_assoc] at c0 c1'
        have hlt' : (k : Int) < (l.length : Int) := by omega
        have hk0 : (0 : Int) ≤ (k : Int) := by omega
        have hmid := HM.out.2 _ (List.mem_of_getElem? hp)
        have ht1 : IntKind.i64.wrap (t + 1) = t + 1 := IntWalk.i64_in _ (by have := hmid.1; simp only at this; omega)
        have HI : Hid (acc ++ [(t + 1, u)] = (l.take (k + 1)).map laterP) := by
          show _ = _
          rw [hI.out, later_snoc hp]
        have hn0 := World.new_ne wr _ c0
        have hn1 := World.new_ne wr _ c1'
        have hacc2 : acc.length ≤ 1000000 := by have := HA.out; omega
        clear hc hp hmid hI
        go_wp2_with fail
        go_region_held3 (fun w' => w'.cell? ⟨b1, o1' + k * 2, none⟩ = some (.int .i64 t) ∧ w'.cell? ⟨b1, o1' + k * 2 + 1, none⟩ = some (.int .i64 u))
          (first | go_keep | exact ⟨hgr6.cell c0 hnb6, hgr6.cell c1' hnb6⟩)
          ((refine sapp_pt (by rfl) (.tmp 48) (.tmp 61) (by rfl) w4.heap.size acc _ (t + 1) u A' c' (by rfl) hown (by rfl) hacc2 hsz ?_; intro A6 c6 w6 o6 g6 f6; have hgr6 := g6; have hnb6 : some b1 ≠ (Value.slice A' acc.length c').ownBlock := fun e => by have h1 := own_new hown _ e.symm; have h2 := hR.lt (by omega) (by omega) _ rfl; simp only at h2; omega))
        have HO := Lib.hid (And.intro o6 (g_new hg g6 (own_new hown)))
        clear o6 g6 f6 hgr6 hnb6 hown hg ht1 hn0 hn1
        go_wp2
        go_roundw
        case rel => exact ⟨k + 1, acc ++ [(t + 1, u)], A6, c6, by omega, by go_num, by simp, by have := HA.out; simp; omega, HI, HO.out.1, HO.out.2⟩
        case measure => simp [intOf]; omega
      · have hge : ¬ (k : Int) < (l.length : Int) := by omega
        have hE : acc = l.map laterP := by rw [hI.out, List.take_of_length_le (by omega)]
        have hvl : validL acc = true := by rw [hE]; exact HL.out
        have HE := Lib.hid (And.intro hvl hE)
        have hbel : Below W.heap.size W wr := (g_below (g_trans HG.out hg) (Nat.le_refl _) (by simp))
        clear hE hvl hI HL
        go_wp2_with fail
        refine (validI_at _ _ _ acc true _ (Rd.own hown) HE.out.1).mono ?_
        rintro e w5 ⟨rfl, g5⟩
        have hbel2 := hbel.trans (g_below g5 hbel.size (by simp))
        clear g5 hown hg hbel
        go_wp2
        go_ret
        exact ⟨rfl, hbel2⟩
set_option maxRecDepth 100000 in
set_option linter.unusedVariables false in
theorem liftedFnValidSeriesMove (os : Os) (started : os.Started) (H : Type) (enc : TypeId × Value → H) :
    ReturnsInHanded {} Try.checked os 5 .any (Rows.fnValidSeriesMoveSpec.pre6 enc Try.prog Try.f5 Rows.fnValidSeriesMoveRow.domain false) (Rows.fnValidSeriesMoveSpec.post enc Try.prog Try.f5 false true false false) := by
  refine returnsInHanded_of_change (C := Try.checked) own started (by kernel_rfl) Try.func5
    (ChangeSpec.witness6 (enc := enc) (C := Try.checked) false ⟨#[], #[.slice none 0 0], []⟩ 8 (by kernel_rfl) (by kernel_rfl) (by kernel_rfl) (by kernel_rfl)) ?_
  intro W base args ds gs before hval0 hW hcnd _
  have hval : ∀ (j : Nat) t v, Try.f5.params[j]? = some t → args[j]? = some v → Value.okWide Try.prog W .any base t v := hval0
  have hW' := hW
  obtain ⟨p, q, hA0, hV, rfl, hfz, hnd⟩ := hW
  have hA : DataW.TrodAll enc Try.prog W 0 (fun _ => true) true Try.f5.params.toList args.toList ds p := hA0
  rw [Try.params5] at hA hval
  obtain ⟨v0, vs0, d0, ds0, p0, q0, hargs, rfl, rfl, h0, r0⟩ := trodAll_cons hA
  obtain ⟨rfl, rfl, rfl⟩ := trodAll_nil r0
  obtain rfl : args = #[v0] := by cases args; simp_all
  obtain ⟨rfl, rfl⟩ := trodVars_none hV
  obtain ⟨a0, len0, cap0, rfl⟩ := okWide_slice Try.underlying29 (hval 0 29 v0 rfl rfl)
  have k0 := h0
  have lt0 : ∀ x ∈ p0, x.block < W.heap.size := by obtain ⟨m, hm⟩ := k0; exact DataW.trod_lt m _ _ _ hm
  obtain ⟨z0, w0, b0⟩ : ∃ zs : List Int, Rd W 1 a0 len0 cap0 (zs.map (Value.int .u8)) ∧ By zs := by
    obtain ⟨fuel, hf⟩ := h0
    rcases open_ints Try.underlying29 Try.underlying5 (by kernel_rfl) hf with ⟨hcs, _⟩ | ⟨x, l, c, zs, hcs, _, hl, hm, hz, _, hcell, hwz⟩
    · simp [Value.cells] at hcs
      obtain ⟨rfl, rfl, rfl⟩ := hcs
      exact ⟨[], Rd.nil_ _ _, by intro x hx; cases hx⟩
    · simp [Value.cells] at hcs
      obtain ⟨rfl, rfl, rfl⟩ := hcs
      exact ⟨_, rd_of_ints hl hm (by simpa using hz) hcell, by_of_wf hwz⟩
  clear hA0 hval0
  refine (walkFnValidSeriesMove a0 len0 cap0 z0 W w0 b0).mono fun e W' ⟨he, bel⟩ => ?_
  subst he
  exact ⟨_, rfl, _, _, _, [], _, [], hW', trodAll_mk1 (shut_bool Try.underlying4 _), (trodAll_cons_mk (Below.trod laidOut (by kernel_rfl) (of_decide_eq_true (by kernel_rfl)) k0 bel lt0) trodAll_mk0), rfl, bel.frame _, fun h => by cases h⟩

theorem closedFnValidSeriesMove : joinedFacts Try.prog 5 Try.f5 Rows.fnValidSeriesMoveSpec Rows.fnValidSeriesMoveRow = true := by
  unfold joinedFacts
  refine and_yes (and_yes (and_yes (and_yes (and_yes (and_yes (and_yes ?_ mayIn) ?_) ?_) ?_) ?_) ?_) ?_
  rotate_left
  · rw [liftsIn]; kernel_rfl
  · rw [makeIn]; kernel_rfl
  · kernel_rfl
  · kernel_rfl
  · kernel_rfl
  · kernel_rfl
  · kernel_rfl

theorem overFnValidSeriesMove : Rows.fnValidSeriesMoveRow.holds Try.pinned (OpenSpec.ofChange Rows.fnValidSeriesMoveSpec) :=
  OpenClaim.holds_of_wide 5 Try.f5 rfl rfl rfl rfl rfl rfl rfl ⟨rfl, rfl, rfl, rfl, rfl⟩ rfl rfl rfl rfl rfl (by kernel_rfl) Try.func5 closedFnValidSeriesMove
    (of_decide_eq_true (by kernel_rfl)) (by unfold Func.isWrapper; first | (rw [if_pos (by decide +kernel)]; kernel_rfl) | (rw [if_neg (by decide +kernel)]; exact ⟨rfl, rfl⟩))
    (fun os started H enc _ => liftedFnValidSeriesMove os started H enc)

/-- the statement -/
theorem provedFnValidSeriesMove : Rows.FnValidSeriesMoveSaid := overFnValidSeriesMove
#print axioms provedFnValidSeriesMove

set_option maxHeartbeats 3200000 in
theorem walkFnValueAtMove (A : Option Addr) (n c : Nat) (l0 : List Int) (W : World) (h : Rd W 1 A n c (bc l0)) (hb : By l0) : Calls Try.prog 8 #[.slice A n c] W fun e w' => e = .returned (.bool true) ∧ Below W.heap.size W w' := by
  by_cases hbig : 1048576 < n
  · go_enter Try.func8, Try.ntmps8
    go_wp2
    go_ret
    exact ⟨rfl, Below.refl _ _⟩
  go_enter Try.func8, Try.ntmps8
  go_wp2_with fail
  refine (drawVA_any A n c l0 W h hb (by omega)).mono ?_
  rintro e w1 ⟨A1, c1, l, x, rfl, hx, o1, hm, g1⟩
  have L1 := (Live.zero _).new o1 g1
  have hlen := hm.1
  have HM := Lib.hid hm
  clear h hb o1 g1 hm
  obtain ⟨q, hq⟩ : ∃ q, validL l = q := ⟨_, rfl⟩
  have HQ := Lib.hid hq
  clear hq
  obtain ⟨⟨v, b⟩, hv⟩ : ∃ r, valueL l x = r := ⟨_, rfl⟩
  have HV := Lib.hid hv
  clear hv
  go_wp2_with fail
  refine (valueI_at _ _ _ l x v b _ (L1.rd 0 rfl) HV.out).mono ?_
  rintro e w2 ⟨rfl, g2⟩
  have L2 := L1.step g2
  clear L1 g2
  go_wp2_with fail
  refine (valueS_at _ _ _ l x v b _ (L2.rd 0 rfl) HV.out).mono ?_
  rintro e w3 ⟨rfl, g3⟩
  have L3 := L2.step g3
  clear L2 g3
  go_wp2_with fail
  refine (validI_at _ _ _ l q _ (L3.rd 0 rfl) HQ.out).mono ?_
  rintro e w4 ⟨rfl, g4⟩
  have L4 := L3.step g4
  clear L3 g4
  cases q with
  | false =>
    have hbel := L4.bel
    clear L4
    go_wp2
    go_ret
    exact ⟨rfl, hbel⟩
  | true =>
    by_cases hz : l.length = 0
    · have hz' : ((l.length : Int) == 0) = true := by rw [beq_iff_eq]; omega
      clear hz
      have hbel := L4.bel
      clear L4
      go_wp2
      go_ret
      exact ⟨rfl, hbel⟩
    have hz' : ((l.length : Int) == 0) = false := by rw [beq_eq_false_iff_ne]; omega
    obtain ⟨j, hj⟩ : ∃ j, l.length = j + 1 := ⟨l.length - 1, by omega⟩
    obtain ⟨⟨tl, vl⟩, hlast, -⟩ := get_ex (l := l) (i := j) (by omega)
    have hR := L4.rd 0 rfl
    obtain ⟨b1, o1', rfl, hc⟩ := hR.cells (i := j) (by omega)
    have k0 := hc _ _ (pc_at hlast).1
    simp only [Nat.add_zero] at k0
    have hj1 : ((l.length : Int) - 1) = (j : Int) := by omega
    have hj2 : (j : Int) < (l.length : Int) := by omega
    have hj3 : l.length - 1 = j := by omega
    have HJ := Lib.hid (And.intro hlast hj3)
    clear hz hlast hc hj hj3
    by_cases ht : tl = 1000
    · have ht' : (tl == 1000) = true := by simpa using ht
      clear ht
      have hbel := L4.bel
      clear L4
      go_wp2
      go_ret
      exact ⟨rfl, hbel⟩
    have ht' : (tl == 1000) = false := by simpa using ht
    have HL := Lib.hid (valid_later HQ.out (by rw [HJ.out.2]; exact HJ.out.1) ht)
    have HG := Lib.hid L4.grown
    clear ht L4
    go_wp2
    go_loopw [9, 10] (fun s5 s6 wr => ∃ (k : Nat) (acc : List Pt) (A' : Option Addr) (c' : Nat), k ≤ l.length ∧ s6 = .int .i64 k ∧ s5 = .slice A' acc.length c' ∧ acc.length = k ∧ Hid (acc = (l.take k).map laterP) ∧ wr.ownsRow w4.heap.size 33 2 (.slice A' acc.length c') acc.length (pc acc) ∧ w4.grownBy wr none) (fun _ i _ => l.length - (intOf i).toNat)
    case atStart => exact ⟨0, [], _, 0, Nat.zero_le _, rfl, rfl, rfl, rfl, lit_own w4 w4.heap.size _ 2 [] 0 (Nat.le_refl _) (by omega) rfl, g_alloc _ _ _⟩
    case round =>
      obtain ⟨k, acc, A', c', hk, rfl, rfl, hacc, hI, hown, hg⟩ := hrel
      have hsz := hg.size
      have HA := Lib.hid hacc
      clear hacc
      by_cases hlt : k < l.length
      · obtain ⟨⟨t, u⟩, hp, -⟩ := get_ex (l := l) (i := k) hlt
        have hc := (hR.keptN hg).cells hlt
        obtain ⟨b0, o0, e0, hc⟩ := hc
        injection e0 with e0
        injection e0 with eb eo
        subst eb eo
        have c0 := hc _ _ (pc_at hp).1
        have c1' := hc _ _ (pc_at hp).2
        simp only [Nat.add_zero, ← Nat.add_assoc] at c0 c1'
        have hlt' : (k : Int) < (l.length : Int) := by omega
        have hk0 : (0 : Int) ≤ (k : Int) := by omega
        have hmid := HM.out.2 _ (List.mem_of_getElem? hp)
        have ht1 : IntKind.i64.wrap (t + 1) = t + 1 := IntWalk.i64_in _ (by have := hmid.1; simp only at this; omega)
        have HI : Hid (acc ++ [(t + 1, u)] = (l.take (k + 1)).map laterP) := by
          show _ = _
          rw [hI.out, later_snoc hp]
        have hn0 := World.new_ne wr _ c0
        have hn1 := World.new_ne wr _ c1'
        have hacc2 : acc.length ≤ 1000000 := by have := HA.out; omega
        clear hc hp hmid hI
        go_wp2_with fail
        go_region_held3 (fun w' => w'.cell? ⟨b1, o1' + k * 2, none⟩ = some (.int .i64 t) ∧ w'.cell? ⟨b1, o1' + k * 2 + 1, none⟩ = some (.int .i64 u))
          (first | go_keep | exact ⟨hgr6.cell c0 hnb6, hgr6.cell c1' hnb6⟩)
          ((refine sapp_pt (by rfl) (.tmp 76) (.tmp 89) (by rfl) w4.heap.size acc _ (t + 1) u A' c' (by rfl) hown (by rfl) hacc2 hsz ?_; intro A6 c6 w6 o6 g6 f6; have hgr6 := g6; have hnb6 : some b1 ≠ (Value.slice A' acc.length c').ownBlock := fun e => by have h1 := own_new hown _ e.symm; have h2 := hR.lt (by omega) (by omega) _ rfl; simp only at h2; omega))
        have HO := Lib.hid (And.intro o6 (g_new hg g6 (own_new hown)))
        clear o6 g6 f6 hgr6 hnb6 hown hg ht1 hn0 hn1
        go_wp2
        go_roundw
        case rel => exact ⟨k + 1, acc ++ [(t + 1, u)], A6, c6, by omega, by go_num, by simp, by have := HA.out; simp; omega, HI, HO.out.1, HO.out.2⟩
        case measure => simp [intOf]; omega
      · have hge : ¬ (k : Int) < (l.length : Int) := by omega
        have hE : acc = l.map laterP := by rw [hI.out, List.take_of_length_le (by omega)]
        have hvl : validL acc = true := by rw [hE]; exact HL.out
        have HE := Lib.hid (And.intro hvl hE)
        have hbel : Below W.heap.size W wr := (g_below (g_trans HG.out hg) (Nat.le_refl _) (by simp))
        clear hE hvl hI HL
        have hx1 := hx.1
        have hx2 := hx.2
        have hval : valueL acc (x + 1) = (v, b) := by
          rw [valueL_yes HE.out.1, HE.out.2, lastV_later, ← valueL_yes HQ.out]
          exact HV.out
        have HVA := Lib.hid hval
        clear hval
        go_wp2_with fail
        refine (valueI_at _ _ _ acc (x + 1) v b _ (Rd.own hown) HVA.out).mono ?_
        rintro e w5 ⟨rfl, g5⟩
        have hbel2 := hbel.trans (g_below g5 hbel.size (by simp))
        clear g5 hown hg hbel
        go_wp2
        go_ret
        exact ⟨rfl, hbel2⟩
set_option maxRecDepth 100000 in
set_option linter.unusedVariables false in
theorem liftedFnValueAtMove (os : Os) (started : os.Started) (H : Type) (enc : TypeId × Value → H) :
    ReturnsInHanded {} Try.checked os 8 .any (Rows.fnValueAtMoveSpec.pre6 enc Try.prog Try.f8 Rows.fnValueAtMoveRow.domain false) (Rows.fnValueAtMoveSpec.post enc Try.prog Try.f8 false true false false) := by
  refine returnsInHanded_of_change (C := Try.checked) own started (by kernel_rfl) Try.func8
    (ChangeSpec.witness6 (enc := enc) (C := Try.checked) false ⟨#[], #[.slice none 0 0], []⟩ 8 (by kernel_rfl) (by kernel_rfl) (by kernel_rfl) (by kernel_rfl)) ?_
  intro W base args ds gs before hval0 hW hcnd _
  have hval : ∀ (j : Nat) t v, Try.f8.params[j]? = some t → args[j]? = some v → Value.okWide Try.prog W .any base t v := hval0
  have hW' := hW
  obtain ⟨p, q, hA0, hV, rfl, hfz, hnd⟩ := hW
  have hA : DataW.TrodAll enc Try.prog W 0 (fun _ => true) true Try.f8.params.toList args.toList ds p := hA0
  rw [Try.params8] at hA hval
  obtain ⟨v0, vs0, d0, ds0, p0, q0, hargs, rfl, rfl, h0, r0⟩ := trodAll_cons hA
  obtain ⟨rfl, rfl, rfl⟩ := trodAll_nil r0
  obtain rfl : args = #[v0] := by cases args; simp_all
  obtain ⟨rfl, rfl⟩ := trodVars_none hV
  obtain ⟨a0, len0, cap0, rfl⟩ := okWide_slice Try.underlying29 (hval 0 29 v0 rfl rfl)
  have k0 := h0
  have lt0 : ∀ x ∈ p0, x.block < W.heap.size := by obtain ⟨m, hm⟩ := k0; exact DataW.trod_lt m _ _ _ hm
  obtain ⟨z0, w0, b0⟩ : ∃ zs : List Int, Rd W 1 a0 len0 cap0 (zs.map (Value.int .u8)) ∧ By zs := by
    obtain ⟨fuel, hf⟩ := h0
    rcases open_ints Try.underlying29 Try.underlying5 (by kernel_rfl) hf with ⟨hcs, _⟩ | ⟨x, l, c, zs, hcs, _, hl, hm, hz, _, hcell, hwz⟩
    · simp [Value.cells] at hcs
      obtain ⟨rfl, rfl, rfl⟩ := hcs
      exact ⟨[], Rd.nil_ _ _, by intro x hx; cases hx⟩
    · simp [Value.cells] at hcs
      obtain ⟨rfl, rfl, rfl⟩ := hcs
      exact ⟨_, rd_of_ints hl hm (by simpa using hz) hcell, by_of_wf hwz⟩
  clear hA0 hval0
  refine (walkFnValueAtMove a0 len0 cap0 z0 W w0 b0).mono fun e W' ⟨he, bel⟩ => ?_
  subst he
  exact ⟨_, rfl, _, _, _, [], _, [], hW', trodAll_mk1 (shut_bool Try.underlying4 _), (trodAll_cons_mk (Below.trod laidOut (by kernel_rfl) (of_decide_eq_true (by kernel_rfl)) k0 bel lt0) trodAll_mk0), rfl, bel.frame _, fun h => by cases h⟩

theorem closedFnValueAtMove : joinedFacts Try.prog 8 Try.f8 Rows.fnValueAtMoveSpec Rows.fnValueAtMoveRow = true := by
  unfold joinedFacts
  refine and_yes (and_yes (and_yes (and_yes (and_yes (and_yes (and_yes ?_ mayIn) ?_) ?_) ?_) ?_) ?_) ?_
  rotate_left
  · rw [liftsIn]; kernel_rfl
  · rw [makeIn]; kernel_rfl
  · kernel_rfl
  · kernel_rfl
  · kernel_rfl
  · kernel_rfl
  · kernel_rfl

theorem overFnValueAtMove : Rows.fnValueAtMoveRow.holds Try.pinned (OpenSpec.ofChange Rows.fnValueAtMoveSpec) :=
  OpenClaim.holds_of_wide 8 Try.f8 rfl rfl rfl rfl rfl rfl rfl ⟨rfl, rfl, rfl, rfl, rfl⟩ rfl rfl rfl rfl rfl (by kernel_rfl) Try.func8 closedFnValueAtMove
    (of_decide_eq_true (by kernel_rfl)) (by unfold Func.isWrapper; first | (rw [if_pos (by decide +kernel)]; kernel_rfl) | (rw [if_neg (by decide +kernel)]; exact ⟨rfl, rfl⟩))
    (fun os started H enc _ => liftedFnValueAtMove os started H enc)

/-- the statement -/
theorem provedFnValueAtMove : Rows.FnValueAtMoveSaid := overFnValueAtMove
#print axioms provedFnValueAtMove

end Go.Proofs.Ytceihlnmaeikdaa
