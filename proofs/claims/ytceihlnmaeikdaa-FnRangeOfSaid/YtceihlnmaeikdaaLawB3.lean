/- The laws FnValueAt, FnRangeOfAll and FnRangeOfSplit: for every input the law returns true, and nothing that was there has turned. -/
import Derived.Test.YtceihlnmaeikdaaFrame
import Derived.Test.YtceihlnmaeikdaaDrawS
import Derived.Test.YtceihlnmaeikdaaQst
import Derived.Test.YtceihlnmaeikdaaLive
import Derived.Test.YtceihlnmaeikdaaLawB2
namespace Go.Proofs.Ytceihlnmaeikdaa
set_option linter.unusedVariables false
open Go.ChangeShapes Go.WideShapes Go.ChangeAt Go.RowKit

set_option maxHeartbeats 1600000 in
theorem walkFnValueAt (A : Option Addr) (n c : Nat) (l0 : List Int) (W : World) (h : Rd W 1 A n c (bc l0)) (hb : By l0) : Calls Try.prog 7 #[.slice A n c] W fun e w' => e = .returned (.bool true) ∧ Below W.heap.size W w' := by
  by_cases hbig : 1048576 < n
  · go_enter Try.func7, Try.ntmps7
    go_wp2
    go_ret
    exact ⟨rfl, Below.refl _ _⟩
  go_enter Try.func7, Try.ntmps7
  go_wp2_with fail
  refine (drawVA_any A n c l0 W h hb (by omega)).mono ?_
  rintro e w1 ⟨A1, c1, l, x, rfl, hx, o1, hm, g1⟩
  have L1 := (Live.zero _).new o1 g1
  have hlen := hm.1
  clear h hb o1 g1 hm
  obtain ⟨⟨v, b⟩, hv⟩ : ∃ r, valueL l x = r := ⟨_, rfl⟩
  obtain ⟨q, hq⟩ : ∃ q, validL l = q := ⟨_, rfl⟩
  have HQ := Lib.hid (And.intro hv hq)
  clear hv hq
  go_wp2_with fail
  refine (valueI_at _ _ _ l x v b _ (L1.rd 0 rfl) HQ.out.1).mono ?_
  rintro e w2 ⟨rfl, g2⟩
  have L2 := L1.step g2
  clear L1 g2
  go_wp2_with fail
  refine (valueS_at _ _ _ l x v b _ (L2.rd 0 rfl) HQ.out.1).mono ?_
  rintro e w3 ⟨rfl, g3⟩
  have L3 := L2.step g3
  clear L2 g3
  go_wp2_with fail
  refine (validI_at _ _ _ l q _ (L3.rd 0 rfl) HQ.out.2).mono ?_
  rintro e w4 ⟨rfl, g4⟩
  have L4 := L3.step g4
  clear L3 g4
  cases q with
  | false =>
    have hbel := L4.bel
    clear L4
    go_wp2
    go_ret
    exact ⟨rfl, hbel⟩
  | true =>
    have hbel := L4.bel
    have hR := L4.rd 0 rfl
    have HV : Hid (lastV l x = (v, b)) := by show _ = _; rw [← valueL_yes HQ.out.2]; exact HQ.out.1
    clear L4 HQ
    go_wp2
    go_loopw [9, 10, 11] (fun s9 s10 s11 wr => ∃ (k : Nat) (v' : Int) (b' : Bool), k ≤ l.length ∧ s11 = .int .i64 k ∧ s9 = .bool b' ∧ s10 = .int .i64 v' ∧ Hid (lastV (l.take k) x = (v', b')) ∧ w4.grownBy wr none) (fun _ _ i _ => l.length - (intOf i).toNat)
    case atStart => exact ⟨0, 0, false, Nat.zero_le _, rfl, rfl, rfl, rfl, g_refl _ _⟩
    case round =>
      obtain ⟨k, v', b', hk, rfl, rfl, rfl, hI, hg⟩ := hrel
      by_cases hlt : k < l.length
      · obtain ⟨⟨t, u⟩, hp, -⟩ := get_ex (l := l) (i := k) hlt
        obtain ⟨b0, o0, rfl, hc⟩ := (hR.keptN hg).cells hlt
        have c0 := hc _ _ (pc_at hp).1
        have c1' := hc _ _ (pc_at hp).2
        simp only [Nat.add_zero, ← Nat.add_assoc] at c0 c1'
        have hlt' : (k : Int) < (l.length : Int) := by omega
        have HI : Hid (lastV (l.take (k + 1)) x = if t ≤ x then (u, true) else (v', b')) := by
          show _ = _
          rw [take_get hp, lastV_snoc, hI.out]
        clear hc hp hI
        by_cases hle : t ≤ x
        · rw [if_pos hle] at HI
          go_wp2
          go_roundw
          case rel => exact ⟨k + 1, u, true, by omega, by go_num, rfl, rfl, HI, hg⟩
          case measure => simp [intOf]; omega
        · rw [if_neg hle] at HI
          go_wp2
          go_roundw
          case rel => exact ⟨k + 1, v', b', by omega, by go_num, rfl, rfl, HI, hg⟩
          case measure => simp [intOf]; omega
      · have hge : ¬ (k : Int) < (l.length : Int) := by omega
        have hE : (v', b') = (v, b) := by
          have := hI.out
          rw [List.take_of_length_le (by omega)] at this
          exact this.symm.trans HV.out
        injection hE with e1 e2
        subst e1 e2
        have hbel2 := hbel.trans (g_below hg hbel.size (by simp))
        clear hI HV hbel
        go_wp2
        go_ret
        exact ⟨rfl, hbel2⟩
set_option maxRecDepth 100000 in
set_option linter.unusedVariables false in
theorem liftedFnValueAt (os : Os) (started : os.Started) (H : Type) (enc : TypeId × Value → H) :
    ReturnsInHanded {} Try.checked os 7 .any (Rows.fnValueAtSpec.pre6 enc Try.prog Try.f7 Rows.fnValueAtRow.domain false) (Rows.fnValueAtSpec.post enc Try.prog Try.f7 false true false false) := by
  refine returnsInHanded_of_change (C := Try.checked) own started (by kernel_rfl) Try.func7
    (ChangeSpec.witness6 (enc := enc) (C := Try.checked) false ⟨#[], #[.slice none 0 0], []⟩ 8 (by kernel_rfl) (by kernel_rfl) (by kernel_rfl) (by kernel_rfl)) ?_
  intro W base args ds gs before hval0 hW hcnd _
  have hval : ∀ (j : Nat) t v, Try.f7.params[j]? = some t → args[j]? = some v → Value.okWide Try.prog W .any base t v := hval0
  have hW' := hW
  obtain ⟨p, q, hA0, hV, rfl, hfz, hnd⟩ := hW
  have hA : DataW.TrodAll enc Try.prog W 0 (fun _ => true) true Try.f7.params.toList args.toList ds p := hA0
  rw [Try.params7] at hA hval
  obtain ⟨v0, vs0, d0, ds0, p0, q0, hargs, rfl, rfl, h0, r0⟩ := trodAll_cons hA
  obtain ⟨rfl, rfl, rfl⟩ := trodAll_nil r0
  obtain rfl : args = #[v0] := by cases args; simp_all
  obtain ⟨rfl, rfl⟩ := trodVars_none hV
  obtain ⟨a0, len0, cap0, rfl⟩ := okWide_slice Try.underlying29 (hval 0 29 v0 rfl rfl)
  have k0 := h0
  have lt0 : ∀ x ∈ p0, x.block < W.heap.size := by obtain ⟨m, hm⟩ := k0; exact DataW.trod_lt m _ _ _ hm
  obtain ⟨z0, w0, b0⟩ : ∃ zs : List Int, Rd W 1 a0 len0 cap0 (zs.map (Value.int .u8)) ∧ By zs := by
    obtain ⟨fuel, hf⟩ := h0
    rcases open_ints Try.underlying29 Try.underlying5 (by kernel_rfl) hf with ⟨hcs, _⟩ | ⟨x, l, c, zs, hcs, _, hl, hm, hz, _, hcell, hwz⟩
    · simp [Value.cells] at hcs
      obtain ⟨rfl, rfl, rfl⟩ := hcs
      exact ⟨[], Rd.nil_ _ _, by intro x hx; cases hx⟩
    · simp [Value.cells] at hcs
      obtain ⟨rfl, rfl, rfl⟩ := hcs
      exact ⟨_, rd_of_ints hl hm (by simpa using hz) hcell, by_of_wf hwz⟩
  clear hA0 hval0
  refine (walkFnValueAt a0 len0 cap0 z0 W w0 b0).mono fun e W' ⟨he, bel⟩ => ?_
  subst he
  exact ⟨_, rfl, _, _, _, [], _, [], hW', trodAll_mk1 (shut_bool Try.underlying4 _), (trodAll_cons_mk (Below.trod laidOut (by kernel_rfl) (of_decide_eq_true (by kernel_rfl)) k0 bel lt0) trodAll_mk0), rfl, bel.frame _, fun h => by cases h⟩

theorem closedFnValueAt : joinedFacts Try.prog 7 Try.f7 Rows.fnValueAtSpec Rows.fnValueAtRow = true := by
  unfold joinedFacts
  refine and_yes (and_yes (and_yes (and_yes (and_yes (and_yes (and_yes ?_ mayIn) ?_) ?_) ?_) ?_) ?_) ?_
  rotate_left
  · rw [liftsIn]; kernel_rfl
  · rw [makeIn]; kernel_rfl
  · kernel_rfl
  · kernel_rfl
  · kernel_rfl
  · kernel_rfl
  · kernel_rfl

theorem overFnValueAt : Rows.fnValueAtRow.holds Try.pinned (OpenSpec.ofChange Rows.fnValueAtSpec) :=
  OpenClaim.holds_of_wide 7 Try.f7 rfl rfl rfl rfl rfl rfl rfl ⟨rfl, rfl, rfl, rfl, rfl⟩ rfl rfl rfl rfl rfl (by kernel_rfl) Try.func7 closedFnValueAt
    (of_decide_eq_true (by kernel_rfl)) (by unfold Func.isWrapper; first | (rw [if_pos (by decide +kernel)]; kernel_rfl) | (rw [if_neg (by decide +kernel)]; exact ⟨rfl, rfl⟩))
    (fun os started H enc _ => liftedFnValueAt os started H enc)

/-- the statement -/
theorem provedFnValueAt : Rows.FnValueAtSaid := overFnValueAt
#print axioms provedFnValueAt

set_option maxHeartbeats 1600000 in
theorem walkFnRangeOfAll (A : Option Addr) (n c : Nat) (l0 : List Int) (W : World) (h : Rd W 1 A n c (bc l0)) (hb : By l0) : Calls Try.prog 13 #[.slice A n c] W fun e w' => e = .returned (.bool true) ∧ Below W.heap.size W w' := by
  by_cases hbig : 1048576 < n
  · go_enter Try.func13, Try.ntmps13
    go_wp2
    go_ret
    exact ⟨rfl, Below.refl _ _⟩
  go_enter Try.func13, Try.ntmps13
  go_wp2_with fail
  refine (drawRO_any A n c l0 W h hb (by omega)).mono ?_
  rintro e w1 ⟨A1, c1, l, f, t, rfl, hf, ht, o1, hm, g1⟩
  have L1 := (Live.zero _).new o1 g1
  have hlen := hm.1
  clear h hb o1 g1 hm
  obtain ⟨L, hv⟩ : ∃ r, rangeL l f t = r := ⟨_, rfl⟩
  obtain ⟨q, hq⟩ : ∃ q, validL l = q := ⟨_, rfl⟩
  have HQ := Lib.hid (And.intro hv hq)
  clear hv hq
  go_wp2_with fail
  refine (rangeI_at _ _ _ l f t L _ (L1.rd 0 rfl) HQ.out.1).mono ?_
  rintro e w2 ⟨A2, c2, rfl, o2, g2⟩
  have L2 := L1.new o2 g2
  clear L1 o2 g2
  go_wp2_with fail
  refine (rangeS_at _ _ _ l f t L _ (L2.rd 1 rfl) HQ.out.1).mono ?_
  rintro e w3 ⟨A3, c3, rfl, o3, g3⟩
  have L3 := L2.new o3 g3
  clear L2 o3 g3
  go_wp2_with fail
  refine (equalPoints_same _ _ _ _ _ _ L _ (L3.rd 1 rfl) (L3.rd 0 rfl)).mono ?_
  rintro e w4 ⟨rfl, g4⟩
  have L4 := (L3.step g4).drop
  clear L3 g4
  go_wp2_with fail
  refine (validI_at _ _ _ l q _ (L4.rd 1 rfl) HQ.out.2).mono ?_
  rintro e w5 ⟨rfl, g5⟩
  have L5 := L4.step g5
  clear L4 g5
  cases q with
  | false =>
    go_wp2_with fail
    refine (rangeS_at _ _ _ l f t L _ (L5.rd 1 rfl) HQ.out.1).mono ?_
    rintro e w6 ⟨A6, c6, rfl, o6, g6⟩
    have L6 := L5.new o6 g6
    clear L5 o6 g6
    go_wp2_with fail
    refine (equalPoints_same _ _ _ _ _ _ L _ (L6.rd 1 rfl) (L6.rd 0 rfl)).mono ?_
    rintro e w7 ⟨rfl, g7⟩
    have hbel := (L6.step g7).bel
    clear L6 g7
    go_wp2
    go_ret
    exact ⟨rfl, hbel⟩
  | true =>
    go_wp2_with fail
    refine (rangeI_at _ _ _ l 0 1001 l _ (L5.rd 1 rfl) (range_all HQ.out.2)).mono ?_
    rintro e w6 ⟨A6, c6, rfl, o6, g6⟩
    have L6 := L5.new o6 g6
    clear L5 o6 g6
    go_wp2_with fail
    refine (equalPoints_same _ _ _ _ _ _ l _ (L6.rd 0 rfl) (L6.rd 2 rfl)).mono ?_
    rintro e w7 ⟨rfl, g7⟩
    have L7 := L6.step g7
    clear L6 g7
    go_wp2_with fail
    refine (rangeI_at _ _ _ l 7 7 [] _ (L7.rd 2 rfl) (range_empty 7)).mono ?_
    rintro e w8 ⟨A8, c8, rfl, o8, g8⟩
    have hbel := (L7.new o8 g8).bel
    clear L7 o8 g8
    go_wp2
    go_ret
    exact ⟨rfl, hbel⟩
set_option maxRecDepth 100000 in
set_option linter.unusedVariables false in
theorem liftedFnRangeOfAll (os : Os) (started : os.Started) (H : Type) (enc : TypeId × Value → H) :
    ReturnsInHanded {} Try.checked os 13 .any (Rows.fnRangeOfAllSpec.pre6 enc Try.prog Try.f13 Rows.fnRangeOfAllRow.domain false) (Rows.fnRangeOfAllSpec.post enc Try.prog Try.f13 false true false false) := by
  refine returnsInHanded_of_change (C := Try.checked) own started (by kernel_rfl) Try.func13
    (ChangeSpec.witness6 (enc := enc) (C := Try.checked) false ⟨#[], #[.slice none 0 0], []⟩ 8 (by kernel_rfl) (by kernel_rfl) (by kernel_rfl) (by kernel_rfl)) ?_
  intro W base args ds gs before hval0 hW hcnd _
  have hval : ∀ (j : Nat) t v, Try.f13.params[j]? = some t → args[j]? = some v → Value.okWide Try.prog W .any base t v := hval0
  have hW' := hW
  obtain ⟨p, q, hA0, hV, rfl, hfz, hnd⟩ := hW
  have hA : DataW.TrodAll enc Try.prog W 0 (fun _ => true) true Try.f13.params.toList args.toList ds p := hA0
  rw [Try.params13] at hA hval
  obtain ⟨v0, vs0, d0, ds0, p0, q0, hargs, rfl, rfl, h0, r0⟩ := trodAll_cons hA
  obtain ⟨rfl, rfl, rfl⟩ := trodAll_nil r0
  obtain rfl : args = #[v0] := by cases args; simp_all
  obtain ⟨rfl, rfl⟩ := trodVars_none hV
  obtain ⟨a0, len0, cap0, rfl⟩ := okWide_slice Try.underlying29 (hval 0 29 v0 rfl rfl)
  have k0 := h0
  have lt0 : ∀ x ∈ p0, x.block < W.heap.size := by obtain ⟨m, hm⟩ := k0; exact DataW.trod_lt m _ _ _ hm
  obtain ⟨z0, w0, b0⟩ : ∃ zs : List Int, Rd W 1 a0 len0 cap0 (zs.map (Value.int .u8)) ∧ By zs := by
    obtain ⟨fuel, hf⟩ := h0
    rcases open_ints Try.underlying29 Try.underlying5 (by kernel_rfl) hf with ⟨hcs, _⟩ | ⟨x, l, c, zs, hcs, _, hl, hm, hz, _, hcell, hwz⟩
    · simp [Value.cells] at hcs
      obtain ⟨rfl, rfl, rfl⟩ := hcs
      exact ⟨[], Rd.nil_ _ _, by intro x hx; cases hx⟩
    · simp [Value.cells] at hcs
      obtain ⟨rfl, rfl, rfl⟩ := hcs
      exact ⟨_, rd_of_ints hl hm (by simpa using hz) hcell, by_of_wf hwz⟩
  clear hA0 hval0
  refine (walkFnRangeOfAll a0 len0 cap0 z0 W w0 b0).mono fun e W' ⟨he, bel⟩ => ?_
  subst he
  exact ⟨_, rfl, _, _, _, [], _, [], hW', trodAll_mk1 (shut_bool Try.underlying4 _), (trodAll_cons_mk (Below.trod laidOut (by kernel_rfl) (of_decide_eq_true (by kernel_rfl)) k0 bel lt0) trodAll_mk0), rfl, bel.frame _, fun h => by cases h⟩

theorem closedFnRangeOfAll : joinedFacts Try.prog 13 Try.f13 Rows.fnRangeOfAllSpec Rows.fnRangeOfAllRow = true := by
  unfold joinedFacts
  refine and_yes (and_yes (and_yes (and_yes (and_yes (and_yes (and_yes ?_ mayIn) ?_) ?_) ?_) ?_) ?_) ?_
  rotate_left
  · rw [liftsIn]; kernel_rfl
  · rw [makeIn]; kernel_rfl
  · kernel_rfl
  · kernel_rfl
  · kernel_rfl
  · kernel_rfl
  · kernel_rfl

theorem overFnRangeOfAll : Rows.fnRangeOfAllRow.holds Try.pinned (OpenSpec.ofChange Rows.fnRangeOfAllSpec) :=
  OpenClaim.holds_of_wide 13 Try.f13 rfl rfl rfl rfl rfl rfl rfl ⟨rfl, rfl, rfl, rfl, rfl⟩ rfl rfl rfl rfl rfl (by kernel_rfl) Try.func13 closedFnRangeOfAll
    (of_decide_eq_true (by kernel_rfl)) (by unfold Func.isWrapper; first | (rw [if_pos (by decide +kernel)]; kernel_rfl) | (rw [if_neg (by decide +kernel)]; exact ⟨rfl, rfl⟩))
    (fun os started H enc _ => liftedFnRangeOfAll os started H enc)

/-- the statement -/
theorem provedFnRangeOfAll : Rows.FnRangeOfAllSaid := overFnRangeOfAll
#print axioms provedFnRangeOfAll

set_option maxHeartbeats 1600000 in
theorem walkFnRangeOfSplit (A : Option Addr) (n c : Nat) (l0 : List Int) (W : World) (h : Rd W 1 A n c (bc l0)) (hb : By l0) : Calls Try.prog 14 #[.slice A n c] W fun e w' => e = .returned (.bool true) ∧ Below W.heap.size W w' := by
  by_cases hbig : 1048576 < n
  · go_enter Try.func14, Try.ntmps14
    go_wp2
    go_ret
    exact ⟨rfl, Below.refl _ _⟩
  go_enter Try.func14, Try.ntmps14
  go_wp2_with fail
  refine (drawRO_any A n c l0 W h hb (by omega)).mono ?_
  rintro e w1 ⟨A1, c1, l, f, t, rfl, hf, ht, o1, hm, g1⟩
  have L1 := (Live.zero _).new o1 g1
  have hlen := hm.1
  clear h hb o1 g1 hm
  have hLL := @range_ok l f t
  have hcut := @range_cut l f t
  have hmem := @okR_of_mem l f t
  obtain ⟨L, hv⟩ : ∃ r, rangeL l f t = r := ⟨_, rfl⟩
  rw [hv] at hLL hcut hmem
  have hL16 := hLL.1
  have HQ := Lib.hid (And.intro hv (And.intro hmem hcut))
  clear hv hmem hcut hLL
  go_wp2_with fail
  refine (rangeI_at _ _ _ l f t L _ (L1.rd 0 rfl) HQ.out.1).mono ?_
  rintro e w2 ⟨A2, c2, rfl, o2, g2⟩
  have L2 := L1.new o2 g2
  clear L1 o2 g2
  go_wp2_with fail
  refine (rangeS_at _ _ _ l f t L _ (L2.rd 1 rfl) HQ.out.1).mono ?_
  rintro e w3 ⟨A3, c3, rfl, o3, g3⟩
  have L3 := L2.new o3 g3
  clear L2 o3 g3
  go_wp2_with fail
  refine (equalPoints_same _ _ _ _ _ _ L _ (L3.rd 1 rfl) (L3.rd 0 rfl)).mono ?_
  rintro e w4 ⟨rfl, g4⟩
  have L4 := (L3.step g4).drop
  clear L3 g4
  by_cases hgo : 0 < L.length ∧ f ≤ 40 ∧ 40 ≤ t
  · obtain ⟨h0, h1, h2⟩ := hgo
    have hne : ((L.length : Int) == 0) = false := by rw [beq_eq_false_iff_ne]; omega
    have hd1 : decide (40 < f) = false := by simp; omega
    have hd2 : decide (t < 40) = false := by simp; omega
    have hok : okR l f t = true := HQ.out.2.1 (by intro e; rw [e] at h0; simp at h0)
    obtain ⟨La, ha⟩ : ∃ r, rangeL l f 40 = r := ⟨_, rfl⟩
    obtain ⟨Lb, hb⟩ : ∃ r, rangeL l 40 t = r := ⟨_, rfl⟩
    have hl1 := (@range_ok l f 40).1
    have hl2 := (@range_ok l 40 t).1
    rw [ha] at hl1
    rw [hb] at hl2
    have hE : La ++ Lb = L := by rw [← ha, ← hb]; exact HQ.out.2.2 hok h1 h2
    have HE := Lib.hid (And.intro ha (And.intro hb hE))
    have hsz4 := L4.grown.size
    clear ha hb hE hok
    go_wp2_with fail
    have L5 := L4.new (lit_own w4 w4.heap.size 33 2 [] 0 (Nat.le_refl _) (by omega) rfl) (g_alloc _ _ _)
    clear L4
    refine (rangeI_at _ _ _ l f 40 La _ (L5.rd 2 rfl) HE.out.1).mono ?_
    rintro e w6 ⟨A6, c6, rfl, o6, g6⟩
    have L6 := L5.new o6 g6
    clear L5 o6 g6
    have hsz6 := L6.grown.size
    go_wp2_with (at_builtin; refine apps_pt rfl (.tmp 46) (.tmp 49) rfl W.heap.size [] La _ _ _ _ _ _ rfl (L6.own 1 rfl) rfl (L6.rd 0 rfl) (by simp) (by omega) hsz6 ?_; intro A7 c7 w7 o7 g7 f7; simp only [List.nil_append] at o7 f7; have L7 := L6.app 1 rfl o7 g7 f7; clear L6 o7 g7 f7)
    refine (rangeI_at _ _ _ l 40 t Lb _ (L7.rd 3 rfl) HE.out.2.1).mono ?_
    rintro e w8 ⟨A8, c8, rfl, o8, g8⟩
    have L8 := L7.new o8 g8
    clear L7 o8 g8
    have hsz8 := L8.grown.size
    go_wp2_with (at_builtin; refine apps_pt rfl (.tmp 50) (.tmp 53) rfl W.heap.size La Lb _ _ _ _ _ _ rfl (L8.own 2 rfl) rfl (L8.rd 0 rfl) (by omega) (by omega) hsz8 ?_; intro A9 c9 w9 o9 g9 f9; rw [HE.out.2.2] at o9 f9 ⊢; have L9 := L8.app 2 rfl o9 g9 f9; clear L8 o9 g9 f9)
    refine (equalPoints_same _ _ _ _ _ _ L _ (L9.rd 2 rfl) (L9.rd 3 rfl)).mono ?_
    rintro e w10 ⟨rfl, g10⟩
    have hbel := (L9.step g10).bel
    clear L9 g10
    go_wp2
    go_ret
    exact ⟨rfl, hbel⟩
  · have hgo' : L.length = 0 ∨ (0 < L.length ∧ 40 < f) ∨ (0 < L.length ∧ f ≤ 40 ∧ t < 40) := by omega
    clear hgo
    rcases hgo' with hz | ⟨hz, hz2⟩ | ⟨hz, hz2, hz3⟩
    · have hne : ((L.length : Int) == 0) = true := by rw [beq_iff_eq]; omega
      clear hz
      go_wp2_with fail
      refine (rangeS_at _ _ _ l f t L _ (L4.rd 1 rfl) HQ.out.1).mono ?_
      rintro e w6 ⟨A6, c6, rfl, o6, g6⟩
      have L6 := L4.new o6 g6
      clear L4 o6 g6
      go_wp2_with fail
      refine (equalPoints_same _ _ _ _ _ _ L _ (L6.rd 1 rfl) (L6.rd 0 rfl)).mono ?_
      rintro e w7 ⟨rfl, g7⟩
      have hbel := (L6.step g7).bel
      clear L6 g7
      go_wp2
      go_ret
      exact ⟨rfl, hbel⟩
    · have hne : ((L.length : Int) == 0) = false := by rw [beq_eq_false_iff_ne]; omega
      have hd : decide (40 < f) = true := by simpa using hz2
      go_wp2_with fail
      refine (rangeS_at _ _ _ l f t L _ (L4.rd 1 rfl) HQ.out.1).mono ?_
      rintro e w6 ⟨A6, c6, rfl, o6, g6⟩
      have L6 := L4.new o6 g6
      clear L4 o6 g6
      go_wp2_with fail
      refine (equalPoints_same _ _ _ _ _ _ L _ (L6.rd 1 rfl) (L6.rd 0 rfl)).mono ?_
      rintro e w7 ⟨rfl, g7⟩
      have hbel := (L6.step g7).bel
      clear L6 g7
      go_wp2
      go_ret
      exact ⟨rfl, hbel⟩
    · have hne : ((L.length : Int) == 0) = false := by rw [beq_eq_false_iff_ne]; omega
      have hd : decide (40 < f) = false := by simp; omega
      have hd2 : decide (t < 40) = true := by simpa using hz3
      go_wp2_with fail
      refine (rangeS_at _ _ _ l f t L _ (L4.rd 1 rfl) HQ.out.1).mono ?_
      rintro e w6 ⟨A6, c6, rfl, o6, g6⟩
      have L6 := L4.new o6 g6
      clear L4 o6 g6
      go_wp2_with fail
      refine (equalPoints_same _ _ _ _ _ _ L _ (L6.rd 1 rfl) (L6.rd 0 rfl)).mono ?_
      rintro e w7 ⟨rfl, g7⟩
      have hbel := (L6.step g7).bel
      clear L6 g7
      go_wp2
      go_ret
      exact ⟨rfl, hbel⟩
set_option maxRecDepth 100000 in
set_option linter.unusedVariables false in
theorem liftedFnRangeOfSplit (os : Os) (started : os.Started) (H : Type) (enc : TypeId × Value → H) :
    ReturnsInHanded {} Try.checked os 14 .any (Rows.fnRangeOfSplitSpec.pre6 enc Try.prog Try.f14 Rows.fnRangeOfSplitRow.domain false) (Rows.fnRangeOfSplitSpec.post enc Try.prog Try.f14 false true false false) := by
  refine returnsInHanded_of_change (C := Try.checked) own started (by kernel_rfl) Try.func14
    (ChangeSpec.witness6 (enc := enc) (C := Try.checked) false ⟨#[], #[.slice none 0 0], []⟩ 8 (by kernel_rfl) (by kernel_rfl) (by kernel_rfl) (by kernel_rfl)) ?_
  intro W base args ds gs before hval0 hW hcnd _
  have hval : ∀ (j : Nat) t v, Try.f14.params[j]? = some t → args[j]? = some v → Value.okWide Try.prog W .any base t v := hval0
  have hW' := hW
  obtain ⟨p, q, hA0, hV, rfl, hfz, hnd⟩ := hW
  have hA : DataW.TrodAll enc Try.prog W 0 (fun _ => true) true Try.f14.params.toList args.toList ds p := hA0
  rw [Try.params14] at hA hval
  obtain ⟨v0, vs0, d0, ds0, p0, q0, hargs, rfl, rfl, h0, r0⟩ := trodAll_cons hA
  obtain ⟨rfl, rfl, rfl⟩ := trodAll_nil r0
  obtain rfl : args = #[v0] := by cases args; simp_all
  obtain ⟨rfl, rfl⟩ := trodVars_none hV
  obtain ⟨a0, len0, cap0, rfl⟩ := okWide_slice Try.underlying29 (hval 0 29 v0 rfl rfl)
  have k0 := h0
  have lt0 : ∀ x ∈ p0, x.block < W.heap.size := by obtain ⟨m, hm⟩ := k0; exact DataW.trod_lt m _ _ _ hm
  obtain ⟨z0, w0, b0⟩ : ∃ zs : List Int, Rd W 1 a0 len0 cap0 (zs.map (Value.int .u8)) ∧ By zs := by
    obtain ⟨fuel, hf⟩ := h0
    rcases open_ints Try.underlying29 Try.underlying5 (by kernel_rfl) hf with ⟨hcs, _⟩ | ⟨x, l, c, zs, hcs, _, hl, hm, hz, _, hcell, hwz⟩
    · simp [Value.cells] at hcs
      obtain ⟨rfl, rfl, rfl⟩ := hcs
      exact ⟨[], Rd.nil_ _ _, by intro x hx; cases hx⟩
    · simp [Value.cells] at hcs
      obtain ⟨rfl, rfl, rfl⟩ := hcs
      exact ⟨_, rd_of_ints hl hm (by simpa using hz) hcell, by_of_wf hwz⟩
  clear hA0 hval0
  refine (walkFnRangeOfSplit a0 len0 cap0 z0 W w0 b0).mono fun e W' ⟨he, bel⟩ => ?_
  subst he
  exact ⟨_, rfl, _, _, _, [], _, [], hW', trodAll_mk1 (shut_bool Try.underlying4 _), (trodAll_cons_mk (Below.trod laidOut (by kernel_rfl) (of_decide_eq_true (by kernel_rfl)) k0 bel lt0) trodAll_mk0), rfl, bel.frame _, fun h => by cases h⟩

theorem closedFnRangeOfSplit : joinedFacts Try.prog 14 Try.f14 Rows.fnRangeOfSplitSpec Rows.fnRangeOfSplitRow = true := by
  unfold joinedFacts
  refine and_yes (and_yes (and_yes (and_yes (and_yes (and_yes (and_yes ?_ mayIn) ?_) ?_) ?_) ?_) ?_) ?_
  rotate_left
  · rw [liftsIn]; kernel_rfl
  · rw [makeIn]; kernel_rfl
  · kernel_rfl
  · kernel_rfl
  · kernel_rfl
  · kernel_rfl
  · kernel_rfl

theorem overFnRangeOfSplit : Rows.fnRangeOfSplitRow.holds Try.pinned (OpenSpec.ofChange Rows.fnRangeOfSplitSpec) :=
  OpenClaim.holds_of_wide 14 Try.f14 rfl rfl rfl rfl rfl rfl rfl ⟨rfl, rfl, rfl, rfl, rfl⟩ rfl rfl rfl rfl rfl (by kernel_rfl) Try.func14 closedFnRangeOfSplit
    (of_decide_eq_true (by kernel_rfl)) (by unfold Func.isWrapper; first | (rw [if_pos (by decide +kernel)]; kernel_rfl) | (rw [if_neg (by decide +kernel)]; exact ⟨rfl, rfl⟩))
    (fun os started H enc _ => liftedFnRangeOfSplit os started H enc)

/-- the statement -/
theorem provedFnRangeOfSplit : Rows.FnRangeOfSplitSaid := overFnRangeOfSplit
#print axioms provedFnRangeOfSplit
end Go.Proofs.Ytceihlnmaeikdaa
