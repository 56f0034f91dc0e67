/- The law FnRangeOf: for every input the law returns true, and nothing that was there has turned. -/
import Derived.Test.YtceihlnmaeikdaaLawB3
namespace Go.Proofs.Ytceihlnmaeikdaa
set_option linter.unusedVariables false
open Go.ChangeShapes Go.WideShapes Go.ChangeAt Go.RowKit

theorem part_step {l : List Pt} {f t : Int} {k : Nat} {p : Pt} (hx : l[k]? = some p) : partL l f t = partL (l.take k) f t ++ (if inT f t p then [p] else []) ++ partL (l.drop (k + 1)) f t := by
  have e : l = l.take k ++ ([p] ++ l.drop (k + 1)) := by
    obtain ⟨h1, h2⟩ := List.getElem?_eq_some_iff.1 hx
    rw [List.singleton_append, ← h2, ← List.drop_eq_getElem_cons h1, List.take_append_drop]
  unfold partL
  conv => lhs; rw [e]
  rw [List.filter_append, List.filter_append, List.append_assoc]
  congr 2
  cases hp : inT f t p <;> simp [hp]
theorem part_take {l : List Pt} {f t : Int} {k : Nat} {p : Pt} (hx : l[k]? = some p) : partL (l.take (k + 1)) f t = partL (l.take k) f t ++ (if inT f t p then [p] else []) := by
  rw [take_get hx]
  unfold partL
  rw [List.filter_append]
  cases hp : inT f t p <;> simp [hp]

attribute [local irreducible] wpQuiet
set_option maxHeartbeats 1600000 in
theorem walkFnRangeOf (A : Option Addr) (n c : Nat) (l0 : List Int) (W : World) (h : Rd W 1 A n c (bc l0)) (hb : By l0) : Calls Try.prog 12 #[.slice A n c] W fun e w' => e = .returned (.bool true) ∧ Below W.heap.size W w' := by
  by_cases hbig : 1048576 < n
  · go_enter Try.func12, Try.ntmps12
    go_wp2
    go_ret
    exact ⟨rfl, Below.refl _ _⟩
  go_enter Try.func12, Try.ntmps12
  go_wp2_with fail
  refine (drawRO_any A n c l0 W h hb (by omega)).mono ?_
  rintro e w1 ⟨A1, c1, l, f, t, rfl, hf, ht, o1, hm, g1⟩
  have L1 := (Live.zero _).new o1 g1
  have hlen := hm.1
  clear h hb o1 g1 hm
  have hLL := @range_ok l f t
  have hmem := @okR_of_mem l f t
  have hyes := @range_yes l f t
  obtain ⟨L, hv⟩ : ∃ r, rangeL l f t = r := ⟨_, rfl⟩
  rw [hv] at hLL hmem hyes
  have hL16 := hLL.1
  have HQ := Lib.hid (And.intro hv (And.intro hmem hyes))
  clear hv hmem hyes hLL
  go_wp2_with fail
  refine (rangeI_at _ _ _ l f t L _ (L1.rd 0 rfl) HQ.out.1).mono ?_
  rintro e w2 ⟨A2, c2, rfl, o2, g2⟩
  have L2 := L1.new o2 g2
  clear L1 o2 g2
  go_wp2_with fail
  refine (rangeS_at _ _ _ l f t L _ (L2.rd 1 rfl) HQ.out.1).mono ?_
  rintro e w3 ⟨A3, c3, rfl, o3, g3⟩
  have L3 := L2.new o3 g3
  clear L2 o3 g3
  go_wp2_with fail
  refine (equalPoints_same _ _ _ _ _ _ L _ (L3.rd 1 rfl) (L3.rd 0 rfl)).mono ?_
  rintro e w4 ⟨rfl, g4⟩
  have L4 := (L3.step g4).drop
  clear L3 g4
  by_cases hz : L.length = 0
  · have hne : ((L.length : Int) == 0) = true := by rw [beq_iff_eq]; omega
    clear hz
    go_wp2_with fail
    refine (rangeS_at _ _ _ l f t L _ (L4.rd 1 rfl) HQ.out.1).mono ?_
    rintro e w6 ⟨A6, c6, rfl, o6, g6⟩
    have L6 := L4.new o6 g6
    clear L4 o6 g6
    go_wp2_with fail
    refine (equalPoints_same _ _ _ _ _ _ L _ (L6.rd 1 rfl) (L6.rd 0 rfl)).mono ?_
    rintro e w7 ⟨rfl, g7⟩
    have hbel := (L6.step g7).bel
    clear L6 g7
    go_wp2
    go_ret
    exact ⟨rfl, hbel⟩
  · have hne : ((L.length : Int) == 0) = false := by rw [beq_eq_false_iff_ne]; omega
    have hok : okR l f t = true := HQ.out.2.1 (by intro e; rw [e] at hz; simp at hz)
    have HL := Lib.hid (HQ.out.2.2 hok)
    have hbel := L4.bel
    have hR1 := L4.rd 1 rfl
    have hR2 := L4.rd 0 rfl
    clear L4 HQ hok
    go_wp2
    go_loopw [7, 8] (fun s7 s8 wr => ∃ (k m : Nat), k ≤ l.length ∧ s8 = .int .i64 k ∧ s7 = .int .i64 m ∧ m ≤ k ∧ Hid (m = (partL (l.take k) f t).length) ∧ w4.grownBy wr none) (fun _ i _ => l.length - (intOf i).toNat)
    case atStart => exact ⟨0, 0, Nat.zero_le _, rfl, rfl, Nat.le_refl _, rfl, g_refl _ _⟩
    case round =>
      obtain ⟨k, m, hk, rfl, rfl, hmk, hI, hg⟩ := hrel
      by_cases hlt : k < l.length
      · obtain ⟨⟨x, u⟩, hp, -⟩ := get_ex (l := l) (i := k) hlt
        obtain ⟨b0, o0, rfl, hc⟩ := (hR1.keptN hg).cells hlt
        have c0 := hc _ _ (pc_at hp).1
        have c1' := hc _ _ (pc_at hp).2
        simp only [Nat.add_zero, ← Nat.add_assoc] at c0 c1'
        have hlt' : (k : Int) < (l.length : Int) := by omega
        have hstep := @part_step l f t k _ hp
        have htake := @part_take l f t k _ hp
        clear hc hp
        by_cases hin : f ≤ x ∧ x < t
        · have hT : inT f t (x, u) = true := by simp only [inT, Bool.and_eq_true, decide_eq_true_eq]; omega
          rw [hT, if_pos rfl] at hstep htake
          have hmL : m < L.length := by
            rw [HL.out, hstep, hI.out]
            simp
          have hget : L[m]? = some (x, u) := by
            rw [HL.out, hstep, hI.out, List.append_assoc, List.getElem?_append_right (Nat.le_refl _)]
            simp
          obtain ⟨b2, o2, rfl, hc2⟩ := (hR2.keptN hg).cells hmL
          have c2' := hc2 _ _ (pc_at hget).1
          have c3' := hc2 _ _ (pc_at hget).2
          simp only [Nat.add_zero, ← Nat.add_assoc] at c2' c3'
          have HI : Hid (m + 1 = (partL (l.take (k + 1)) f t).length) := by show _ = _; rw [htake, hI.out]; simp
          have hm1 : decide (L.length ≤ m) = false := by simp; omega
          have hm2 : (m : Int) < (L.length : Int) := by omega
          have hb1 : decide (f ≤ x) = true := by simpa using hin.1
          have hb2 : decide (x < t) = true := by simpa using hin.2
          clear hstep htake hc2 hget hI hin hT hmL
          go_wp2_with fail
          have d0 := gw_cellW c0
          have d1 := gw_cellW c1'
          have d2 := gw_cellW c2'
          have d3 := gw_cellW c3'
          clear c0 c1' c2' c3'
          refine wp_region_gw (W := wr) (by kernel_rfl) (by kernel_rfl) (g_refl _ _) ?_
          repeat (quiet_step (fail))
          refine wpQuiet_nil ?_
          rintro _ ⟨⟨w5, hg5⟩, rfl⟩
          go_wp2
          go_roundw
          case rel => exact ⟨k + 1, m + 1, by omega, by go_num, by go_num, by omega, HI, g_trans hg hg5⟩
          case measure => simp [intOf]; omega
        · have hT : inT f t (x, u) = false := by
            cases hq : inT f t (x, u) with
            | false => rfl
            | true => simp only [inT, Bool.and_eq_true, decide_eq_true_eq] at hq; omega
          rw [hT] at htake
          have HI : Hid (m = (partL (l.take (k + 1)) f t).length) := by show _ = _; rw [htake, hI.out]; simp
          clear hstep htake hI hT
          by_cases h1 : f ≤ x
          · have hb1 : decide (f ≤ x) = true := by simpa using h1
            have hb2 : decide (x < t) = false := by simp; omega
            go_wp2
            go_roundw
            case rel => exact ⟨k + 1, m, by omega, by go_num, rfl, by omega, HI, hg⟩
            case measure => simp [intOf]; omega
          · have hb1 : decide (f ≤ x) = false := by simpa using h1
            go_wp2
            go_roundw
            case rel => exact ⟨k + 1, m, by omega, by go_num, rfl, by omega, HI, hg⟩
            case measure => simp [intOf]; omega
      · have hge : ¬ (k : Int) < (l.length : Int) := by omega
        have hE : m = L.length := by rw [hI.out, HL.out, List.take_of_length_le (by omega)]
        subst hE
        have hbel2 := hbel.trans (g_below hg hbel.size (by simp))
        clear hI HL hbel
        go_wp2
        go_ret
        exact ⟨rfl, hbel2⟩
set_option maxRecDepth 100000 in
set_option linter.unusedVariables false in
theorem liftedFnRangeOf (os : Os) (started : os.Started) (H : Type) (enc : TypeId × Value → H) :
    ReturnsInHanded {} Try.checked os 12 .any (Rows.fnRangeOfSpec.pre6 enc Try.prog Try.f12 Rows.fnRangeOfRow.domain false) (Rows.fnRangeOfSpec.post enc Try.prog Try.f12 false true false false) := by
  refine returnsInHanded_of_change (C := Try.checked) own started (by kernel_rfl) Try.func12
    (ChangeSpec.witness6 (enc := enc) (C := Try.checked) false ⟨#[], #[.slice none 0 0], []⟩ 8 (by kernel_rfl) (by kernel_rfl) (by kernel_rfl) (by kernel_rfl)) ?_
  intro W base args ds gs before hval0 hW hcnd _
  have hval : ∀ (j : Nat) t v, Try.f12.params[j]? = some t → args[j]? = some v → Value.okWide Try.prog W .any base t v := hval0
  have hW' := hW
  obtain ⟨p, q, hA0, hV, rfl, hfz, hnd⟩ := hW
  have hA : DataW.TrodAll enc Try.prog W 0 (fun _ => true) true Try.f12.params.toList args.toList ds p := hA0
  rw [Try.params12] at hA hval
  obtain ⟨v0, vs0, d0, ds0, p0, q0, hargs, rfl, rfl, h0, r0⟩ := trodAll_cons hA
  obtain ⟨rfl, rfl, rfl⟩ := trodAll_nil r0
  obtain rfl : args = #[v0] := by cases args; simp_all
  obtain ⟨rfl, rfl⟩ := trodVars_none hV
  obtain ⟨a0, len0, cap0, rfl⟩ := okWide_slice Try.underlying29 (hval 0 29 v0 rfl rfl)
  have k0 := h0
  have lt0 : ∀ x ∈ p0, x.block < W.heap.size := by obtain ⟨m, hm⟩ := k0; exact DataW.trod_lt m _ _ _ hm
  obtain ⟨z0, w0, b0⟩ : ∃ zs : List Int, Rd W 1 a0 len0 cap0 (zs.map (Value.int .u8)) ∧ By zs := by
    obtain ⟨fuel, hf⟩ := h0
    rcases open_ints Try.underlying29 Try.underlying5 (by kernel_rfl) hf with ⟨hcs, _⟩ | ⟨x, l, c, zs, hcs, _, hl, hm, hz, _, hcell, hwz⟩
    · simp [Value.cells] at hcs
      obtain ⟨rfl, rfl, rfl⟩ := hcs
      exact ⟨[], Rd.nil_ _ _, by intro x hx; cases hx⟩
    · simp [Value.cells] at hcs
      obtain ⟨rfl, rfl, rfl⟩ := hcs
      exact ⟨_, rd_of_ints hl hm (by simpa using hz) hcell, by_of_wf hwz⟩
  clear hA0 hval0
  refine (walkFnRangeOf a0 len0 cap0 z0 W w0 b0).mono fun e W' ⟨he, bel⟩ => ?_
  subst he
  exact ⟨_, rfl, _, _, _, [], _, [], hW', trodAll_mk1 (shut_bool Try.underlying4 _), (trodAll_cons_mk (Below.trod laidOut (by kernel_rfl) (of_decide_eq_true (by kernel_rfl)) k0 bel lt0) trodAll_mk0), rfl, bel.frame _, fun h => by cases h⟩

theorem closedFnRangeOf : joinedFacts Try.prog 12 Try.f12 Rows.fnRangeOfSpec Rows.fnRangeOfRow = true := by
  unfold joinedFacts
  refine and_yes (and_yes (and_yes (and_yes (and_yes (and_yes (and_yes ?_ mayIn) ?_) ?_) ?_) ?_) ?_) ?_
  rotate_left
  · rw [liftsIn]; kernel_rfl
  · rw [makeIn]; kernel_rfl
  · kernel_rfl
  · kernel_rfl
  · kernel_rfl
  · kernel_rfl
  · kernel_rfl

theorem overFnRangeOf : Rows.fnRangeOfRow.holds Try.pinned (OpenSpec.ofChange Rows.fnRangeOfSpec) :=
  OpenClaim.holds_of_wide 12 Try.f12 rfl rfl rfl rfl rfl rfl rfl ⟨rfl, rfl, rfl, rfl, rfl⟩ rfl rfl rfl rfl rfl (by kernel_rfl) Try.func12 closedFnRangeOf
    (of_decide_eq_true (by kernel_rfl)) (by unfold Func.isWrapper; first | (rw [if_pos (by decide +kernel)]; kernel_rfl) | (rw [if_neg (by decide +kernel)]; exact ⟨rfl, rfl⟩))
    (fun os started H enc _ => liftedFnRangeOf os started H enc)

/-- the statement -/
theorem provedFnRangeOf : Rows.FnRangeOfSaid := overFnRangeOf
#print axioms provedFnRangeOf
end Go.Proofs.Ytceihlnmaeikdaa
