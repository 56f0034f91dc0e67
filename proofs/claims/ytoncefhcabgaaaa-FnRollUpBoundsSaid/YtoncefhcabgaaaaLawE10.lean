/- The law FnRollUpBounds: for every input the law returns true, and nothing that was there has turned. -/
import Derived.Test.YtoncefhcabgaaaaFrame2
import Derived.Test.YtoncefhcabgaaaaBEq
import Derived.Test.YtoncefhcabgaaaaAt
import Derived.Test.YtoncefhcabgaaaaPts
import Derived.Test.YtoncefhcabgaaaaPlainE6
import Derived.Test.YtoncefhcabgaaaaSumP
import Derived.Test.YtoncefhcabgaaaaDrawB2
import Derived.Test.YtoncefhcabgaaaaLive
namespace Go.Proofs.Ytoncefhcabgaaaa
set_option linter.unusedVariables false
open Go.ChangeShapes Go.WideShapes Go.ChangeAt Go.RowKit

attribute [local irreducible] wpQuiet
set_option maxRecDepth 100000 in
set_option maxHeartbeats 3200000 in
theorem walkFnRollUpBounds (A : Option Addr) (n c : Nat) (l : List Int) (W : World) (h : Rd W 1 A n c (bc l)) (hb : By l) : Calls Try.prog 5 #[.slice A n c] W fun e w' => e = .returned (.bool true) ∧ Below W.heap.size W w' := by
  by_cases hbig : (1048576 : Int) < (n : Int)
  · clear h hb
    go_enter Try.func5, Try.ntmps5
    go_wp2
    go_ret
    exact ⟨rfl, Below.refl _ _⟩
  go_enter Try.func5, Try.ntmps5
  go_wp2_with fail
  refine (drawRU_any A n c l _ h hb (by omega)).mono ?_
  rintro e w1 ⟨A1, c1, L, x, rfl, hx, o1, -, g1⟩
  obtain ⟨x0, x1⟩ := hx
  have RA := Lib.hid (Rd.own o1)
  have L1 := (Live.zero W).step g1
  obtain ⟨M, hv⟩ : ∃ M, rollV x L = M := ⟨_, rfl⟩
  obtain ⟨v, hw⟩ : ∃ v, validL L = v := ⟨_, rfl⟩
  have HV := Lib.hid hv
  have HW := Lib.hid hw
  clear hv hw h hb o1 g1
  go_wp2_with fail
  refine (rollI_at _ _ _ L x M _ RA.out HV.out).mono ?_
  rintro e w2 ⟨A2, c2, rfl, o1, g1⟩
  have L2 := L1.new o1 g1
  have q2 := g1
  clear L1 o1 g1
  go_wp2_with fail
  refine (rollS_at _ _ _ L x M _ (RA.out.keptN q2) HV.out).mono ?_
  rintro e w3 ⟨A3, c3, rfl, o1, g1⟩
  have L3 := L2.new o1 g1
  have q3 := g_trans q2 g1
  clear L2 o1 g1 q2
  go_wp2_with fail
  refine (equalBuckets_same _ _ _ _ _ _ M _ (L3.rd 1 rfl) (L3.rd 0 rfl)).mono ?_
  rintro e w4 ⟨rfl, g1⟩
  have L4 := (L3.step g1).drop
  have q4 := g_trans q3 g1
  clear L3 g1 q3
  have hM16 : M.length ≤ 16 := by rw [← HV.out]; exact rollV_len
  have R4 := Lib.hid (RA.out.keptN q4)
  have RM := Lib.hid (show Rd w4 5 A2 M.length c2 (bkc M) from L4.rd 0 rfl)
  have G4 := Lib.hid L4.grown
  clear L4 q4 RA
  go_wp2
  go_loopw [6] (fun i wr => ∃ k : Nat, k ≤ M.length ∧ i = .int .i64 k ∧ w4.grownBy wr none) (fun i _ => M.length - (intOf i).toNat)
  case atStart => exact ⟨0, Nat.zero_le _, rfl, g_refl _ _⟩
  case round =>
    obtain ⟨k, hk, rfl, hg⟩ := hrel
    by_cases hlt : k < M.length
    · obtain ⟨⟨s, ct, u, lo, hi⟩, hx, -⟩ := get_ex (l := M) (i := k) hlt
      have hmem : (s, ct, u, lo, hi) ∈ rollV x L := by rw [HV.out]; exact List.mem_of_getElem? hx
      obtain ⟨⟨xq, s0, s1⟩, ⟨-, -, t3, t4, t5⟩, p16, pv⟩ := part_facts hmem
      obtain ⟨P, hP⟩ : ∃ P, rangeL L s (s + x) = P := ⟨_, rfl⟩
      rw [hP] at t3 t4 t5 p16 pv
      simp only at t3 t4 t5
      obtain ⟨b1, o1, rfl, hc1⟩ := (RM.out.keptN hg).cells hlt
      obtain ⟨y0, y1, y2, y3, y4⟩ := bkc_at hx
      have d0 := hc1 _ _ y0
      have d3 := hc1 _ _ y3
      have d4 := hc1 _ _ y4
      simp only [Nat.add_zero, ← Nat.add_assoc] at d0 d3 d4
      have hlt' : (k : Int) < (M.length : Int) := by omega
      have hw1 : IntKind.i64.wrap (s + x) = s + x := IntWalk.i64_in _ (by omega)
      have HP := Lib.hid hP
      have HT := Lib.hid (And.intro t3 (And.intro (hasV_yes t4) (hasV_yes t5)))
      clear hx hc1 y0 y1 y2 y3 y4 hP pv t3 t4 t5 hmem
      have RL := Lib.hid (R4.out.keptN (g_trans hg (g_drew wr none)))
      have D34 := Lib.hid (And.intro d3 d4)
      clear d3 d4
      go_wp2_with fail
      go_region_held3 (fun w' => w'.cell? ⟨b1, o1 + k * 5, none⟩ = some (.int .i64 s))
        (first | go_keep | exact g7.cell (by simp; exact d0) (by simp))
        (first | (go_at_call 17; refine (rangeI_at2 _ _ _ L s (s + x) P _ RL.out HP.out).mono ?_; rintro e w7 ⟨A7, c7, rfl, o7, g7⟩))
      have G7 := g_trans hg (g_trans (g_drew wr none) g7)
      have f3 := (g_trans (g_drew wr none) g7).cell D34.out.1 (by simp)
      have f4 := (g_trans (g_drew wr none) g7).cell D34.out.2 (by simp)
      have R7 := Lib.hid (Rd.own o7)
      clear d0 o7 g7 hg RL D34
      go_wp2
      go_loopw [8, 9, 10] (fun a b i wr => ∃ j : Nat, j ≤ P.length ∧ i = .int .i64 j ∧ a = .bool (hasV (P.take j) lo) ∧ b = .bool (hasV (P.take j) hi) ∧ w7.grownBy wr none) (fun _ _ i _ => P.length - (intOf i).toNat)
      case atStart => exact ⟨0, Nat.zero_le _, rfl, rfl, rfl, g_refl _ _⟩
      case round =>
        obtain ⟨j, hj, rfl, rfl, rfl, hgj⟩ := hrel
        by_cases hltj : j < P.length
        · obtain ⟨⟨t, v⟩, hy, -⟩ := get_ex (l := P) (i := j) hltj
          have hb := HT.out.1 _ (List.mem_of_getElem? hy)
          have q1 := hasV_snoc (x := lo) hy
          have q2 := hasV_snoc (x := hi) hy
          obtain ⟨bp, op, rfl, hcp⟩ := (R7.out.keptN hgj).cells hltj
          have cv := hcp _ _ (pc_at hy).2
          simp only [← Nat.add_assoc] at cv
          have d3 := hgj.cell f3 (by simp)
          have d4 := hgj.cell f4 (by simp)
          have i1 : decide (v < lo) = false := by simp; omega
          have i2 : decide (hi < v) = false := by simp; omega
          have hltj' : (j : Int) < (P.length : Int) := by omega
          have g3 := gw_cellW d3
          have g4 := gw_cellW d4
          have gv := gw_cellW cv
          obtain ⟨bl, hbl⟩ : ∃ q, hasV (P.take j) lo = q := ⟨_, rfl⟩
          obtain ⟨bh, hbh⟩ : ∃ q, hasV (P.take j) hi = q := ⟨_, rfl⟩
          rw [hbl] at q1
          rw [hbh] at q2
          rw [hbl, hbh]
          have Q := Lib.hid (And.intro q1 q2)
          clear hy hcp hb q1 q2 hbl hbh cv d3 d4
          cases bl with
          | false =>
            cases bh with
            | false =>
              go_wp2_with fail
              refine wp_region_gw (W := wr) (by kernel_rfl) (by kernel_rfl) (g_refl _ _) ?_
              repeat (quiet_step (fail))
              refine wpQuiet_nil ?_
              rintro _ ⟨⟨w8, hg8⟩, rfl⟩
              go_wp2_with fail
              refine wp_region_gw (W := wr) (by kernel_rfl) (by kernel_rfl) hg8 ?_
              repeat (quiet_step (fail))
              refine wpQuiet_nil ?_
              rintro _ ⟨⟨w9, hg9⟩, rfl⟩
              clear hg8
              go_wp2_with fail
              refine wp_region_gw (W := wr) (by kernel_rfl) (by kernel_rfl) hg9 ?_
              repeat (quiet_step (fail))
              refine wpQuiet_nil ?_
              rintro _ ⟨⟨w10, hg10⟩, rfl⟩
              have G10 := g_trans hgj hg10
              clear hg9 hg10 hgj
              go_wp2
              go_roundw
              case rel => exact ⟨j + 1, by omega, by go_num, by rw [Q.out.1]; simp, by rw [Q.out.2]; simp, G10⟩
              case measure => simp [intOf]; omega
            | true =>
              go_wp2_with fail
              refine wp_region_gw (W := wr) (by kernel_rfl) (by kernel_rfl) (g_refl _ _) ?_
              repeat (quiet_step (fail))
              refine wpQuiet_nil ?_
              rintro _ ⟨⟨w8, hg8⟩, rfl⟩
              go_wp2_with fail
              refine wp_region_gw (W := wr) (by kernel_rfl) (by kernel_rfl) hg8 ?_
              repeat (quiet_step (fail))
              refine wpQuiet_nil ?_
              rintro _ ⟨⟨w9, hg9⟩, rfl⟩
              clear hg8
              go_wp2_with fail
              refine wp_region_gw (W := wr) (by kernel_rfl) (by kernel_rfl) hg9 ?_
              repeat (quiet_step (fail))
              refine wpQuiet_nil ?_
              rintro _ ⟨⟨w10, hg10⟩, rfl⟩
              have G10 := g_trans hgj hg10
              clear hg9 hg10 hgj
              go_wp2
              go_roundw
              case rel => exact ⟨j + 1, by omega, by go_num, by rw [Q.out.1]; simp, by rw [Q.out.2]; simp, G10⟩
              case measure => simp [intOf]; omega
          | true =>
            cases bh with
            | false =>
              go_wp2_with fail
              refine wp_region_gw (W := wr) (by kernel_rfl) (by kernel_rfl) (g_refl _ _) ?_
              repeat (quiet_step (fail))
              refine wpQuiet_nil ?_
              rintro _ ⟨⟨w8, hg8⟩, rfl⟩
              go_wp2_with fail
              refine wp_region_gw (W := wr) (by kernel_rfl) (by kernel_rfl) hg8 ?_
              repeat (quiet_step (fail))
              refine wpQuiet_nil ?_
              rintro _ ⟨⟨w9, hg9⟩, rfl⟩
              clear hg8
              go_wp2_with fail
              refine wp_region_gw (W := wr) (by kernel_rfl) (by kernel_rfl) hg9 ?_
              repeat (quiet_step (fail))
              refine wpQuiet_nil ?_
              rintro _ ⟨⟨w10, hg10⟩, rfl⟩
              have G10 := g_trans hgj hg10
              clear hg9 hg10 hgj
              go_wp2
              go_roundw
              case rel => exact ⟨j + 1, by omega, by go_num, by rw [Q.out.1]; simp, by rw [Q.out.2]; simp, G10⟩
              case measure => simp [intOf]; omega
            | true =>
              go_wp2_with fail
              refine wp_region_gw (W := wr) (by kernel_rfl) (by kernel_rfl) (g_refl _ _) ?_
              repeat (quiet_step (fail))
              refine wpQuiet_nil ?_
              rintro _ ⟨⟨w8, hg8⟩, rfl⟩
              go_wp2_with fail
              refine wp_region_gw (W := wr) (by kernel_rfl) (by kernel_rfl) hg8 ?_
              repeat (quiet_step (fail))
              refine wpQuiet_nil ?_
              rintro _ ⟨⟨w9, hg9⟩, rfl⟩
              clear hg8
              go_wp2_with fail
              refine wp_region_gw (W := wr) (by kernel_rfl) (by kernel_rfl) hg9 ?_
              repeat (quiet_step (fail))
              refine wpQuiet_nil ?_
              rintro _ ⟨⟨w10, hg10⟩, rfl⟩
              have G10 := g_trans hgj hg10
              clear hg9 hg10 hgj
              go_wp2
              go_roundw
              case rel => exact ⟨j + 1, by omega, by go_num, by rw [Q.out.1]; simp, by rw [Q.out.2]; simp, G10⟩
              case measure => simp [intOf]; omega
        · have hgej : ¬ (j : Int) < (P.length : Int) := by omega
          have e1 : hasV (P.take j) lo = true := by rw [List.take_of_length_le (by omega)]; exact HT.out.2.1
          have e2 : hasV (P.take j) hi = true := by rw [List.take_of_length_le (by omega)]; exact HT.out.2.2
          rw [e1, e2]
          have G8 := g_trans G7 hgj
          clear e1 e2 hgj f3 f4
          go_wp2
          go_roundw
          case rel => exact ⟨k + 1, by omega, by go_num, G8⟩
          case measure => simp [intOf]; omega
    · have hge : ¬ (k : Int) < (M.length : Int) := by omega
      have hbel := g_below (g_trans G4.out hg) (Nat.le_refl _) (by simp)
      go_wp2
      go_ret
      exact ⟨rfl, hbel⟩
set_option maxRecDepth 100000 in
set_option linter.unusedVariables false in
theorem liftedFnRollUpBounds (os : Os) (started : os.Started) (H : Type) (enc : TypeId × Value → H) :
    ReturnsInHanded {} Try.checked os 5 .any (Rows.fnRollUpBoundsSpec.pre6 enc Try.prog Try.f5 Rows.fnRollUpBoundsRow.domain false) (Rows.fnRollUpBoundsSpec.post enc Try.prog Try.f5 false true false false) := by
  refine returnsInHanded_of_change (C := Try.checked) own started (by kernel_rfl) Try.func5
    (ChangeSpec.witness6 (enc := enc) (C := Try.checked) false ⟨#[], #[.slice none 0 0], []⟩ 8 (by kernel_rfl) (by kernel_rfl) (by kernel_rfl) (by kernel_rfl)) ?_
  intro W base args ds gs before hval0 hW hcnd _
  have hval : ∀ (j : Nat) t v, Try.f5.params[j]? = some t → args[j]? = some v → Value.okWide Try.prog W .any base t v := hval0
  have hW' := hW
  obtain ⟨p, q, hA0, hV, rfl, hfz, hnd⟩ := hW
  have hA : DataW.TrodAll enc Try.prog W 0 (fun _ => true) true Try.f5.params.toList args.toList ds p := hA0
  rw [Try.params5] at hA hval
  obtain ⟨v0, vs0, d0, ds0, p0, q0, hargs, rfl, rfl, h0, r0⟩ := trodAll_cons hA
  obtain ⟨rfl, rfl, rfl⟩ := trodAll_nil r0
  obtain rfl : args = #[v0] := by cases args; simp_all
  obtain ⟨rfl, rfl⟩ := trodVars_none hV
  obtain ⟨a0, len0, cap0, rfl⟩ := okWide_slice Try.underlying22 (hval 0 22 v0 rfl rfl)
  have k0 := h0
  have lt0 : ∀ x ∈ p0, x.block < W.heap.size := by obtain ⟨m, hm⟩ := k0; exact DataW.trod_lt m _ _ _ hm
  obtain ⟨z0, w0, b0⟩ : ∃ zs : List Int, Rd W 1 a0 len0 cap0 (zs.map (Value.int .u8)) ∧ By zs := by
    obtain ⟨fuel, hf⟩ := h0
    rcases open_ints Try.underlying22 Try.underlying5 (by kernel_rfl) hf with ⟨hcs, _⟩ | ⟨x, l, c, zs, hcs, _, hl, hm, hz, _, hcell, hwz⟩
    · simp [Value.cells] at hcs
      obtain ⟨rfl, rfl, rfl⟩ := hcs
      exact ⟨[], Rd.nil_ _ _, by intro x hx; cases hx⟩
    · simp [Value.cells] at hcs
      obtain ⟨rfl, rfl, rfl⟩ := hcs
      exact ⟨_, rd_of_ints hl hm (by simpa using hz) hcell, by_of_wf hwz⟩
  clear hA0 hval0
  refine (walkFnRollUpBounds a0 len0 cap0 z0 W w0 b0).mono fun e W' ⟨he, bel⟩ => ?_
  subst he
  exact ⟨_, rfl, _, _, _, [], _, [], hW', trodAll_mk1 (shut_bool Try.underlying4 _), (trodAll_cons_mk (Below.trod laidOut (by kernel_rfl) (of_decide_eq_true (by kernel_rfl)) k0 bel lt0) trodAll_mk0), rfl, bel.frame _, fun h => by cases h⟩

theorem closedFnRollUpBounds : joinedFacts Try.prog 5 Try.f5 Rows.fnRollUpBoundsSpec Rows.fnRollUpBoundsRow = true := by
  unfold joinedFacts
  refine and_yes (and_yes (and_yes (and_yes (and_yes (and_yes (and_yes ?_ mayIn) ?_) ?_) ?_) ?_) ?_) ?_
  rotate_left
  · rw [liftsIn]; kernel_rfl
  · rw [makeIn]; kernel_rfl
  · kernel_rfl
  · kernel_rfl
  · kernel_rfl
  · kernel_rfl
  · kernel_rfl

theorem overFnRollUpBounds : Rows.fnRollUpBoundsRow.holds Try.pinned (OpenSpec.ofChange Rows.fnRollUpBoundsSpec) :=
  OpenClaim.holds_of_wide 5 Try.f5 rfl rfl rfl rfl rfl rfl rfl ⟨rfl, rfl, rfl, rfl, rfl⟩ rfl rfl rfl rfl rfl (by kernel_rfl) Try.func5 closedFnRollUpBounds
    (of_decide_eq_true (by kernel_rfl)) (by unfold Func.isWrapper; first | (rw [if_pos (by decide +kernel)]; kernel_rfl) | (rw [if_neg (by decide +kernel)]; exact ⟨rfl, rfl⟩))
    (fun os started H enc _ => liftedFnRollUpBounds os started H enc)

/-- the statement -/
theorem provedFnRollUpBounds : Rows.FnRollUpBoundsSaid := overFnRollUpBounds
#print axioms provedFnRollUpBounds
end Go.Proofs.Ytoncefhcabgaaaa
