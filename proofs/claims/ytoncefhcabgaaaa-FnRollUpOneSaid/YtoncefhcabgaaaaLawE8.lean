/- The law FnRollUpOne: for every input the law returns true, and nothing that was there has turned. -/
import Derived.Test.YtoncefhcabgaaaaFrame2
import Derived.Test.YtoncefhcabgaaaaBEq
import Derived.Test.YtoncefhcabgaaaaAt
import Derived.Test.YtoncefhcabgaaaaPts
import Derived.Test.YtoncefhcabgaaaaPlainE2
import Derived.Test.YtoncefhcabgaaaaDrawB2
import Derived.Test.YtoncefhcabgaaaaLive
namespace Go.Proofs.Ytoncefhcabgaaaa
set_option linter.unusedVariables false
open Go.ChangeShapes Go.WideShapes Go.ChangeAt Go.RowKit

theorem validPI_at (A : Option Addr) (n c : Nat) (l : List Pt) (b : Bool) (w : World) (h : Rd w 2 A n c (pc l)) (hb : validL l = b) :
    Calls Try.prog 12 #[.slice A n c] w fun e w' => e = .returned (.bool b) ∧ w.grownBy w' none := by
  subst hb
  exact validI_any A n c l w h
attribute [local irreducible] wpQuiet
set_option maxHeartbeats 3200000 in
theorem walkFnRollUpOne (A : Option Addr) (n c : Nat) (l : List Int) (W : World) (h : Rd W 1 A n c (bc l)) (hb : By l) : Calls Try.prog 3 #[.slice A n c] W fun e w' => e = .returned (.bool true) ∧ Below W.heap.size W w' := by
  by_cases hbig : (1048576 : Int) < (n : Int)
  · clear h hb
    go_enter Try.func3, Try.ntmps3
    go_wp2
    go_ret
    exact ⟨rfl, Below.refl _ _⟩
  go_enter Try.func3, Try.ntmps3
  go_wp2_with fail
  refine (drawRU_any A n c l _ h hb (by omega)).mono ?_
  rintro e w1 ⟨A1, c1, L, x, rfl, hx, o1, -, g1⟩
  obtain ⟨x0, x1⟩ := hx
  have RA := Lib.hid (Rd.own o1)
  have L1 := (Live.zero W).step g1
  obtain ⟨M, hv⟩ : ∃ M, rollV x L = M := ⟨_, rfl⟩
  obtain ⟨v, hw⟩ : ∃ v, validL L = v := ⟨_, rfl⟩
  have HV := Lib.hid hv
  have HW := Lib.hid hw
  clear hv hw h hb o1 g1
  go_wp2_with fail
  refine (rollI_at _ _ _ L x M _ RA.out HV.out).mono ?_
  rintro e w2 ⟨A2, c2, rfl, o1, g1⟩
  have L2 := L1.new o1 g1
  have q2 := g1
  clear L1 o1 g1
  go_wp2_with fail
  refine (rollS_at _ _ _ L x M _ (RA.out.keptN q2) HV.out).mono ?_
  rintro e w3 ⟨A3, c3, rfl, o1, g1⟩
  have L3 := L2.new o1 g1
  have q3 := g_trans q2 g1
  clear L2 o1 g1 q2
  go_wp2_with fail
  refine (equalBuckets_same _ _ _ _ _ _ M _ (L3.rd 1 rfl) (L3.rd 0 rfl)).mono ?_
  rintro e w4 ⟨rfl, g1⟩
  have L4 := (L3.step g1).drop
  have q4 := g_trans q3 g1
  clear L3 g1 q3
  go_wp2_with fail
  refine (validPI_at _ _ _ L v _ (RA.out.keptN q4) HW.out).mono ?_
  rintro e w5 ⟨rfl, g1⟩
  have L5 := L4.step g1
  have q5 := g_trans q4 g1
  clear L4 g1 q4
  cases v with
  | false =>
    go_wp2_with fail
    refine (rollS_at _ _ _ L x M _ (RA.out.keptN q5) HV.out).mono ?_
    rintro e w6 ⟨A6, c6, rfl, o1, g1⟩
    have L6 := L5.new o1 g1
    clear L5 o1 g1
    go_wp2_with fail
    refine (equalBuckets_same _ _ _ _ _ _ M _ (L6.rd 1 rfl) (L6.rd 0 rfl)).mono ?_
    rintro e w7 ⟨rfl, g1⟩
    have L7 := L6.step g1
    clear L6 g1
    go_wp2
    go_ret
    exact ⟨rfl, L7.bel⟩
  | true =>
    obtain ⟨N, hN⟩ : ∃ N, N = L.map oneB := ⟨_, rfl⟩
    have HR := Lib.hid (show rollV 1 L = N by rw [hN]; exact roll_one HW.out)
    have hNL : N.length = L.length := by rw [hN, List.length_map]
    have hL16 : L.length ≤ 16 := ((validL_iff L).1 HW.out).1
    have HN := Lib.hid hN
    have HNL := Lib.hid hNL
    clear hN hNL
    go_wp2_with fail
    refine (rollI_at _ _ _ L 1 N _ (RA.out.keptN q5) HR.out).mono ?_
    rintro e w6 ⟨A6, c6, rfl, o1, g1⟩
    have RL := Lib.hid (RA.out.keptN (g_trans q5 g1))
    have L6 := L5.new o1 g1
    have RN := Lib.hid (show Rd w6 5 A6 N.length c6 (bkc N) from L6.rd 0 rfl)
    have G6 := Lib.hid L6.grown
    clear L5 L6 o1 g1 q5 RA
    go_wp2
    go_loopw [7] (fun i wr => ∃ k : Nat, k ≤ N.length ∧ i = .int .i64 k ∧ w6.grownBy wr none) (fun i _ => N.length - (intOf i).toNat)
    case atStart => exact ⟨0, Nat.zero_le _, rfl, g_refl _ _⟩
    case round =>
      obtain ⟨k, hk, rfl, hg⟩ := hrel
      by_cases hlt : k < N.length
      · have hkl : k < L.length := by have := HNL.out; omega
        obtain ⟨⟨t, u⟩, hx, -⟩ := get_ex (l := L) (i := k) hkl
        have hy : N[k]? = some (t, 1, u, u, u) := by rw [HN.out, List.getElem?_map, hx]; rfl
        obtain ⟨b, o, rfl, hc⟩ := (RL.out.keptN hg).cells hkl
        obtain ⟨b2, o2, rfl, hc2⟩ := (RN.out.keptN hg).cells hlt
        have p0 := gw_cellW (hc _ _ (pc_at hx).1)
        have p1 := gw_cellW (hc _ _ (pc_at hx).2)
        obtain ⟨x0', x1', x2, x3, x4⟩ := bkc_at hy
        have d0 := gw_cellW (hc2 _ _ x0')
        have d1 := gw_cellW (hc2 _ _ x1')
        have d2 := gw_cellW (hc2 _ _ x2)
        have d3 := gw_cellW (hc2 _ _ x3)
        have d4 := gw_cellW (hc2 _ _ x4)
        simp only [Nat.add_zero, ← Nat.add_assoc] at p0 p1 d0 d1 d2 d3 d4
        have hlt' : (k : Int) < (N.length : Int) := by omega
        have hkl' : (k : Int) < (L.length : Int) := by omega
        have hge : decide ((L.length : Int) ≤ (k : Int)) = false := by simp; omega
        clear hc hc2 hx hy x0' x1' x2 x3 x4
        go_wp2_with fail
        refine wp_region_gw (W := wr) (by kernel_rfl) (by kernel_rfl) (g_refl _ _) ?_
        repeat (quiet_step (fail))
        refine wpQuiet_nil ?_
        rintro _ ⟨⟨w7, hg7⟩, rfl⟩
        have G7 := g_trans hg hg7
        clear p0 p1 d0 d1 d2 d3 d4 hg7 hg
        go_wp2
        go_roundw
        case rel => exact ⟨k + 1, by omega, by go_num, G7⟩
        case measure => simp [intOf]; omega
      · have hge : ¬ (k : Int) < (N.length : Int) := by omega
        have hbel := g_below (g_trans G6.out hg) (Nat.le_refl _) (by simp)
        have e2 : ((N.length : Int) == (L.length : Int)) = true := by rw [HNL.out]; simp
        clear hg
        go_wp2
        go_ret
        exact ⟨ret_b (by simp), hbel⟩
set_option maxRecDepth 100000 in
set_option linter.unusedVariables false in
theorem liftedFnRollUpOne (os : Os) (started : os.Started) (H : Type) (enc : TypeId × Value → H) :
    ReturnsInHanded {} Try.checked os 3 .any (Rows.fnRollUpOneSpec.pre6 enc Try.prog Try.f3 Rows.fnRollUpOneRow.domain false) (Rows.fnRollUpOneSpec.post enc Try.prog Try.f3 false true false false) := by
  refine returnsInHanded_of_change (C := Try.checked) own started (by kernel_rfl) Try.func3
    (ChangeSpec.witness6 (enc := enc) (C := Try.checked) false ⟨#[], #[.slice none 0 0], []⟩ 8 (by kernel_rfl) (by kernel_rfl) (by kernel_rfl) (by kernel_rfl)) ?_
  intro W base args ds gs before hval0 hW hcnd _
  have hval : ∀ (j : Nat) t v, Try.f3.params[j]? = some t → args[j]? = some v → Value.okWide Try.prog W .any base t v := hval0
  have hW' := hW
  obtain ⟨p, q, hA0, hV, rfl, hfz, hnd⟩ := hW
  have hA : DataW.TrodAll enc Try.prog W 0 (fun _ => true) true Try.f3.params.toList args.toList ds p := hA0
  rw [Try.params3] at hA hval
  obtain ⟨v0, vs0, d0, ds0, p0, q0, hargs, rfl, rfl, h0, r0⟩ := trodAll_cons hA
  obtain ⟨rfl, rfl, rfl⟩ := trodAll_nil r0
  obtain rfl : args = #[v0] := by cases args; simp_all
  obtain ⟨rfl, rfl⟩ := trodVars_none hV
  obtain ⟨a0, len0, cap0, rfl⟩ := okWide_slice Try.underlying22 (hval 0 22 v0 rfl rfl)
  have k0 := h0
  have lt0 : ∀ x ∈ p0, x.block < W.heap.size := by obtain ⟨m, hm⟩ := k0; exact DataW.trod_lt m _ _ _ hm
  obtain ⟨z0, w0, b0⟩ : ∃ zs : List Int, Rd W 1 a0 len0 cap0 (zs.map (Value.int .u8)) ∧ By zs := by
    obtain ⟨fuel, hf⟩ := h0
    rcases open_ints Try.underlying22 Try.underlying5 (by kernel_rfl) hf with ⟨hcs, _⟩ | ⟨x, l, c, zs, hcs, _, hl, hm, hz, _, hcell, hwz⟩
    · simp [Value.cells] at hcs
      obtain ⟨rfl, rfl, rfl⟩ := hcs
      exact ⟨[], Rd.nil_ _ _, by intro x hx; cases hx⟩
    · simp [Value.cells] at hcs
      obtain ⟨rfl, rfl, rfl⟩ := hcs
      exact ⟨_, rd_of_ints hl hm (by simpa using hz) hcell, by_of_wf hwz⟩
  clear hA0 hval0
  refine (walkFnRollUpOne a0 len0 cap0 z0 W w0 b0).mono fun e W' ⟨he, bel⟩ => ?_
  subst he
  exact ⟨_, rfl, _, _, _, [], _, [], hW', trodAll_mk1 (shut_bool Try.underlying4 _), (trodAll_cons_mk (Below.trod laidOut (by kernel_rfl) (of_decide_eq_true (by kernel_rfl)) k0 bel lt0) trodAll_mk0), rfl, bel.frame _, fun h => by cases h⟩

theorem closedFnRollUpOne : joinedFacts Try.prog 3 Try.f3 Rows.fnRollUpOneSpec Rows.fnRollUpOneRow = true := by
  unfold joinedFacts
  refine and_yes (and_yes (and_yes (and_yes (and_yes (and_yes (and_yes ?_ mayIn) ?_) ?_) ?_) ?_) ?_) ?_
  rotate_left
  · rw [liftsIn]; kernel_rfl
  · rw [makeIn]; kernel_rfl
  · kernel_rfl
  · kernel_rfl
  · kernel_rfl
  · kernel_rfl
  · kernel_rfl

theorem overFnRollUpOne : Rows.fnRollUpOneRow.holds Try.pinned (OpenSpec.ofChange Rows.fnRollUpOneSpec) :=
  OpenClaim.holds_of_wide 3 Try.f3 rfl rfl rfl rfl rfl rfl rfl ⟨rfl, rfl, rfl, rfl, rfl⟩ rfl rfl rfl rfl rfl (by kernel_rfl) Try.func3 closedFnRollUpOne
    (of_decide_eq_true (by kernel_rfl)) (by unfold Func.isWrapper; first | (rw [if_pos (by decide +kernel)]; kernel_rfl) | (rw [if_neg (by decide +kernel)]; exact ⟨rfl, rfl⟩))
    (fun os started H enc _ => liftedFnRollUpOne os started H enc)

/-- the statement -/
theorem provedFnRollUpOne : Rows.FnRollUpOneSaid := overFnRollUpOne
#print axioms provedFnRollUpOne
end Go.Proofs.Ytoncefhcabgaaaa
