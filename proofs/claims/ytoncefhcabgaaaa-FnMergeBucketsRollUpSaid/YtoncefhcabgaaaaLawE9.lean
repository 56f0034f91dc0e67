/- The law FnMergeBucketsRollUp: for every input the law returns true, and nothing that was there has turned. -/
import Derived.Test.YtoncefhcabgaaaaFrame2
import Derived.Test.YtoncefhcabgaaaaBEq
import Derived.Test.YtoncefhcabgaaaaAt
import Derived.Test.YtoncefhcabgaaaaPts
import Derived.Test.YtoncefhcabgaaaaPlainE6
import Derived.Test.YtoncefhcabgaaaaDrawB2
import Derived.Test.YtoncefhcabgaaaaLive
namespace Go.Proofs.Ytoncefhcabgaaaa
set_option linter.unusedVariables false
open Go.ChangeShapes Go.WideShapes Go.ChangeAt Go.RowKit

attribute [local irreducible] wpQuiet
set_option maxHeartbeats 3200000 in
theorem walkFnMergeBucketsRollUp (A : Option Addr) (n c : Nat) (l : List Int) (W : World) (h : Rd W 1 A n c (bc l)) (hb : By l) : Calls Try.prog 6 #[.slice A n c] W fun e w' => e = .returned (.bool true) ∧ Below W.heap.size W w' := by
  by_cases hbig : (1048576 : Int) < (n : Int)
  · clear h hb
    go_enter Try.func6, Try.ntmps6
    go_wp2
    go_ret
    exact ⟨rfl, Below.refl _ _⟩
  go_enter Try.func6, Try.ntmps6
  go_wp2_with fail
  refine (drawRU_any A n c l _ h hb (by omega)).mono ?_
  rintro e w1 ⟨A1, c1, L, x, rfl, hx, o1, -, g1⟩
  obtain ⟨x0, x1⟩ := hx
  have RA := Lib.hid (Rd.own o1)
  have L1 := (Live.zero W).step g1
  obtain ⟨M, hv⟩ : ∃ M, rollV x L = M := ⟨_, rfl⟩
  obtain ⟨v, hw⟩ : ∃ v, validL L = v := ⟨_, rfl⟩
  have HV := Lib.hid hv
  have HW := Lib.hid hw
  clear hv hw h hb o1 g1
  go_wp2_with fail
  refine (rollI_at _ _ _ L x M _ RA.out HV.out).mono ?_
  rintro e w2 ⟨A2, c2, rfl, o1, g1⟩
  have L2 := L1.new o1 g1
  have q2 := g1
  clear L1 o1 g1
  go_wp2_with fail
  refine (rollS_at _ _ _ L x M _ (RA.out.keptN q2) HV.out).mono ?_
  rintro e w3 ⟨A3, c3, rfl, o1, g1⟩
  have L3 := L2.new o1 g1
  have q3 := g_trans q2 g1
  clear L2 o1 g1 q2
  go_wp2_with fail
  refine (equalBuckets_same _ _ _ _ _ _ M _ (L3.rd 1 rfl) (L3.rd 0 rfl)).mono ?_
  rintro e w4 ⟨rfl, g1⟩
  have L4 := (L3.step g1).drop
  have q4 := g_trans q3 g1
  clear L3 g1 q3
  by_cases hz : M.length = 0
  · have hz' : ((M.length : Int) == 0) = true := by rw [hz]; rfl
    have H0 := Lib.hid hz
    clear hz
    go_wp2_with fail
    refine (rollS_at _ _ _ L x M _ (RA.out.keptN q4) HV.out).mono ?_
    rintro e w5 ⟨A5, c5, rfl, o1, g1⟩
    have L5 := L4.new o1 g1
    clear L4 o1 g1
    go_wp2_with fail
    refine (equalBuckets_same _ _ _ _ _ _ M _ (L5.rd 1 rfl) (L5.rd 0 rfl)).mono ?_
    rintro e w6 ⟨rfl, g1⟩
    have L6 := L5.step g1
    clear L5 g1
    go_wp2
    go_ret
    exact ⟨ret_b (by simp), L6.bel⟩
  have hz' : ((M.length : Int) == 0) = false := by rw [beq_eq_false_iff_ne]; omega
  have hq : (1 ≤ x ∧ x ≤ 100) ∧ validL L = true := rollV_ne (W := x) (by rw [HV.out]; intro e; rw [e] at hz; simp at hz)
  have hM : rollG x L = M := by rw [← HV.out]; exact (rollV_yes hq).symm
  have hL16 : L.length ≤ 16 := ((validL_iff L).1 hq.2).1
  obtain ⟨k, hk⟩ : ∃ k, k = L.length / 2 := ⟨_, rfl⟩
  have hmr := mrg_roll hq.1 hq.2 k
  rw [hM] at hmr
  obtain ⟨P, hP⟩ : ∃ P, rollG x (L.take k) = P := ⟨_, rfl⟩
  obtain ⟨Q, hQ⟩ : ∃ Q, rollG x (L.drop k) = Q := ⟨_, rfl⟩
  rw [hP, hQ] at hmr
  have HM := Lib.hid hmr
  have hkl : k ≤ L.length := by omega
  have hT := (RA.out.keptN q4).to_ (k := k) hkl
  have hF := (RA.out.keptN q4).from_ (k := k) hkl
  rw [pc_take] at hT
  rw [pc_drop] at hF
  have hLc := RA.out.cap
  have hk2 : (L.length : Int) / 2 = (k : Int) := by omega
  have hk3 : Int.tdiv (L.length : Int) 2 = (k : Int) := by rw [Int.tdiv_eq_ediv_of_nonneg (by omega)]; exact hk2
  have k0 : (0 : Int) ≤ (k : Int) := by omega
  have k1 : (k : Int) ≤ (L.length : Int) := by omega
  have k2 : (k : Int) ≤ (c1 : Int) := by omega
  have k3 : (L.length : Int) ≤ (c1 : Int) := by omega
  have HT := Lib.hid hT
  have HF := Lib.hid hF
  have RM := Lib.hid (show Rd w4 5 A2 M.length c2 (bkc M) from L4.rd 0 rfl)
  have G4 := Lib.hid L4.grown
  have hL0 : 0 < L.length := by have := @roll_len x L; rw [hM] at this; omega
  have hc : ¬ c1 = k := by omega
  clear hM hmr hP hQ hT hF hz hk hLc L4 hL0
  have GD := Lib.hid (show w4.grownBy w4.drew none from g_drew _ _)
  rw [if_neg hc] at HF
  go_wp2_with fail
  go_region_held3 (fun _ => True) (trivial)
    (first
      | (go_at_call 9; have _k := g6; refine (rollI_at _ _ _ (L.drop k) x Q _ (HF.out.keptN (g_trans GD.out g6)) HM.out.2.1).mono ?_; rintro e w7 ⟨A7, c7, rfl, o7, g7⟩; have R7 := Rd.own o7; have R67 := R6.keptN g7)
      | (go_at_call 9; refine (rollI_at _ _ _ (L.take k) x P _ (HT.out.keptN GD.out) HM.out.1).mono ?_; rintro e w6 ⟨A6, c6, rfl, o6, g6⟩; have R6 := Rd.own o6)
      | (go_at_call 14; refine (mergeI_at _ _ _ _ _ _ P Q x M true _ R67 R7 HM.out.2.2).mono ?_; rintro e w8 ⟨A8, c8, rfl, o8, g8⟩))
  have G8 := Lib.hid (g_trans GD.out (g_trans g6 (g_trans g7 g8)))
  have R8 := Lib.hid (Rd.own o8)
  clear o6 o7 o8 g6 g7 g8 R6 R7 R67
  go_wp2_with fail
  refine (equalBuckets_same _ _ _ _ _ _ M _ R8.out (RM.out.keptN G8.out)).mono ?_
  rintro e w9 ⟨rfl, g9⟩
  have hbel := g_below (g_trans G4.out (g_trans G8.out g9)) (Nat.le_refl _) (by simp)
  clear g9
  go_wp2
  go_ret
  exact ⟨ret_b (by simp), hbel⟩
set_option maxRecDepth 100000 in
set_option linter.unusedVariables false in
theorem liftedFnMergeBucketsRollUp (os : Os) (started : os.Started) (H : Type) (enc : TypeId × Value → H) :
    ReturnsInHanded {} Try.checked os 6 .any (Rows.fnMergeBucketsRollUpSpec.pre6 enc Try.prog Try.f6 Rows.fnMergeBucketsRollUpRow.domain false) (Rows.fnMergeBucketsRollUpSpec.post enc Try.prog Try.f6 false true false false) := by
  refine returnsInHanded_of_change (C := Try.checked) own started (by kernel_rfl) Try.func6
    (ChangeSpec.witness6 (enc := enc) (C := Try.checked) false ⟨#[], #[.slice none 0 0], []⟩ 8 (by kernel_rfl) (by kernel_rfl) (by kernel_rfl) (by kernel_rfl)) ?_
  intro W base args ds gs before hval0 hW hcnd _
  have hval : ∀ (j : Nat) t v, Try.f6.params[j]? = some t → args[j]? = some v → Value.okWide Try.prog W .any base t v := hval0
  have hW' := hW
  obtain ⟨p, q, hA0, hV, rfl, hfz, hnd⟩ := hW
  have hA : DataW.TrodAll enc Try.prog W 0 (fun _ => true) true Try.f6.params.toList args.toList ds p := hA0
  rw [Try.params6] at hA hval
  obtain ⟨v0, vs0, d0, ds0, p0, q0, hargs, rfl, rfl, h0, r0⟩ := trodAll_cons hA
  obtain ⟨rfl, rfl, rfl⟩ := trodAll_nil r0
  obtain rfl : args = #[v0] := by cases args; simp_all
  obtain ⟨rfl, rfl⟩ := trodVars_none hV
  obtain ⟨a0, len0, cap0, rfl⟩ := okWide_slice Try.underlying22 (hval 0 22 v0 rfl rfl)
  have k0 := h0
  have lt0 : ∀ x ∈ p0, x.block < W.heap.size := by obtain ⟨m, hm⟩ := k0; exact DataW.trod_lt m _ _ _ hm
  obtain ⟨z0, w0, b0⟩ : ∃ zs : List Int, Rd W 1 a0 len0 cap0 (zs.map (Value.int .u8)) ∧ By zs := by
    obtain ⟨fuel, hf⟩ := h0
    rcases open_ints Try.underlying22 Try.underlying5 (by kernel_rfl) hf with ⟨hcs, _⟩ | ⟨x, l, c, zs, hcs, _, hl, hm, hz, _, hcell, hwz⟩
    · simp [Value.cells] at hcs
      obtain ⟨rfl, rfl, rfl⟩ := hcs
      exact ⟨[], Rd.nil_ _ _, by intro x hx; cases hx⟩
    · simp [Value.cells] at hcs
      obtain ⟨rfl, rfl, rfl⟩ := hcs
      exact ⟨_, rd_of_ints hl hm (by simpa using hz) hcell, by_of_wf hwz⟩
  clear hA0 hval0
  refine (walkFnMergeBucketsRollUp a0 len0 cap0 z0 W w0 b0).mono fun e W' ⟨he, bel⟩ => ?_
  subst he
  exact ⟨_, rfl, _, _, _, [], _, [], hW', trodAll_mk1 (shut_bool Try.underlying4 _), (trodAll_cons_mk (Below.trod laidOut (by kernel_rfl) (of_decide_eq_true (by kernel_rfl)) k0 bel lt0) trodAll_mk0), rfl, bel.frame _, fun h => by cases h⟩

theorem closedFnMergeBucketsRollUp : joinedFacts Try.prog 6 Try.f6 Rows.fnMergeBucketsRollUpSpec Rows.fnMergeBucketsRollUpRow = true := by
  unfold joinedFacts
  refine and_yes (and_yes (and_yes (and_yes (and_yes (and_yes (and_yes ?_ mayIn) ?_) ?_) ?_) ?_) ?_) ?_
  rotate_left
  · rw [liftsIn]; kernel_rfl
  · rw [makeIn]; kernel_rfl
  · kernel_rfl
  · kernel_rfl
  · kernel_rfl
  · kernel_rfl
  · kernel_rfl

theorem overFnMergeBucketsRollUp : Rows.fnMergeBucketsRollUpRow.holds Try.pinned (OpenSpec.ofChange Rows.fnMergeBucketsRollUpSpec) :=
  OpenClaim.holds_of_wide 6 Try.f6 rfl rfl rfl rfl rfl rfl rfl ⟨rfl, rfl, rfl, rfl, rfl⟩ rfl rfl rfl rfl rfl (by kernel_rfl) Try.func6 closedFnMergeBucketsRollUp
    (of_decide_eq_true (by kernel_rfl)) (by unfold Func.isWrapper; first | (rw [if_pos (by decide +kernel)]; kernel_rfl) | (rw [if_neg (by decide +kernel)]; exact ⟨rfl, rfl⟩))
    (fun os started H enc _ => liftedFnMergeBucketsRollUp os started H enc)

/-- the statement -/
theorem provedFnMergeBucketsRollUp : Rows.FnMergeBucketsRollUpSaid := overFnMergeBucketsRollUp
#print axioms provedFnMergeBucketsRollUp
end Go.Proofs.Ytoncefhcabgaaaa
