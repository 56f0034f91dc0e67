/- The laws FnPackedSize and FnPackedSizeEven: for every input the law returns true, and nothing that was there has turned. -/
import Derived.Test.YtcgeagcfhjdpcaaFrame2
import Derived.Test.YtcgeagcfhjdpcaaPackV
import Derived.Test.YtcgeagcfhjdpcaaDrawS
import Derived.Test.YtcgeagcfhjdpcaaPlainC2
import Derived.Test.YtcgeagcfhjdpcaaLive
import Derived.Test.YtcgeagcfhjdpcaaQuiet
namespace Go.Proofs.Ytcgeagcfhjdpcaa
set_option linter.unusedVariables false
open Go.ChangeShapes Go.WideShapes Go.ChangeAt Go.RowKit

attribute [local irreducible] wpQuiet
set_option maxRecDepth 100000 in
set_option maxHeartbeats 1600000 in
theorem walkFnPackedSize (A : Option Addr) (n c : Nat) (l : List Int) (W : World) (h : Rd W 1 A n c (bc l)) (hb : By l) : Calls Try.prog 13 #[.slice A n c] W fun e w' => e = .returned (.bool true) ∧ Below W.heap.size W w' := by
  by_cases hbig : (1048576 : Int) < (n : Int)
  · clear h hb
    go_enter Try.func13, Try.ntmps13
    go_wp2
    go_ret
    exact ⟨rfl, Below.refl _ _⟩
  go_enter Try.func13, Try.ntmps13
  go_wp2_with fail
  refine (drawPZ_any A n c l _ h hb (by omega)).mono ?_
  rintro e w1 ⟨A1, c1, L, rfl, h1, hm, g1⟩
  have RA := Lib.hid (Rd.own h1)
  have L1 := (Live.zero W).step g1
  have hL17 := hm.1
  obtain ⟨v, hv⟩ : ∃ v, sizeV L = v := ⟨_, rfl⟩
  have HV := Lib.hid hv
  clear hv h hb h1 hm g1
  go_wp2_with fail
  refine (sizeI_at _ _ _ L v _ RA.out HV.out).mono ?_
  rintro e w2 ⟨rfl, g1⟩
  have L2 := L1.step g1
  have q2 := g1
  clear L1 g1
  go_wp2_with fail
  refine (sizeS_at _ _ _ L v _ (RA.out.keptN q2) HV.out).mono ?_
  rintro e w3 ⟨rfl, g1⟩
  have L3 := L2.step g1
  have q3 := g_trans q2 g1
  clear L2 g1 q2
  cases hk : validL L with
  | false =>
    have hv := HV.out
    rw [sizeV_no hk] at hv
    subst hv
    clear hk
    go_wp2_with fail
    refine (sizeS_at _ _ _ L (-1) _ (RA.out.keptN q3) HV.out).mono ?_
    rintro e w4 ⟨rfl, g1⟩
    have hbel := (L3.step g1).bel
    clear L3 g1
    go_wp2
    go_ret
    exact ⟨ret_b (by simp), hbel⟩
  | true =>
    have hv := HV.out
    rw [sizeV_yes hk] at hv
    have hL16 : L.length ≤ 16 := ((validL_iff L).1 hk).1
    have hML := packL_len L
    have HK := Lib.hid hk
    have hv0 : ¬ v < 0 := by omega
    have hw1 : IntKind.i64.wrap (2 * (L.length : Int)) = 2 * (L.length : Int) := IntWalk.i64_in _ (by omega)
    have hw2 : IntKind.i64.wrap (1 + 2 * (L.length : Int)) = 1 + 2 * (L.length : Int) := IntWalk.i64_in _ (by omega)
    have hle : decide (1 + 2 * (L.length : Int) ≤ v) = true := by simp; omega
    obtain ⟨P, hP⟩ : ∃ P, packL L = P := ⟨_, rfl⟩
    rw [hP] at hv hML
    have HP := Lib.hid (show packV L = P by rw [packV_yes hk]; exact hP)
    have e1 : (v == (P.length : Int)) = true := by rw [hv]; simp
    clear hk hv hP hML
    go_wp2_with fail
    refine (packI_at _ _ _ L P _ (RA.out.keptN q3) HP.out).mono ?_
    rintro e w4 ⟨A4, c4, rfl, o1, g1⟩
    have hbel := (L3.step g1).bel
    clear L3 g1 o1
    go_wp2
    go_ret
    exact ⟨ret_b (by simp), hbel⟩
set_option maxRecDepth 100000 in
set_option linter.unusedVariables false in
theorem liftedFnPackedSize (os : Os) (started : os.Started) (H : Type) (enc : TypeId × Value → H) :
    ReturnsInHanded {} Try.checked os 13 .any (Rows.fnPackedSizeSpec.pre6 enc Try.prog Try.f13 Rows.fnPackedSizeRow.domain false) (Rows.fnPackedSizeSpec.post enc Try.prog Try.f13 false true false false) := by
  refine returnsInHanded_of_change (C := Try.checked) own started (by kernel_rfl) Try.func13
    (ChangeSpec.witness6 (enc := enc) (C := Try.checked) false ⟨#[], #[.slice none 0 0], []⟩ 8 (by kernel_rfl) (by kernel_rfl) (by kernel_rfl) (by kernel_rfl)) ?_
  intro W base args ds gs before hval0 hW hcnd _
  have hval : ∀ (j : Nat) t v, Try.f13.params[j]? = some t → args[j]? = some v → Value.okWide Try.prog W .any base t v := hval0
  have hW' := hW
  obtain ⟨p, q, hA0, hV, rfl, hfz, hnd⟩ := hW
  have hA : DataW.TrodAll enc Try.prog W 0 (fun _ => true) true Try.f13.params.toList args.toList ds p := hA0
  rw [Try.params13] at hA hval
  obtain ⟨v0, vs0, d0, ds0, p0, q0, hargs, rfl, rfl, h0, r0⟩ := trodAll_cons hA
  obtain ⟨rfl, rfl, rfl⟩ := trodAll_nil r0
  obtain rfl : args = #[v0] := by cases args; simp_all
  obtain ⟨rfl, rfl⟩ := trodVars_none hV
  obtain ⟨a0, len0, cap0, rfl⟩ := okWide_slice Try.underlying22 (hval 0 22 v0 rfl rfl)
  have k0 := h0
  have lt0 : ∀ x ∈ p0, x.block < W.heap.size := by obtain ⟨m, hm⟩ := k0; exact DataW.trod_lt m _ _ _ hm
  obtain ⟨z0, w0, b0⟩ : ∃ zs : List Int, Rd W 1 a0 len0 cap0 (zs.map (Value.int .u8)) ∧ By zs := by
    obtain ⟨fuel, hf⟩ := h0
    rcases open_ints Try.underlying22 Try.underlying5 (by kernel_rfl) hf with ⟨hcs, _⟩ | ⟨x, l, c, zs, hcs, _, hl, hm, hz, _, hcell, hwz⟩
    · simp [Value.cells] at hcs
      obtain ⟨rfl, rfl, rfl⟩ := hcs
      exact ⟨[], Rd.nil_ _ _, by intro x hx; cases hx⟩
    · simp [Value.cells] at hcs
      obtain ⟨rfl, rfl, rfl⟩ := hcs
      exact ⟨_, rd_of_ints hl hm (by simpa using hz) hcell, by_of_wf hwz⟩
  clear hA0 hval0
  refine (walkFnPackedSize a0 len0 cap0 z0 W w0 b0).mono fun e W' ⟨he, bel⟩ => ?_
  subst he
  exact ⟨_, rfl, _, _, _, [], _, [], hW', trodAll_mk1 (shut_bool Try.underlying4 _), (trodAll_cons_mk (Below.trod laidOut (by kernel_rfl) (of_decide_eq_true (by kernel_rfl)) k0 bel lt0) trodAll_mk0), rfl, bel.frame _, fun h => by cases h⟩

theorem closedFnPackedSize : joinedFacts Try.prog 13 Try.f13 Rows.fnPackedSizeSpec Rows.fnPackedSizeRow = true := by
  unfold joinedFacts
  refine and_yes (and_yes (and_yes (and_yes (and_yes (and_yes (and_yes ?_ mayIn) ?_) ?_) ?_) ?_) ?_) ?_
  rotate_left
  · rw [liftsIn]; kernel_rfl
  · rw [makeIn]; kernel_rfl
  · kernel_rfl
  · kernel_rfl
  · kernel_rfl
  · kernel_rfl
  · kernel_rfl

theorem overFnPackedSize : Rows.fnPackedSizeRow.holds Try.pinned (OpenSpec.ofChange Rows.fnPackedSizeSpec) :=
  OpenClaim.holds_of_wide 13 Try.f13 rfl rfl rfl rfl rfl rfl rfl ⟨rfl, rfl, rfl, rfl, rfl⟩ rfl rfl rfl rfl rfl (by kernel_rfl) Try.func13 closedFnPackedSize
    (of_decide_eq_true (by kernel_rfl)) (by unfold Func.isWrapper; first | (rw [if_pos (by decide +kernel)]; kernel_rfl) | (rw [if_neg (by decide +kernel)]; exact ⟨rfl, rfl⟩))
    (fun os started H enc _ => liftedFnPackedSize os started H enc)

/-- the statement -/
theorem provedFnPackedSize : Rows.FnPackedSizeSaid := overFnPackedSize
#print axioms provedFnPackedSize
set_option maxRecDepth 100000 in
set_option maxHeartbeats 1600000 in
theorem walkFnPackedSizeEven (A : Option Addr) (n c : Nat) (l : List Int) (W : World) (h : Rd W 1 A n c (bc l)) (hb : By l) : Calls Try.prog 14 #[.slice A n c] W fun e w' => e = .returned (.bool true) ∧ Below W.heap.size W w' := by
  by_cases hbig : (1048576 : Int) < (n : Int)
  · clear h hb
    go_enter Try.func14, Try.ntmps14
    go_wp2
    go_ret
    exact ⟨rfl, Below.refl _ _⟩
  go_enter Try.func14, Try.ntmps14
  go_wp2_with fail
  refine (drawPZ_any A n c l _ h hb (by omega)).mono ?_
  rintro e w1 ⟨A1, c1, L, rfl, h1, hm, g1⟩
  have RA := Lib.hid (Rd.own h1)
  have L1 := (Live.zero W).step g1
  have hL17 := hm.1
  obtain ⟨v, hv⟩ : ∃ v, sizeV L = v := ⟨_, rfl⟩
  have HV := Lib.hid hv
  clear hv h hb h1 hm g1
  go_wp2_with fail
  refine (sizeI_at _ _ _ L v _ RA.out HV.out).mono ?_
  rintro e w2 ⟨rfl, g1⟩
  have L2 := L1.step g1
  have q2 := g1
  clear L1 g1
  go_wp2_with fail
  refine (sizeS_at _ _ _ L v _ (RA.out.keptN q2) HV.out).mono ?_
  rintro e w3 ⟨rfl, g1⟩
  have L3 := L2.step g1
  have q3 := g_trans q2 g1
  clear L2 g1 q2
  cases hk : validL L with
  | false =>
    have hv := HV.out
    rw [sizeV_no hk] at hv
    subst hv
    clear hk
    go_wp2_with fail
    refine (sizeS_at _ _ _ L (-1) _ (RA.out.keptN q3) HV.out).mono ?_
    rintro e w4 ⟨rfl, g1⟩
    have hbel := (L3.step g1).bel
    clear L3 g1
    go_wp2
    go_ret
    exact ⟨ret_b (by simp), hbel⟩
  | true =>
    have hv := HV.out
    rw [sizeV_yes hk] at hv
    have hL16 : L.length ≤ 16 := ((validL_iff L).1 hk).1
    have hML := packL_len L
    have HK := Lib.hid hk
    have hv0 : ¬ v < 0 := by omega
    have hw1 : IntKind.i64.wrap (2 * (L.length : Int)) = 2 * (L.length : Int) := IntWalk.i64_in _ (by omega)
    have hw2 : IntKind.i64.wrap (1 + 2 * (L.length : Int)) = 1 + 2 * (L.length : Int) := IntWalk.i64_in _ (by omega)
    have hle : decide (1 + 2 * (L.length : Int) ≤ v) = true := by simp; omega
    have HE : Hid (sizeV (evenL L.length) = 1 + 2 * (L.length : Int)) := even_size hL16
    have G3 := Lib.hid L3.grown
    clear hk hv hML L3 RA q3
    go_wp2
    have oN := lit_own w3 w3.heap.size 39 2 [] 0 (Nat.le_refl _) (by omega) rfl
    have gN := g_alloc w3 (.cells [].toArray 39) none
    go_loopw [5, 6] (fun o i wr => ∃ (k : Nat) (A' : Option Addr) (c' : Nat) (K : List Pt), k ≤ L.length ∧ i = .int .i64 k ∧ o = .slice A' K.length c' ∧ K.length ≤ 1000 ∧ wr.ownsRow w3.heap.size 39 2 (.slice A' K.length c') K.length (pc K) ∧ w3.grownBy wr none ∧ Hid (K = evenL k)) (fun _ i _ => L.length - (Go.RowKit.intOf i).toNat)
    case atStart => exact ⟨0, _, 0, [], Nat.zero_le _, rfl, rfl, by simp, oN, gN, rfl⟩
    case round =>
      obtain ⟨k, A', c', K, hk, rfl, rfl, hK, hown, hg, hI⟩ := hrel
      have hsz := hg.size
      clear oN gN
      by_cases hlt : k < L.length
      · have hlt' : (k : Int) < (L.length : Int) := by omega
        have hw3 : IntKind.i64.wrap (10 * (k : Int)) = 10 * (k : Int) := IntWalk.i64_in _ (by omega)
        have HI2 : Hid (K ++ [(10 * (k : Int), 5)] = evenL (k + 1)) := by show _ = _; rw [hI.out, evenL]
        have HL2 : Hid ((K ++ [(10 * (k : Int), (5 : Int))]).length ≤ 1000) := by
          show _ ≤ _
          rw [HI2.out, even_len]
          omega
        clear hI
        go_wp2_with (at_builtin; refine app_pt rfl (.tmp 33) (.tmp 37) rfl w3.heap.size K wr (10 * (k : Int)) 5 A' c' rfl hown rfl (by omega) hsz ?_; intro A6 c6 w6 hown6 hg6 _)
        have G6 := g_new hg hg6 (own_new hown)
        clear hown hg6 hg
        go_wp2
        go_roundw
        case rel => exact ⟨k + 1, A6, c6, K ++ [(10 * (k : Int), 5)], by omega, by go_num, by simp, HL2.out, hown6, G6, HI2⟩
        case measure => simp [Go.RowKit.intOf]; omega
      · have hge : ¬ (k : Int) < (L.length : Int) := by omega
        have hkl : k = L.length := by omega
        have HS := Lib.hid (show sizeV K = 1 + 2 * (L.length : Int) by rw [hI.out, hkl]; exact HE.out)
        have RK := Lib.hid (Rd.own hown)
        clear hI hown hkl
        go_wp2_with fail
        refine (sizeI_at _ _ _ K (1 + 2 * (L.length : Int)) _ RK.out HS.out).mono ?_
        rintro e w5 ⟨rfl, g5⟩
        have G5 := g_trans hg g5
        have R5 := Lib.hid (RK.out.keptN g5)
        clear hg g5
        have e1 : (1 + 2 * (L.length : Int) == 1 + 2 * (L.length : Int)) = true := by simp
        go_wp2_with fail
        refine (sizeI_at _ _ _ K (1 + 2 * (L.length : Int)) _ R5.out HS.out).mono ?_
        rintro e w6 ⟨rfl, g6⟩
        have hbel := g_below (g_trans G3.out (g_trans G5 g6)) (Nat.le_refl _) (by simp)
        clear G5 g6
        go_wp2
        go_ret
        exact ⟨ret_b (by simp), hbel⟩
set_option maxRecDepth 100000 in
set_option linter.unusedVariables false in
theorem liftedFnPackedSizeEven (os : Os) (started : os.Started) (H : Type) (enc : TypeId × Value → H) :
    ReturnsInHanded {} Try.checked os 14 .any (Rows.fnPackedSizeEvenSpec.pre6 enc Try.prog Try.f14 Rows.fnPackedSizeEvenRow.domain false) (Rows.fnPackedSizeEvenSpec.post enc Try.prog Try.f14 false true false false) := by
  refine returnsInHanded_of_change (C := Try.checked) own started (by kernel_rfl) Try.func14
    (ChangeSpec.witness6 (enc := enc) (C := Try.checked) false ⟨#[], #[.slice none 0 0], []⟩ 8 (by kernel_rfl) (by kernel_rfl) (by kernel_rfl) (by kernel_rfl)) ?_
  intro W base args ds gs before hval0 hW hcnd _
  have hval : ∀ (j : Nat) t v, Try.f14.params[j]? = some t → args[j]? = some v → Value.okWide Try.prog W .any base t v := hval0
  have hW' := hW
  obtain ⟨p, q, hA0, hV, rfl, hfz, hnd⟩ := hW
  have hA : DataW.TrodAll enc Try.prog W 0 (fun _ => true) true Try.f14.params.toList args.toList ds p := hA0
  rw [Try.params14] at hA hval
  obtain ⟨v0, vs0, d0, ds0, p0, q0, hargs, rfl, rfl, h0, r0⟩ := trodAll_cons hA
  obtain ⟨rfl, rfl, rfl⟩ := trodAll_nil r0
  obtain rfl : args = #[v0] := by cases args; simp_all
  obtain ⟨rfl, rfl⟩ := trodVars_none hV
  obtain ⟨a0, len0, cap0, rfl⟩ := okWide_slice Try.underlying22 (hval 0 22 v0 rfl rfl)
  have k0 := h0
  have lt0 : ∀ x ∈ p0, x.block < W.heap.size := by obtain ⟨m, hm⟩ := k0; exact DataW.trod_lt m _ _ _ hm
  obtain ⟨z0, w0, b0⟩ : ∃ zs : List Int, Rd W 1 a0 len0 cap0 (zs.map (Value.int .u8)) ∧ By zs := by
    obtain ⟨fuel, hf⟩ := h0
    rcases open_ints Try.underlying22 Try.underlying5 (by kernel_rfl) hf with ⟨hcs, _⟩ | ⟨x, l, c, zs, hcs, _, hl, hm, hz, _, hcell, hwz⟩
    · simp [Value.cells] at hcs
      obtain ⟨rfl, rfl, rfl⟩ := hcs
      exact ⟨[], Rd.nil_ _ _, by intro x hx; cases hx⟩
    · simp [Value.cells] at hcs
      obtain ⟨rfl, rfl, rfl⟩ := hcs
      exact ⟨_, rd_of_ints hl hm (by simpa using hz) hcell, by_of_wf hwz⟩
  clear hA0 hval0
  refine (walkFnPackedSizeEven a0 len0 cap0 z0 W w0 b0).mono fun e W' ⟨he, bel⟩ => ?_
  subst he
  exact ⟨_, rfl, _, _, _, [], _, [], hW', trodAll_mk1 (shut_bool Try.underlying4 _), (trodAll_cons_mk (Below.trod laidOut (by kernel_rfl) (of_decide_eq_true (by kernel_rfl)) k0 bel lt0) trodAll_mk0), rfl, bel.frame _, fun h => by cases h⟩

theorem closedFnPackedSizeEven : joinedFacts Try.prog 14 Try.f14 Rows.fnPackedSizeEvenSpec Rows.fnPackedSizeEvenRow = true := by
  unfold joinedFacts
  refine and_yes (and_yes (and_yes (and_yes (and_yes (and_yes (and_yes ?_ mayIn) ?_) ?_) ?_) ?_) ?_) ?_
  rotate_left
  · rw [liftsIn]; kernel_rfl
  · rw [makeIn]; kernel_rfl
  · kernel_rfl
  · kernel_rfl
  · kernel_rfl
  · kernel_rfl
  · kernel_rfl

theorem overFnPackedSizeEven : Rows.fnPackedSizeEvenRow.holds Try.pinned (OpenSpec.ofChange Rows.fnPackedSizeEvenSpec) :=
  OpenClaim.holds_of_wide 14 Try.f14 rfl rfl rfl rfl rfl rfl rfl ⟨rfl, rfl, rfl, rfl, rfl⟩ rfl rfl rfl rfl rfl (by kernel_rfl) Try.func14 closedFnPackedSizeEven
    (of_decide_eq_true (by kernel_rfl)) (by unfold Func.isWrapper; first | (rw [if_pos (by decide +kernel)]; kernel_rfl) | (rw [if_neg (by decide +kernel)]; exact ⟨rfl, rfl⟩))
    (fun os started H enc _ => liftedFnPackedSizeEven os started H enc)

/-- the statement -/
theorem provedFnPackedSizeEven : Rows.FnPackedSizeEvenSaid := overFnPackedSizeEven
#print axioms provedFnPackedSizeEven
end Go.Proofs.Ytcgeagcfhjdpcaa
