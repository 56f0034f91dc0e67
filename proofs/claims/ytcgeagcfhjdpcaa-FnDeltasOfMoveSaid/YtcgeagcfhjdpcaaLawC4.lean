/- The law FnDeltasOfMove: for every input the law returns true, and nothing that was there has turned. -/
import Derived.Test.YtcgeagcfhjdpcaaFrame2
import Derived.Test.YtcgeagcfhjdpcaaColl
import Derived.Test.YtcgeagcfhjdpcaaEq
import Derived.Test.YtcgeagcfhjdpcaaDrawN
import Derived.Test.YtcgeagcfhjdpcaaPlainC2
import Derived.Test.YtcgeagcfhjdpcaaLive
import Derived.Test.YtcgeagcfhjdpcaaQuiet
namespace Go.Proofs.Ytcgeagcfhjdpcaa
set_option linter.unusedVariables false
open Go.ChangeShapes Go.WideShapes Go.ChangeAt Go.RowKit

theorem gw_kept {W : World} {x : GW W} {size n c : Nat} {A : Option Addr} {xs : List Value} (h : Rd W size A n c xs) : Rd x.1 size A n c xs := h.keptN x.2
attribute [local irreducible] wpQuiet
set_option maxHeartbeats 1600000 in
theorem walkFnDeltasOfMove (A : Option Addr) (n c : Nat) (l : List Int) (W : World) (h : Rd W 1 A n c (bc l)) (hb : By l) : Calls Try.prog 7 #[.slice A n c] W fun e w' => e = .returned (.bool true) ∧ Below W.heap.size W w' := by
  by_cases hbig : (1048576 : Int) < (n : Int)
  · clear h hb
    go_enter Try.func7, Try.ntmps7
    go_wp2
    go_ret
    exact ⟨rfl, Below.refl _ _⟩
  go_enter Try.func7, Try.ntmps7
  go_wp2_with fail
  refine (drawDel_any A n c l _ h hb (by omega)).mono ?_
  rintro e w1 ⟨A1, c1, L, rfl, h1, hm, g1⟩
  have RA := Lib.hid h1
  have L1 := (Live.zero W).step g1
  have hL18 := hm.1
  obtain ⟨M, hv⟩ : ∃ M, delV L = M := ⟨_, rfl⟩
  have HV := Lib.hid hv
  clear hv h hb h1 hm g1
  go_wp2_with fail
  refine (deltasI_at _ _ _ L M _ RA.out HV.out).mono ?_
  rintro e w2 ⟨A2, c2, rfl, o1, g1⟩
  have L2 := L1.new o1 g1
  have q2 := g1
  clear L1 o1 g1
  go_wp2_with fail
  refine (deltasS_at _ _ _ L M _ (RA.out.keptN q2) HV.out).mono ?_
  rintro e w3 ⟨A3, c3, rfl, o1, g1⟩
  have L3 := L2.new o1 g1
  have q3 := g_trans q2 g1
  clear L2 o1 g1 q2
  go_wp2_with fail
  refine (equalInts_same _ _ _ _ _ _ M _ (L3.rd 1 rfl) (L3.rd 0 rfl)).mono ?_
  rintro e w4 ⟨rfl, g1⟩
  have L4 := (L3.step g1).drop
  have q4 := g_trans q3 g1
  clear L3 g1 q3
  by_cases hz : M.length = 0
  · have hz' : ((M.length : Int) == 0) = true := by rw [hz]; rfl
    have H0 := Lib.hid hz
    clear hz
    go_wp2_with fail
    refine (deltasS_at _ _ _ L M _ (RA.out.keptN q4) HV.out).mono ?_
    rintro e w5 ⟨A5, c5, rfl, o1, g1⟩
    have L5 := L4.new o1 g1
    clear L4 o1 g1
    go_wp2_with fail
    refine (equalInts_same _ _ _ _ _ _ M _ (L5.rd 1 rfl) (L5.rd 0 rfl)).mono ?_
    rintro e w6 ⟨rfl, g1⟩
    have L6 := L5.step g1
    clear L5 g1
    go_wp2
    go_ret
    exact ⟨ret_b (by simp), L6.bel⟩
  have hz' : ((M.length : Int) == 0) = false := by rw [beq_eq_false_iff_ne]; omega
  have hok : okN L = true := by
    cases hk : okN L with
    | true => rfl
    | false =>
      exfalso
      have := HV.out
      rw [delV_no hk] at this
      subst this
      simp at hz
  have hM := HV.out
  rw [delV_yes hok] at hM
  have h16 : M.length ≤ 16 := by rw [← hM, del_len]; exact (okN_iff.1 hok).1
  have HM := Lib.hid hM
  have HK := Lib.hid hok
  have RM := Lib.hid (show Rd w4 1 A2 M.length c2 (ic M) from L4.rd 0 rfl)
  have hml : M.length = L.length := by rw [← hM, del_len]
  have HML := Lib.hid hml
  have hM0 : 0 < M.length := by omega
  have hL0 : 0 < L.length := by omega
  have HB : Hid (∀ x ∈ L, -100000 ≤ x ∧ x ≤ 100000) := (okN_iff.1 hok).2
  clear hM hok hz hml
  go_wp2
  have oN := lit_own w4 W.heap.size 3 1 [] 0 L4.grown.size (by omega) rfl
  have gN := g_alloc w4 (.cells [].toArray 3) none
  go_loopw [5, 6] (fun o i wr => ∃ (k : Nat) (A' : Option Addr) (c' : Nat) (K : List Int), k ≤ L.length ∧ i = .int .i64 k ∧ o = .slice A' K.length c' ∧ K.length ≤ 1000 ∧ wr.ownsRow w4.heap.size 3 1 (.slice A' K.length c') K.length (ic K) ∧ w4.grownBy wr none ∧ Hid (K = (L.take k).map (· + 1)) ∧ Hid (∀ x ∈ L.take k, x ≠ 100000)) (fun _ i _ => L.length - (Go.RowKit.intOf i).toNat)
  case atStart => exact ⟨0, _, 0, [], Nat.zero_le _, rfl, rfl, by simp, lit_own w4 w4.heap.size 3 1 [] 0 (Nat.le_refl _) (by omega) rfl, gN, rfl, fun x hx => by simp at hx⟩
  case round =>
    obtain ⟨k, A', c', K, hk, rfl, rfl, hK, hown, hg, hI, hN⟩ := hrel
    have hsz := hg.size
    clear oN gN
    by_cases hlt : k < L.length
    · obtain ⟨x, hx, -⟩ := get_ex (l := L) (i := k) hlt
      obtain ⟨x0, x1⟩ := HB.out x (List.mem_of_getElem? hx)
      obtain ⟨b, o, rfl, hc⟩ := ((RA.out.keptN q4).keptN hg).cells (i := k) hlt
      have cx := hc _ _ (ic_at hx)
      have hlt' : (k : Int) < (L.length : Int) := by omega
      by_cases hx1 : x = 100000
      · have e1 : (x == 100000) = true := by simpa using hx1
        have hbel := g_below (g_trans L4.grown hg) (Nat.le_refl _) (by simp)
        clear hx1 hc hx
        go_wp2
        go_ret
        exact ⟨rfl, hbel⟩
      · have e1 : (x == 100000) = false := by simpa using hx1
        have HI2 : Hid (K ++ [x + 1] = (L.take (k + 1)).map (· + 1)) := by
          show _ = _
          rw [take_get hx, hI.out, List.map_append]
          rfl
        have HN2 : Hid (∀ x ∈ L.take (k + 1), x ≠ 100000) := mem_snoc (P := fun y => y ≠ 100000) hx hN.out hx1
        have HL2 : Hid ((K ++ [x + 1]).length ≤ 1000) := by
          show _ ≤ _
          rw [HI2.out, List.length_map, List.length_take]
          omega
        clear hc hx hx1 hI hN
        go_wp2_with (at_builtin; refine app_in rfl (.tmp 41) (.tmp 47) rfl w4.heap.size K wr (x + 1) A' c' rfl hown rfl (by omega) hsz ?_; intro A6 c6 w6 hown6 hg6 _)
        have G6 := g_new hg hg6 (own_new hown)
        clear hown hg6 cx hg
        go_wp2
        go_roundw
        case rel => exact ⟨k + 1, A6, c6, K ++ [x + 1], by omega, by go_num, by simp, HL2.out, hown6, G6, HI2, HN2⟩
        case measure => simp [Go.RowKit.intOf]; omega
    · have hge : ¬ (k : Int) < (L.length : Int) := by omega
      have hK2 : K = L.map (· + 1) := by rw [hI.out, List.take_of_length_le (by omega)]
      have hokK : okN K = true := by
        rw [hK2]
        refine okN_moved HK.out fun y hy => hN.out y ?_
        rw [List.take_of_length_le (by omega)]
        exact hy
      obtain ⟨z, r, hzr⟩ : ∃ z r, L = z :: r := by
        cases L with
        | nil => simp at hL0
        | cons z r => exact ⟨z, r, rfl⟩
      have hMz : M = z :: delL z r := by rw [← HM.out, hzr]; simp [delL]
      obtain ⟨N, hNv⟩ : ∃ N, delV K = N := ⟨_, rfl⟩
      have hNz : N = (z + 1) :: delL z r := by rw [← hNv, delV_yes hokK, hK2, hzr]; exact del_moved
      have hnl : N.length = M.length := by rw [hNz, hMz]; simp
      have HNV := Lib.hid hNv
      have HT : Hid (N.drop 1 = M.drop 1) := by show _ = _; rw [hNz, hMz]; rfl
      have HNL := Lib.hid hnl
      have HN0 : Hid (N[0]? = some (z + 1) ∧ M[0]? = some z) := ⟨by rw [hNz]; rfl, by rw [hMz]; rfl⟩
      obtain ⟨z0, z1⟩ := HB.out z (by rw [hzr]; exact List.mem_cons_self)
      have RK := Lib.hid (Rd.own hown)
      have hL5 := L4.step hg
      clear hI hN hK2 hokK hzr hMz hNv hNz hnl hown L4
      go_wp2_with fail
      refine (deltasI_at _ _ _ K N _ RK.out HNV.out).mono ?_
      rintro e w5 ⟨A5, c5, rfl, o1, g1⟩
      have RN := Lib.hid (Rd.own o1)
      have RM5 := Lib.hid ((RM.out.keptN hg).keptN g1)
      have L6 := hL5.new o1 g1
      have hn0 : 0 < N.length := by rw [HNL.out]; exact hM0
      have hTN := RN.out.from_ (k := 1) (by omega)
      have hTM := RM5.out.from_ (k := 1) (by omega)
      rw [ic_drop] at hTN hTM
      rw [HT.out] at hTN
      obtain ⟨bn, on, rfl, hcn⟩ := RN.out.cells (i := 0) hn0
      obtain ⟨bm, om, rfl, hcm⟩ := RM5.out.cells (i := 0) hM0
      have c0 := hcn _ _ (ic_at HN0.out.1)
      have c1' := hcm _ _ (ic_at HN0.out.2)
      simp only [Nat.add_zero] at c0 c1'
      have d0 := gw_cellW c0
      have d1 := gw_cellW c1'
      have hw : IntKind.i64.wrap (z + 1) = z + 1 := IntWalk.i64_in _ (by omega)
      have e1 : (z + 1 == z + 1) = true := by simp
      have e2 : ((N.length : Int) == (M.length : Int)) = true := by rw [HNL.out]; simp
      have hm2 : (0 : Int) < (M.length : Int) := by omega
      have hm3 : (0 : Int) < (N.length : Int) := by omega
      have hm4 : (1 : Int) ≤ (M.length : Int) := by omega
      have hm5 : (1 : Int) ≤ (N.length : Int) := by omega
      have HG := Lib.hid L6.grown
      clear hcn hcm c0 c1' o1 hL5 hge hlt hk
      have eN : Option.map (fun x : Addr => x.add (1 * 1)) (some ⟨bn, on, none⟩) = some ⟨bn, on + 1, none⟩ := by simp [add_lit']
      have eM : Option.map (fun x : Addr => x.add (1 * 1)) (some ⟨bm, om, none⟩) = some ⟨bm, om + 1, none⟩ := by simp [add_lit']
      by_cases hn1 : c5 = 1
      · by_cases hm1 : c2 = 1
        · subst hn1
          subst hm1
          rw [if_pos rfl] at hTN
          rw [if_pos rfl] at hTM
          have HTN := Lib.hid hTN
          have HTM := Lib.hid hTM
          clear hTN hTM eN eM
          go_wp2_with fail
          refine wp_region_gw (W := w5) (by kernel_rfl) (by kernel_rfl) (g_refl _ _) ?_
          repeat (quiet_step ((go_at_call 29; exact gw_call ((equalInts_same _ _ _ _ _ _ (M.drop 1) _ (gw_kept HTN.out) (gw_kept HTM.out))))))
          refine wpQuiet_nil ?_
          rintro _ ⟨⟨w7, hg7⟩, rfl⟩
          have hbel := g_below (g_trans HG.out hg7) (Nat.le_refl _) (by simp)
          clear hg7
          go_wp2
          go_ret
          exact ⟨ret_b (by simp), hbel⟩
        · subst hn1
          skip
          rw [if_pos rfl] at hTN
          rw [if_neg hm1, eM] at hTM
          have HTN := Lib.hid hTN
          have HTM := Lib.hid hTM
          clear hTN hTM eN eM
          go_wp2_with fail
          refine wp_region_gw (W := w5) (by kernel_rfl) (by kernel_rfl) (g_refl _ _) ?_
          repeat (quiet_step ((go_at_call 29; exact gw_call ((equalInts_same _ _ _ _ _ _ (M.drop 1) _ (gw_kept HTN.out) (gw_kept HTM.out))))))
          refine wpQuiet_nil ?_
          rintro _ ⟨⟨w7, hg7⟩, rfl⟩
          have hbel := g_below (g_trans HG.out hg7) (Nat.le_refl _) (by simp)
          clear hg7
          go_wp2
          go_ret
          exact ⟨ret_b (by simp), hbel⟩
      · by_cases hm1 : c2 = 1
        · skip
          subst hm1
          rw [if_neg hn1, eN] at hTN
          rw [if_pos rfl] at hTM
          have HTN := Lib.hid hTN
          have HTM := Lib.hid hTM
          clear hTN hTM eN eM
          go_wp2_with fail
          refine wp_region_gw (W := w5) (by kernel_rfl) (by kernel_rfl) (g_refl _ _) ?_
          repeat (quiet_step ((go_at_call 29; exact gw_call ((equalInts_same _ _ _ _ _ _ (M.drop 1) _ (gw_kept HTN.out) (gw_kept HTM.out))))))
          refine wpQuiet_nil ?_
          rintro _ ⟨⟨w7, hg7⟩, rfl⟩
          have hbel := g_below (g_trans HG.out hg7) (Nat.le_refl _) (by simp)
          clear hg7
          go_wp2
          go_ret
          exact ⟨ret_b (by simp), hbel⟩
        · skip
          skip
          rw [if_neg hn1, eN] at hTN
          rw [if_neg hm1, eM] at hTM
          have HTN := Lib.hid hTN
          have HTM := Lib.hid hTM
          clear hTN hTM eN eM
          go_wp2_with fail
          refine wp_region_gw (W := w5) (by kernel_rfl) (by kernel_rfl) (g_refl _ _) ?_
          repeat (quiet_step ((go_at_call 29; exact gw_call ((equalInts_same _ _ _ _ _ _ (M.drop 1) _ (gw_kept HTN.out) (gw_kept HTM.out))))))
          refine wpQuiet_nil ?_
          rintro _ ⟨⟨w7, hg7⟩, rfl⟩
          have hbel := g_below (g_trans HG.out hg7) (Nat.le_refl _) (by simp)
          clear hg7
          go_wp2
          go_ret
          exact ⟨ret_b (by simp), hbel⟩
set_option maxRecDepth 100000 in
set_option linter.unusedVariables false in
theorem liftedFnDeltasOfMove (os : Os) (started : os.Started) (H : Type) (enc : TypeId × Value → H) :
    ReturnsInHanded {} Try.checked os 7 .any (Rows.fnDeltasOfMoveSpec.pre6 enc Try.prog Try.f7 Rows.fnDeltasOfMoveRow.domain false) (Rows.fnDeltasOfMoveSpec.post enc Try.prog Try.f7 false true false false) := by
  refine returnsInHanded_of_change (C := Try.checked) own started (by kernel_rfl) Try.func7
    (ChangeSpec.witness6 (enc := enc) (C := Try.checked) false ⟨#[], #[.slice none 0 0], []⟩ 8 (by kernel_rfl) (by kernel_rfl) (by kernel_rfl) (by kernel_rfl)) ?_
  intro W base args ds gs before hval0 hW hcnd _
  have hval : ∀ (j : Nat) t v, Try.f7.params[j]? = some t → args[j]? = some v → Value.okWide Try.prog W .any base t v := hval0
  have hW' := hW
  obtain ⟨p, q, hA0, hV, rfl, hfz, hnd⟩ := hW
  have hA : DataW.TrodAll enc Try.prog W 0 (fun _ => true) true Try.f7.params.toList args.toList ds p := hA0
  rw [Try.params7] at hA hval
  obtain ⟨v0, vs0, d0, ds0, p0, q0, hargs, rfl, rfl, h0, r0⟩ := trodAll_cons hA
  obtain ⟨rfl, rfl, rfl⟩ := trodAll_nil r0
  obtain rfl : args = #[v0] := by cases args; simp_all
  obtain ⟨rfl, rfl⟩ := trodVars_none hV
  obtain ⟨a0, len0, cap0, rfl⟩ := okWide_slice Try.underlying22 (hval 0 22 v0 rfl rfl)
  have k0 := h0
  have lt0 : ∀ x ∈ p0, x.block < W.heap.size := by obtain ⟨m, hm⟩ := k0; exact DataW.trod_lt m _ _ _ hm
  obtain ⟨z0, w0, b0⟩ : ∃ zs : List Int, Rd W 1 a0 len0 cap0 (zs.map (Value.int .u8)) ∧ By zs := by
    obtain ⟨fuel, hf⟩ := h0
    rcases open_ints Try.underlying22 Try.underlying5 (by kernel_rfl) hf with ⟨hcs, _⟩ | ⟨x, l, c, zs, hcs, _, hl, hm, hz, _, hcell, hwz⟩
    · simp [Value.cells] at hcs
      obtain ⟨rfl, rfl, rfl⟩ := hcs
      exact ⟨[], Rd.nil_ _ _, by intro x hx; cases hx⟩
    · simp [Value.cells] at hcs
      obtain ⟨rfl, rfl, rfl⟩ := hcs
      exact ⟨_, rd_of_ints hl hm (by simpa using hz) hcell, by_of_wf hwz⟩
  clear hA0 hval0
  refine (walkFnDeltasOfMove a0 len0 cap0 z0 W w0 b0).mono fun e W' ⟨he, bel⟩ => ?_
  subst he
  exact ⟨_, rfl, _, _, _, [], _, [], hW', trodAll_mk1 (shut_bool Try.underlying4 _), (trodAll_cons_mk (Below.trod laidOut (by kernel_rfl) (of_decide_eq_true (by kernel_rfl)) k0 bel lt0) trodAll_mk0), rfl, bel.frame _, fun h => by cases h⟩

theorem closedFnDeltasOfMove : joinedFacts Try.prog 7 Try.f7 Rows.fnDeltasOfMoveSpec Rows.fnDeltasOfMoveRow = true := by
  unfold joinedFacts
  refine and_yes (and_yes (and_yes (and_yes (and_yes (and_yes (and_yes ?_ mayIn) ?_) ?_) ?_) ?_) ?_) ?_
  rotate_left
  · rw [liftsIn]; kernel_rfl
  · rw [makeIn]; kernel_rfl
  · kernel_rfl
  · kernel_rfl
  · kernel_rfl
  · kernel_rfl
  · kernel_rfl

theorem overFnDeltasOfMove : Rows.fnDeltasOfMoveRow.holds Try.pinned (OpenSpec.ofChange Rows.fnDeltasOfMoveSpec) :=
  OpenClaim.holds_of_wide 7 Try.f7 rfl rfl rfl rfl rfl rfl rfl ⟨rfl, rfl, rfl, rfl, rfl⟩ rfl rfl rfl rfl rfl (by kernel_rfl) Try.func7 closedFnDeltasOfMove
    (of_decide_eq_true (by kernel_rfl)) (by unfold Func.isWrapper; first | (rw [if_pos (by decide +kernel)]; kernel_rfl) | (rw [if_neg (by decide +kernel)]; exact ⟨rfl, rfl⟩))
    (fun os started H enc _ => liftedFnDeltasOfMove os started H enc)

/-- the statement -/
theorem provedFnDeltasOfMove : Rows.FnDeltasOfMoveSaid := overFnDeltasOfMove
#print axioms provedFnDeltasOfMove
end Go.Proofs.Ytcgeagcfhjdpcaa
