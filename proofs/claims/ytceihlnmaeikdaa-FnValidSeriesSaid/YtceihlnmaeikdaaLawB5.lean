/- The law FnValidSeries: for every input the law returns true, and nothing that was there has turned. -/
import Derived.Test.YtceihlnmaeikdaaFrame
import Derived.Test.YtceihlnmaeikdaaDrawS
import Derived.Test.YtceihlnmaeikdaaQst
import Derived.Test.YtceihlnmaeikdaaLive
import Derived.Deep.RegionHeld3
namespace Go.Proofs.Ytceihlnmaeikdaa
set_option linter.unusedVariables false
open Go.ChangeShapes Go.WideShapes Go.ChangeAt Go.RowKit

set_option maxHeartbeats 1600000 in
theorem walkFnValidSeries (A : Option Addr) (n c : Nat) (l0 : List Int) (W : World) (h : Rd W 1 A n c (bc l0)) (hb : By l0) : Calls Try.prog 4 #[.slice A n c] W fun e w' => e = .returned (.bool true) ∧ Below W.heap.size W w' := by
  by_cases hbig : 1048576 < n
  · go_enter Try.func4, Try.ntmps4
    go_wp2
    go_ret
    exact ⟨rfl, Below.refl _ _⟩
  go_enter Try.func4, Try.ntmps4
  go_wp2_with fail
  refine (drawVS_any A n c l0 W h hb (by omega)).mono ?_
  rintro e w1 ⟨A1, c1, l, rfl, o1, hm, g1⟩
  have L1 := (Live.zero _).new o1 g1
  have hlen := hm.1
  clear h hb o1 g1 hm
  obtain ⟨q, hq⟩ : ∃ q, validL l = q := ⟨_, rfl⟩
  have HQ := Lib.hid hq
  clear hq
  go_wp2_with fail
  refine (validI_at _ _ _ l q _ (L1.rd 0 rfl) HQ.out).mono ?_
  rintro e w2 ⟨rfl, g2⟩
  have L2 := L1.step g2
  clear L1 g2
  go_wp2_with fail
  refine (validS_at _ _ _ l q _ (L2.rd 0 rfl) HQ.out).mono ?_
  rintro e w3 ⟨rfl, g3⟩
  have L3 := L2.step g3
  clear L2 g3
  cases q with
  | false =>
    go_wp2_with fail
    refine (validS_at _ _ _ l false _ (L3.rd 0 rfl) HQ.out).mono ?_
    rintro e w4 ⟨rfl, g4⟩
    have hbel := (L3.step g4).bel
    clear L3 g4
    go_wp2
    go_ret
    exact ⟨rfl, hbel⟩
  | true =>
    by_cases hz : l.length = 0
    · have hz' : ((l.length : Int) == 0) = true := by rw [beq_iff_eq]; omega
      clear hz
      go_wp2_with fail
      refine (validS_at _ _ _ l true _ (L3.rd 0 rfl) HQ.out).mono ?_
      rintro e w4 ⟨rfl, g4⟩
      have hbel := (L3.step g4).bel
      clear L3 g4
      go_wp2
      go_ret
      exact ⟨rfl, hbel⟩
    · have hz' : ((l.length : Int) == 0) = false := by rw [beq_eq_false_iff_ne]; omega
      have hz2 : ¬ l.length = 0 := hz
      have hz3 : ¬ (l.length : Int) = 0 := by omega
      obtain ⟨k, hk⟩ : ∃ k, n % l.length = k := ⟨_, rfl⟩
      have hkm : ((n : Int)).tmod (l.length : Int) = (k : Int) := by rw [Int.tmod_eq_emod_of_nonneg (by omega), ← hk]; rfl
      have hkl : k < l.length := by rw [← hk]; exact Nat.mod_lt _ (by omega)
      have hR := L3.rd 0 rfl
      obtain ⟨b1, o1', rfl, -⟩ := hR.at_ (by omega)
      have hcap := hR.cap
      have hlim := hR.lim
      have hT := hR.to_ (Nat.le_of_lt hkl)
      have hF := hR.from_ (k := k + 1) hkl
      rw [pc_take] at hT
      rw [pc_drop] at hF
      have hv := valid_skip HQ.out k
      have HT := Lib.hid (And.intro hT (And.intro hF hv))
      have hs3 := L3.grown.size
      have hlt1 := hR.lt (by omega) (by omega) _ rfl
      simp only at hlt1
      have hbel := L3.grown
      have k1 : IntKind.i64.wrap ((k : Int) + 1) = (k : Int) + 1 := IntWalk.i64_in _ (by omega)
      have k2 : (0 : Int) ≤ (k : Int) + 1 := by omega
      have k3 : (k : Int) + 1 ≤ (l.length : Int) := by omega
      have k4 : (k : Int) ≤ (c1 : Int) := by omega
      have k5 : (k : Int) + 1 ≤ (c1 : Int) := by omega
      have k6 : ((k : Int) + 1).toNat = k + 1 := by omega
      have k7 : (l.length : Int) ≤ (c1 : Int) := by omega
      clear hR hT hF hv hk hz L3
      have k0 : (0 : Int) ≤ (k : Int) := by omega
      by_cases hc : c1 = k + 1
      · subst hc
        rw [if_pos rfl, Nat.sub_self, show l.length - (k + 1) = 0 by omega] at HT
        clear k4 k5 k7
        have k4 : (k : Int) ≤ (k : Int) + 1 := by omega
        have k7 : (l.length : Int) ≤ (k : Int) + 1 := by omega
        go_wp2_with fail
        go_region_held3 (fun _ => True) (trivial)
          (first
            | (have O0 := own_keptN (lit_own w3 W.heap.size 33 2 [] 0 hs3 (by omega) rfl) (g_drew _ none); have P0 := g_trans (g_alloc w3 (.cells #[] 33) none) (g_drew _ none); have R0 := HT.out.1.keptN P0; refine sapc_pt (by rfl) (.tmp 35) (.tmp 38) (by rfl) W.heap.size 0 k _ [] (pc (l.take k)) _ _ _ 0 (by rfl) O0 (by rfl) R0 (pc_one _) (by omega) (by omega) (by simp; omega) ?_; intro A5 c5 w5 o5 g5 f5; simp only [Nat.zero_add, List.nil_append] at o5; have hs5 := Nat.le_trans hs3 (Nat.le_trans P0.size g5.size); have G5 := g_new (g_trans hbel P0) g5 (own_new O0))
            | (have R5 := (HT.out.2.1.keptN P0).kept g5 (fun _ a ha e => by injection ha with ha; subst ha; simp [Value.ownBlock] at e; omega); refine sapc_pt (by rfl) (.tmp 39) (.tmp 43) (by rfl) W.heap.size k 0 _ (pc (l.take k)) (pc (l.drop (k + 1))) _ A5 _ c5 (by first | rfl | (simp [Act.eval, Act.put]; done)) o5 (by rfl) R5 (pc_one _) (by omega) (by omega) hs5 ?_; intro A6 c6 w6 o6 g6 f6; rw [← pc_app] at o6; have G6 := g_new G5 g6 (own_new o5); have R6 := Rd.own o6)
            | (go_at_call 18; refine (validI_at _ _ _ (l.take k ++ l.drop (k + 1)) true _ R6 HT.out.2.2).mono ?_; rintro e w7 ⟨rfl, g7⟩; have G7 := g_trans G6 g7; clear R6)
            | (go_at_call 18; refine (validI_at _ _ _ [] true _ (Rd.nil_ _ _) rfl).mono ?_; rintro e w8 ⟨rfl, g8⟩; have G8 := g_trans G7 g8))
        have hb8 := g_below G8 (Nat.le_refl _) (by simp)
        clear O0 P0 R0 o5 g5 f5 G5 R5 o6 g6 f6 G6 g7 G7 g8 G8
        go_wp2
        go_ret
        exact ⟨rfl, hb8⟩
      · rw [if_neg hc, show Option.map (fun x : Addr => x.add ((k + 1) * 2)) (some ⟨b1, o1', none⟩) = some ⟨b1, o1' + (k + 1) * 2, none⟩ by simp [add_lit']] at HT
        go_wp2_with fail
        go_region_held3 (fun _ => True) (trivial)
          (first
            | (have O0 := own_keptN (lit_own w3 W.heap.size 33 2 [] 0 hs3 (by omega) rfl) (g_drew _ none); have P0 := g_trans (g_alloc w3 (.cells #[] 33) none) (g_drew _ none); have R0 := HT.out.1.keptN P0; refine sapc_pt (by rfl) (.tmp 35) (.tmp 38) (by rfl) W.heap.size 0 k _ [] (pc (l.take k)) _ _ _ 0 (by rfl) O0 (by rfl) R0 (pc_one _) (by omega) (by omega) (by simp; omega) ?_; intro A5 c5 w5 o5 g5 f5; simp only [Nat.zero_add, List.nil_append] at o5; have hs5 := Nat.le_trans hs3 (Nat.le_trans P0.size g5.size); have G5 := g_new (g_trans hbel P0) g5 (own_new O0))
            | (have R5 := (HT.out.2.1.keptN P0).kept g5 (fun _ a ha e => by injection ha with ha; subst ha; simp [Value.ownBlock] at e; omega); refine sapc_pt (by rfl) (.tmp 39) (.tmp 43) (by rfl) W.heap.size k (l.length - (k + 1)) _ (pc (l.take k)) (pc (l.drop (k + 1))) _ A5 _ c5 (by first | rfl | (simp [Act.eval, Act.put]; done)) o5 (by rfl) R5 (pc_one _) (by omega) (by omega) hs5 ?_; intro A6 c6 w6 o6 g6 f6; rw [← pc_app] at o6; have G6 := g_new G5 g6 (own_new o5); have R6 := Rd.own o6)
            | (go_at_call 18; refine (validI_at _ _ _ (l.take k ++ l.drop (k + 1)) true _ R6 HT.out.2.2).mono ?_; rintro e w7 ⟨rfl, g7⟩; have G7 := g_trans G6 g7; clear R6)
            | (go_at_call 18; refine (validI_at _ _ _ [] true _ (Rd.nil_ _ _) rfl).mono ?_; rintro e w8 ⟨rfl, g8⟩; have G8 := g_trans G7 g8))
        have hb8 := g_below G8 (Nat.le_refl _) (by simp)
        clear O0 P0 R0 o5 g5 f5 G5 R5 o6 g6 f6 G6 g7 G7 g8 G8
        go_wp2
        go_ret
        exact ⟨rfl, hb8⟩
set_option maxRecDepth 100000 in
set_option linter.unusedVariables false in
theorem liftedFnValidSeries (os : Os) (started : os.Started) (H : Type) (enc : TypeId × Value → H) :
    ReturnsInHanded {} Try.checked os 4 .any (Rows.fnValidSeriesSpec.pre6 enc Try.prog Try.f4 Rows.fnValidSeriesRow.domain false) (Rows.fnValidSeriesSpec.post enc Try.prog Try.f4 false true false false) := by
  refine returnsInHanded_of_change (C := Try.checked) own started (by kernel_rfl) Try.func4
    (ChangeSpec.witness6 (enc := enc) (C := Try.checked) false ⟨#[], #[.slice none 0 0], []⟩ 8 (by kernel_rfl) (by kernel_rfl) (by kernel_rfl) (by kernel_rfl)) ?_
  intro W base args ds gs before hval0 hW hcnd _
  have hval : ∀ (j : Nat) t v, Try.f4.params[j]? = some t → args[j]? = some v → Value.okWide Try.prog W .any base t v := hval0
  have hW' := hW
  obtain ⟨p, q, hA0, hV, rfl, hfz, hnd⟩ := hW
  have hA : DataW.TrodAll enc Try.prog W 0 (fun _ => true) true Try.f4.params.toList args.toList ds p := hA0
  rw [Try.params4] at hA hval
  obtain ⟨v0, vs0, d0, ds0, p0, q0, hargs, rfl, rfl, h0, r0⟩ := trodAll_cons hA
  obtain ⟨rfl, rfl, rfl⟩ := trodAll_nil r0
  obtain rfl : args = #[v0] := by cases args; simp_all
  obtain ⟨rfl, rfl⟩ := trodVars_none hV
  obtain ⟨a0, len0, cap0, rfl⟩ := okWide_slice Try.underlying29 (hval 0 29 v0 rfl rfl)
  have k0 := h0
  have lt0 : ∀ x ∈ p0, x.block < W.heap.size := by obtain ⟨m, hm⟩ := k0; exact DataW.trod_lt m _ _ _ hm
  obtain ⟨z0, w0, b0⟩ : ∃ zs : List Int, Rd W 1 a0 len0 cap0 (zs.map (Value.int .u8)) ∧ By zs := by
    obtain ⟨fuel, hf⟩ := h0
    rcases open_ints Try.underlying29 Try.underlying5 (by kernel_rfl) hf with ⟨hcs, _⟩ | ⟨x, l, c, zs, hcs, _, hl, hm, hz, _, hcell, hwz⟩
    · simp [Value.cells] at hcs
      obtain ⟨rfl, rfl, rfl⟩ := hcs
      exact ⟨[], Rd.nil_ _ _, by intro x hx; cases hx⟩
    · simp [Value.cells] at hcs
      obtain ⟨rfl, rfl, rfl⟩ := hcs
      exact ⟨_, rd_of_ints hl hm (by simpa using hz) hcell, by_of_wf hwz⟩
  clear hA0 hval0
  refine (walkFnValidSeries a0 len0 cap0 z0 W w0 b0).mono fun e W' ⟨he, bel⟩ => ?_
  subst he
  exact ⟨_, rfl, _, _, _, [], _, [], hW', trodAll_mk1 (shut_bool Try.underlying4 _), (trodAll_cons_mk (Below.trod laidOut (by kernel_rfl) (of_decide_eq_true (by kernel_rfl)) k0 bel lt0) trodAll_mk0), rfl, bel.frame _, fun h => by cases h⟩

theorem closedFnValidSeries : joinedFacts Try.prog 4 Try.f4 Rows.fnValidSeriesSpec Rows.fnValidSeriesRow = true := by
  unfold joinedFacts
  refine and_yes (and_yes (and_yes (and_yes (and_yes (and_yes (and_yes ?_ mayIn) ?_) ?_) ?_) ?_) ?_) ?_
  rotate_left
  · rw [liftsIn]; kernel_rfl
  · rw [makeIn]; kernel_rfl
  · kernel_rfl
  · kernel_rfl
  · kernel_rfl
  · kernel_rfl
  · kernel_rfl

theorem overFnValidSeries : Rows.fnValidSeriesRow.holds Try.pinned (OpenSpec.ofChange Rows.fnValidSeriesSpec) :=
  OpenClaim.holds_of_wide 4 Try.f4 rfl rfl rfl rfl rfl rfl rfl ⟨rfl, rfl, rfl, rfl, rfl⟩ rfl rfl rfl rfl rfl (by kernel_rfl) Try.func4 closedFnValidSeries
    (of_decide_eq_true (by kernel_rfl)) (by unfold Func.isWrapper; first | (rw [if_pos (by decide +kernel)]; kernel_rfl) | (rw [if_neg (by decide +kernel)]; exact ⟨rfl, rfl⟩))
    (fun os started H enc _ => liftedFnValidSeries os started H enc)

/-- the statement -/
theorem provedFnValidSeries : Rows.FnValidSeriesSaid := overFnValidSeries
#print axioms provedFnValidSeries
end Go.Proofs.Ytceihlnmaeikdaa
