/- The law FnExactMergeBuckets: for every input the law returns true, and nothing that was there has turned. -/
import Derived.Test.YtmokolccohobpaaFrame2
import Derived.Test.YtmokolccohobpaaBMark
import Derived.Test.YtmokolccohobpaaBEq
import Derived.Test.YtmokolccohobpaaMerge
import Derived.Test.YtmokolccohobpaaMergeI
import Derived.Test.YtmokolccohobpaaLive
namespace Go.Proofs.Ytmokolccohobpaa
set_option linter.unusedVariables false
open Go.ChangeShapes Go.WideShapes Go.ChangeAt Go.RowKit

theorem mrgV_len {W : Int} {a b : List Bk} : (mrgV W a b).1.length ≤ 16 := by
  unfold mrgV
  split
  · split
    · rename_i h
      exact (okBs_iff.1 (okW_iff.1 h).2).1
    · simp
  · simp
theorem mergeI_at (A B : Option Addr) (na ca nb cb : Nat) (a b : List Bk) (W : Int) (L : List Bk) (v : Bool) (w : World) (h1 : Rd w 5 A na ca (bkc a)) (h2 : Rd w 5 B nb cb (bkc b)) (hv : mrgV W a b = (L, v)) :
    Calls Try.prog 34 #[.slice A na ca, .slice B nb cb, .int .i64 W] w (Coarsed (L, v) w) := by
  rw [← hv]
  exact mergeI_any A B na ca nb cb a b W w h1 h2
theorem mergeS_at (A B : Option Addr) (na ca nb cb : Nat) (a b : List Bk) (W : Int) (L : List Bk) (v : Bool) (w : World) (h1 : Rd w 5 A na ca (bkc a)) (h2 : Rd w 5 B nb cb (bkc b)) (hv : mrgV W a b = (L, v)) :
    Calls Try.prog 35 #[.slice A na ca, .slice B nb cb, .int .i64 W] w (Coarsed (L, v) w) := by
  rw [← hv]
  exact mergeS_any A B na ca nb cb a b W w h1 h2

set_option maxHeartbeats 3200000 in
theorem walkFnExactMergeBuckets (A : Option Addr) (n c : Nat) (l : List Bk) (B : Option Addr) (n2 c2 : Nat) (l2 : List Bk) (x : Int) (W : World) (h : Rd W 5 A n c (bkc l)) (hb : ∀ x ∈ l, inB x) (h2 : Rd W 5 B n2 c2 (bkc l2)) (hb2 : ∀ x ∈ l2, inB x) (hx : (Lit.int .i64 x).wf = true) : Calls Try.prog 15 #[.slice A n c, .slice B n2 c2, .int .i64 x] W fun e w' => e = .returned (.bool true) ∧ Below W.heap.size W w' := by
  have nb : n ≤ 9223372036854775807 := Nat.le_trans h.cap h.lim
  have nb2 : n2 ≤ 9223372036854775807 := Nat.le_trans h2.cap h2.lim
  have H := Lib.hid h
  have H2 := Lib.hid h2
  clear h hb h2 hb2
  have hL := mrgV_len (W := x) (a := l) (b := l2)
  obtain ⟨L, b, hv⟩ : ∃ L b, mrgV x l l2 = (L, b) := ⟨_, _, rfl⟩
  rw [hv] at hL
  simp only at hL
  have HV := Lib.hid hv
  clear hv hx
  go_enter Try.func15, Try.ntmps15
  go_wp2_with fail
  refine (szBucketS_any A n c _ _ nb (by omega) (by omega)).mono ?_
  rintro e w0 ⟨rfl, rfl⟩
  by_cases hbig : (1048576 : Int) < (n : Int)
  · rw [if_pos hbig]
    go_wp2
    go_ret
    exact ⟨rfl, Below.refl _ _⟩
  rw [if_neg hbig]
  have hn : n ≤ 1048576 := by omega
  have hlt : decide ((1048576 : Int) - (n : Int) < 0) = false := by simp; omega
  go_wp2_with fail
  refine (szBucketS_any B n2 c2 _ _ nb2 (by omega) (by omega)).mono ?_
  rintro e w0 ⟨rfl, rfl⟩
  by_cases hbig2 : (1048576 : Int) - (n : Int) < (n2 : Int)
  · rw [if_pos hbig2]
    go_wp2
    go_ret
    exact ⟨rfl, Below.refl _ _⟩
  rw [if_neg hbig2]
  have hn2 : n2 ≤ 1048576 := by omega
  have hlt2 : decide ((1048576 : Int) - (n : Int) - (n2 : Int) < 0) = false := by simp; omega
  go_wp2_with fail
  refine (toBucketS_any A n c l _ H.out (by omega)).mono ?_
  rintro e w1 ⟨A1, c1, rfl, o1, g1⟩
  have L1 := (Live.zero _).new o1 g1
  clear o1 g1 hbig hbig2
  go_wp2_with fail
  refine (toBucketS_any B n2 c2 l2 _ (H2.out.keptN L1.grown) (by omega)).mono ?_
  rintro e w1 ⟨B1, d1, rfl, o1, g1⟩
  have L2 := L1.new o1 g1
  clear o1 g1 L1
  go_wp2_with fail
  refine (mergeS_at _ _ _ _ _ _ l l2 x L b _ (L2.rd 1 rfl) (L2.rd 0 rfl) HV.out).mono ?_
  rintro e w2 ⟨Aw, cw, rfl, o1, g1⟩
  have L3 := L2.new o1 g1
  clear o1 g1 L2
  go_wp2_with fail
  refine (toBucketS_any A n c l _ (H.out.keptN L3.grown) (by omega)).mono ?_
  rintro e w3 ⟨Ax, cx, rfl, o1, g1⟩
  have L4 := L3.new o1 g1
  clear o1 g1 L3
  go_wp2_with fail
  refine (toBucketS_any B n2 c2 l2 _ (H2.out.keptN L4.grown) (by omega)).mono ?_
  rintro e w3 ⟨Bx, dx, rfl, o1, g1⟩
  have L5 := L4.new o1 g1
  clear o1 g1 L4
  go_wp2_with fail
  refine (mergeI_at _ _ _ _ _ _ l l2 x L b _ (L5.rd 1 rfl) (L5.rd 0 rfl) HV.out).mono ?_
  rintro e w4 ⟨Ag, cg, rfl, o1, g1⟩
  have L6 := L5.new o1 g1
  clear o1 g1 L5
  go_wp2_with fail
  refine (eqBucketS_same _ _ _ _ _ _ L _ (L6.rd 0 rfl) (L6.rd 3 rfl)).mono ?_
  rintro e w5 ⟨rfl, g1⟩
  have L7 := L6.step g1
  clear g1 L6
  go_wp2_with fail
  refine (toBucketS_any A n c l _ (H.out.keptN L7.grown) (by omega)).mono ?_
  rintro e w6 ⟨Ay, cy, rfl, o1, g1⟩
  have L8 := L7.new o1 g1
  clear o1 g1 L7
  go_wp2_with fail
  refine (eqBucketS_same _ _ _ _ _ _ l _ (L8.rd 3 rfl) (L8.rd 0 rfl)).mono ?_
  rintro e w7 ⟨rfl, g1⟩
  have L9 := (L8.step g1).drop
  clear g1 L8
  go_wp2_with fail
  refine (toBucketS_any B n2 c2 l2 _ (H2.out.keptN L9.grown) (by omega)).mono ?_
  rintro e w6 ⟨By, dy, rfl, o1, g1⟩
  have L10 := L9.new o1 g1
  clear o1 g1 L9
  go_wp2_with fail
  refine (eqBucketS_same _ _ _ _ _ _ l2 _ (L10.rd 2 rfl) (L10.rd 0 rfl)).mono ?_
  rintro e w7 ⟨rfl, g1⟩
  have L11 := (L10.step g1).drop
  clear g1 L10
  go_wp2_with fail
  refine (markBucketS_any _ _ _ l _ _ _ (L11.own 2 rfl) (by omega) (by omega) (by omega)).mono ?_
  rintro e w8 ⟨rfl, o1, g1⟩
  have L12 := L11.put 2 rfl o1 g1
  clear o1 g1 L11
  go_wp2_with fail
  refine (markBucketS_any _ _ _ l2 _ _ _ (L12.own 1 rfl) (by omega) (by omega) (by omega)).mono ?_
  rintro e w8 ⟨rfl, o1, g1⟩
  have L13 := L12.put 1 rfl o1 g1
  clear o1 g1 L12
  go_wp2_with fail
  refine (eqBucketS_same _ _ _ _ _ _ L _ (L13.rd 0 rfl) (L13.rd 3 rfl)).mono ?_
  rintro e w9 ⟨rfl, g1⟩
  have L14 := L13.step g1
  clear g1 L13
  go_wp2_with fail
  refine (markBucketS_any _ _ _ L _ _ _ (L14.own 0 rfl) (by omega) (by omega) (by omega)).mono ?_
  rintro e w10 ⟨rfl, o1, g1⟩
  have L15 := L14.put 0 rfl o1 g1
  clear o1 g1 L14
  go_wp2_with fail
  refine (heldBucketS_any _ _ _ _ _ (L15.rd 0 rfl) (by omega) (by omega) (by omega)).mono ?_
  rintro e w11 ⟨rfl, g1⟩
  have L16 := L15.step g1
  clear g1 L15
  go_wp2_with fail
  refine (toBucketS_any A n c l _ (H.out.keptN L16.grown) (by omega)).mono ?_
  rintro e w12 ⟨Az, cz, rfl, o1, g1⟩
  have L17 := L16.new o1 g1
  clear o1 g1 L16
  go_wp2_with fail
  refine (toBucketS_any B n2 c2 l2 _ (H2.out.keptN L17.grown) (by omega)).mono ?_
  rintro e w12 ⟨Bz, dz, rfl, o1, g1⟩
  have L18 := L17.new o1 g1
  clear o1 g1 L17
  go_wp2_with fail
  refine (mergeI_at _ _ _ _ _ _ l l2 x L b _ (L18.rd 1 rfl) (L18.rd 0 rfl) HV.out).mono ?_
  rintro e w13 ⟨Ah, ch, rfl, o1, g1⟩
  have L19 := L18.new o1 g1
  clear o1 g1 L18
  go_wp2_with fail
  refine (eqBucketS_same _ _ _ _ _ _ L _ (L19.rd 0 rfl) (L19.rd 6 rfl)).mono ?_
  rintro e w14 ⟨rfl, g1⟩
  have L20 := L19.step g1
  clear g1 L19
  go_wp2_with fail
  refine (heldBucketS_any _ _ _ _ _ (L20.rd 3 rfl) (by omega) (by omega) (by omega)).mono ?_
  rintro e w15 ⟨rfl, g1⟩
  have hbel := (L20.step g1).bel
  clear g1 L20
  go_wp2
  go_ret
  exact ⟨rfl, hbel⟩
set_option maxRecDepth 100000 in
set_option linter.unusedVariables false in
theorem liftedFnExactMergeBuckets (os : Os) (started : os.Started) (H : Type) (enc : TypeId × Value → H) :
    ReturnsInHanded {} Try.checked os 15 .any (Rows.fnExactMergeBucketsSpec.pre6 enc Try.prog Try.f15 Rows.fnExactMergeBucketsRow.domain false) (Rows.fnExactMergeBucketsSpec.post enc Try.prog Try.f15 false true false false) := by
  refine returnsInHanded_of_change (C := Try.checked) own started (by kernel_rfl) Try.func15
    (ChangeSpec.witness6 (enc := enc) (C := Try.checked) false ⟨#[], #[.slice none 0 0, .slice none 0 0, .int .i64 0], []⟩ 8 (by kernel_rfl) (by kernel_rfl) (by kernel_rfl) (by kernel_rfl)) ?_
  intro W base args ds gs before hval0 hW hcnd _
  have hval : ∀ (j : Nat) t v, Try.f15.params[j]? = some t → args[j]? = some v → Value.okWide Try.prog W .any base t v := hval0
  have hW' := hW
  obtain ⟨p, q, hA0, hV, rfl, hfz, hnd⟩ := hW
  have hA : DataW.TrodAll enc Try.prog W 0 (fun _ => true) true Try.f15.params.toList args.toList ds p := hA0
  rw [Try.params15] at hA hval
  obtain ⟨v0, vs0, d0, ds0, p0, q0, hargs, rfl, rfl, h0, r0⟩ := trodAll_cons hA
  obtain ⟨v1, vs1, d1, ds1, p1, q1, rfl, rfl, rfl, h1, r1⟩ := trodAll_cons r0
  obtain ⟨v2, vs2, d2, ds2, p2, q2, rfl, rfl, rfl, h2, r2⟩ := trodAll_cons r1
  obtain ⟨rfl, rfl, rfl⟩ := trodAll_nil r2
  obtain rfl : args = #[v0, v1, v2] := by cases args; simp_all
  obtain ⟨rfl, rfl⟩ := trodVars_none hV
  obtain ⟨a0, len0, cap0, rfl⟩ := okWide_slice Try.underlying22 (hval 0 22 v0 rfl rfl)
  have k0 := h0
  have lt0 : ∀ x ∈ p0, x.block < W.heap.size := by obtain ⟨m, hm⟩ := k0; exact DataW.trod_lt m _ _ _ hm
  obtain ⟨z0, w0, b0⟩ : ∃ l : List Bk, Rd W 5 a0 len0 cap0 (l.flatMap bf) ∧ ∀ x ∈ l, inB x := by
    obtain ⟨fuel, hf⟩ := h0
    exact rd_structs bf mkB5 inB (fun _ => rfl) rfl mkB5_ok (by omega) Try.underlying22 Try.underlying64 (by kernel_rfl) (by kernel_rfl) (all_int (by kernel_rfl)) (by simpa [Value.cells] using hf)
  obtain ⟨a1, len1, cap1, rfl⟩ := okWide_slice Try.underlying22 (hval 1 22 v1 rfl rfl)
  have k1 := h1
  have lt1 : ∀ x ∈ p1, x.block < W.heap.size := by obtain ⟨m, hm⟩ := k1; exact DataW.trod_lt m _ _ _ hm
  obtain ⟨z1, w1, b1⟩ : ∃ l : List Bk, Rd W 5 a1 len1 cap1 (l.flatMap bf) ∧ ∀ x ∈ l, inB x := by
    obtain ⟨fuel, hf⟩ := h1
    exact rd_structs bf mkB5 inB (fun _ => rfl) rfl mkB5_ok (by omega) Try.underlying22 Try.underlying64 (by kernel_rfl) (by kernel_rfl) (all_int (by kernel_rfl)) (by simpa [Value.cells] using hf)
  obtain ⟨a2, rfl, rfl, rfl, w2⟩ := open_int Try.underlying3 (hval 2 3 v2 rfl rfl) h2
  clear hA0 hval0
  refine (walkFnExactMergeBuckets a0 len0 cap0 z0 a1 len1 cap1 z1 a2 W w0 b0 w1 b1 w2).mono fun e W' ⟨he, bel⟩ => ?_
  subst he
  exact ⟨_, rfl, _, _, _, [], _, [], hW', trodAll_mk1 (shut_bool Try.underlying4 _), (trodAll_cons_mk (Below.trod laidOut (by kernel_rfl) (of_decide_eq_true (by kernel_rfl)) k0 bel lt0) (trodAll_cons_mk (Below.trod laidOut (by kernel_rfl) (of_decide_eq_true (by kernel_rfl)) k1 bel lt1) (trodAll_cons_mk (shut_int Try.underlying3 w2) trodAll_mk0))), rfl, bel.frame _, fun h => by cases h⟩

theorem closedFnExactMergeBuckets : joinedFacts Try.prog 15 Try.f15 Rows.fnExactMergeBucketsSpec Rows.fnExactMergeBucketsRow = true := by
  unfold joinedFacts
  refine and_yes (and_yes (and_yes (and_yes (and_yes (and_yes (and_yes ?_ mayIn) ?_) ?_) ?_) ?_) ?_) ?_
  rotate_left
  · rw [liftsIn]; kernel_rfl
  · rw [makeIn]; kernel_rfl
  · kernel_rfl
  · kernel_rfl
  · kernel_rfl
  · kernel_rfl
  · kernel_rfl

theorem overFnExactMergeBuckets : Rows.fnExactMergeBucketsRow.holds Try.pinned (OpenSpec.ofChange Rows.fnExactMergeBucketsSpec) :=
  OpenClaim.holds_of_wide 15 Try.f15 rfl rfl rfl rfl rfl rfl rfl ⟨rfl, rfl, rfl, rfl, rfl⟩ rfl rfl rfl rfl rfl (by kernel_rfl) Try.func15 closedFnExactMergeBuckets
    (of_decide_eq_true (by kernel_rfl)) (by unfold Func.isWrapper; first | (rw [if_pos (by decide +kernel)]; kernel_rfl) | (rw [if_neg (by decide +kernel)]; exact ⟨rfl, rfl⟩))
    (fun os started H enc _ => liftedFnExactMergeBuckets os started H enc)

/-- the statement -/
theorem provedFnExactMergeBuckets : Rows.FnExactMergeBucketsSaid := overFnExactMergeBuckets
#print axioms provedFnExactMergeBuckets
end Go.Proofs.Ytmokolccohobpaa
