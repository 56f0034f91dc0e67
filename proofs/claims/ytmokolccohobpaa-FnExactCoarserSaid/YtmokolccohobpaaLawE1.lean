/- The laws FnExactValidBuckets, FnExactRollUp and FnExactCoarser: for every input the law returns true, and nothing that was there has turned. -/
import Derived.Test.YtmokolccohobpaaFrame2
import Derived.Test.YtmokolccohobpaaPMark
import Derived.Test.YtmokolccohobpaaBMark
import Derived.Test.YtmokolccohobpaaBEq
import Derived.Test.YtmokolccohobpaaCoarse
import Derived.Test.YtmokolccohobpaaRoll
import Derived.Test.YtmokolccohobpaaLive
namespace Go.Proofs.Ytmokolccohobpaa
set_option linter.unusedVariables false
open Go.ChangeShapes Go.WideShapes Go.ChangeAt Go.RowKit

theorem rollV_len {W : Int} {l : List Pt} : (rollV W l).length ≤ l.length := by
  unfold rollV
  split
  · exact roll_len
  · simp
theorem coarV_len {W T : Int} {l : List Bk} : (coarV W T l).1.length ≤ l.length := by
  unfold coarV
  split
  · split
    · exact coar_len
    · simp
  · simp
theorem rollI_at (A : Option Addr) (n c : Nat) (l : List Pt) (W : Int) (L : List Bk) (w : World) (h : Rd w 2 A n c (pc l)) (hv : rollV W l = L) :
    Calls Try.prog 25 #[.slice A n c, .int .i64 W] w (Rolled L w) := by
  subst hv
  exact rollI_any A n c l W w h
theorem rollS_at (A : Option Addr) (n c : Nat) (l : List Pt) (W : Int) (L : List Bk) (w : World) (h : Rd w 2 A n c (pc l)) (hv : rollV W l = L) :
    Calls Try.prog 27 #[.slice A n c, .int .i64 W] w (Rolled L w) := by
  subst hv
  exact rollS_any A n c l W w h
theorem coarI_at (A : Option Addr) (n c : Nat) (l : List Bk) (W T : Int) (L : List Bk) (b : Bool) (w : World) (h : Rd w 5 A n c (bkc l)) (hv : coarV W T l = (L, b)) :
    Calls Try.prog 30 #[.slice A n c, .int .i64 W, .int .i64 T] w (Coarsed (L, b) w) := by
  rw [← hv]
  exact coarI_any A n c l W T w h
theorem coarS_at (A : Option Addr) (n c : Nat) (l : List Bk) (W T : Int) (L : List Bk) (b : Bool) (w : World) (h : Rd w 5 A n c (bkc l)) (hv : coarV W T l = (L, b)) :
    Calls Try.prog 31 #[.slice A n c, .int .i64 W, .int .i64 T] w (Coarsed (L, b) w) := by
  rw [← hv]
  exact coarS_any A n c l W T w h

set_option maxHeartbeats 800000 in
theorem walkFnExactValidBuckets (A : Option Addr) (n c : Nat) (l : List Bk) (x : Int) (W : World) (h : Rd W 5 A n c (bkc l)) (hb : ∀ x ∈ l, inB x) (hx : (Lit.int .i64 x).wf = true) : Calls Try.prog 3 #[.slice A n c, .int .i64 x] W fun e w' => e = .returned (.bool true) ∧ Below W.heap.size W w' := by
  have nb : n ≤ 9223372036854775807 := Nat.le_trans h.cap h.lim
  have H := Lib.hid h
  clear h hb
  obtain ⟨v, hv⟩ : ∃ v, okW x l = v := ⟨_, rfl⟩
  have HV := Lib.hid hv
  clear hv hx
  go_enter Try.func3, Try.ntmps3
  go_wp2_with fail
  refine (szBucketS_any A n c _ _ nb (by omega) (by omega)).mono ?_
  rintro e w1 ⟨rfl, rfl⟩
  by_cases hbig : (1048576 : Int) < (n : Int)
  · rw [if_pos hbig]
    go_wp2
    go_ret
    exact ⟨rfl, Below.refl _ _⟩
  rw [if_neg hbig]
  have hn : n ≤ 1048576 := by omega
  go_wp2_with fail
  refine (toBucketS_any A n c l _ H.out (by omega)).mono ?_
  rintro e w1 ⟨A1, c1, rfl, o1, g1⟩
  go_wp2_with fail
  refine (validBS_at _ _ _ l x v _ (Rd.own o1) HV.out).mono ?_
  rintro e w2 ⟨rfl, g2⟩
  go_wp2_with fail
  refine (toBucketS_any A n c l _ (H.out.keptN (g_trans g1 g2)) (by omega)).mono ?_
  rintro e w3 ⟨A2, c2, rfl, o2, g3⟩
  go_wp2_with fail
  refine (validBI_at _ _ _ l x v _ (Rd.own o2) HV.out).mono ?_
  rintro e w4 ⟨rfl, g4⟩
  go_wp2_with fail
  refine (toBucketS_any A n c l _ (H.out.keptN (g_trans g1 (g_trans g2 (g_trans g3 g4)))) (by omega)).mono ?_
  rintro e w5 ⟨A3, c3, rfl, o3, g5⟩
  go_wp2_with fail
  refine (eqBucketS_same _ _ _ _ _ _ l _ ((Rd.own o2).keptN (g_trans g4 g5)) (Rd.own o3)).mono ?_
  rintro e w6 ⟨rfl, g6⟩
  have hbel := g_below (g_trans g1 (g_trans g2 (g_trans g3 (g_trans g4 (g_trans g5 g6))))) (Nat.le_refl _) (by simp)
  clear o1 o2 o3 g1 g2 g3 g4 g5 g6
  go_wp2
  go_ret
  exact ⟨rfl, hbel⟩
set_option maxRecDepth 100000 in
set_option linter.unusedVariables false in
theorem liftedFnExactValidBuckets (os : Os) (started : os.Started) (H : Type) (enc : TypeId × Value → H) :
    ReturnsInHanded {} Try.checked os 3 .any (Rows.fnExactValidBucketsSpec.pre6 enc Try.prog Try.f3 Rows.fnExactValidBucketsRow.domain false) (Rows.fnExactValidBucketsSpec.post enc Try.prog Try.f3 false true false false) := by
  refine returnsInHanded_of_change (C := Try.checked) own started (by kernel_rfl) Try.func3
    (ChangeSpec.witness6 (enc := enc) (C := Try.checked) false ⟨#[], #[.slice none 0 0, .int .i64 0], []⟩ 8 (by kernel_rfl) (by kernel_rfl) (by kernel_rfl) (by kernel_rfl)) ?_
  intro W base args ds gs before hval0 hW hcnd _
  have hval : ∀ (j : Nat) t v, Try.f3.params[j]? = some t → args[j]? = some v → Value.okWide Try.prog W .any base t v := hval0
  have hW' := hW
  obtain ⟨p, q, hA0, hV, rfl, hfz, hnd⟩ := hW
  have hA : DataW.TrodAll enc Try.prog W 0 (fun _ => true) true Try.f3.params.toList args.toList ds p := hA0
  rw [Try.params3] at hA hval
  obtain ⟨v0, vs0, d0, ds0, p0, q0, hargs, rfl, rfl, h0, r0⟩ := trodAll_cons hA
  obtain ⟨v1, vs1, d1, ds1, p1, q1, rfl, rfl, rfl, h1, r1⟩ := trodAll_cons r0
  obtain ⟨rfl, rfl, rfl⟩ := trodAll_nil r1
  obtain rfl : args = #[v0, v1] := by cases args; simp_all
  obtain ⟨rfl, rfl⟩ := trodVars_none hV
  obtain ⟨a0, len0, cap0, rfl⟩ := okWide_slice Try.underlying22 (hval 0 22 v0 rfl rfl)
  have k0 := h0
  have lt0 : ∀ x ∈ p0, x.block < W.heap.size := by obtain ⟨m, hm⟩ := k0; exact DataW.trod_lt m _ _ _ hm
  obtain ⟨z0, w0, b0⟩ : ∃ l : List Bk, Rd W 5 a0 len0 cap0 (l.flatMap bf) ∧ ∀ x ∈ l, inB x := by
    obtain ⟨fuel, hf⟩ := h0
    exact rd_structs bf mkB5 inB (fun _ => rfl) rfl mkB5_ok (by omega) Try.underlying22 Try.underlying64 (by kernel_rfl) (by kernel_rfl) (all_int (by kernel_rfl)) (by simpa [Value.cells] using hf)
  obtain ⟨a1, rfl, rfl, rfl, w1⟩ := open_int Try.underlying3 (hval 1 3 v1 rfl rfl) h1
  clear hA0 hval0
  refine (walkFnExactValidBuckets a0 len0 cap0 z0 a1 W w0 b0 w1).mono fun e W' ⟨he, bel⟩ => ?_
  subst he
  exact ⟨_, rfl, _, _, _, [], _, [], hW', trodAll_mk1 (shut_bool Try.underlying4 _), (trodAll_cons_mk (Below.trod laidOut (by kernel_rfl) (of_decide_eq_true (by kernel_rfl)) k0 bel lt0) (trodAll_cons_mk (shut_int Try.underlying3 w1) trodAll_mk0)), rfl, bel.frame _, fun h => by cases h⟩

theorem closedFnExactValidBuckets : joinedFacts Try.prog 3 Try.f3 Rows.fnExactValidBucketsSpec Rows.fnExactValidBucketsRow = true := by
  unfold joinedFacts
  refine and_yes (and_yes (and_yes (and_yes (and_yes (and_yes (and_yes ?_ mayIn) ?_) ?_) ?_) ?_) ?_) ?_
  rotate_left
  · rw [liftsIn]; kernel_rfl
  · rw [makeIn]; kernel_rfl
  · kernel_rfl
  · kernel_rfl
  · kernel_rfl
  · kernel_rfl
  · kernel_rfl

theorem overFnExactValidBuckets : Rows.fnExactValidBucketsRow.holds Try.pinned (OpenSpec.ofChange Rows.fnExactValidBucketsSpec) :=
  OpenClaim.holds_of_wide 3 Try.f3 rfl rfl rfl rfl rfl rfl rfl ⟨rfl, rfl, rfl, rfl, rfl⟩ rfl rfl rfl rfl rfl (by kernel_rfl) Try.func3 closedFnExactValidBuckets
    (of_decide_eq_true (by kernel_rfl)) (by unfold Func.isWrapper; first | (rw [if_pos (by decide +kernel)]; kernel_rfl) | (rw [if_neg (by decide +kernel)]; exact ⟨rfl, rfl⟩))
    (fun os started H enc _ => liftedFnExactValidBuckets os started H enc)

/-- the statement -/
theorem provedFnExactValidBuckets : Rows.FnExactValidBucketsSaid := overFnExactValidBuckets
#print axioms provedFnExactValidBuckets
set_option maxHeartbeats 3200000 in
theorem walkFnExactRollUp (A : Option Addr) (n c : Nat) (l : List Pt) (x : Int) (W : World) (h : Rd W 2 A n c (pc l)) (hb : ∀ x ∈ l, inP x) (hx : (Lit.int .i64 x).wf = true) : Calls Try.prog 16 #[.slice A n c, .int .i64 x] W fun e w' => e = .returned (.bool true) ∧ Below W.heap.size W w' := by
  have nb : n ≤ 9223372036854775807 := Nat.le_trans h.cap h.lim
  have hln : l.length = n := by have := h.len; first | rw [pc_len] at this; omega | rw [bkc_len] at this; omega
  have H := Lib.hid h
  clear h hb
  have hL := rollV_len (W := x) (l := l)
  obtain ⟨L, b, hv⟩ : ∃ L b, rollV x l = L := ⟨_, true, rfl⟩
  rw [hv] at hL
  try simp only at hL
  have hLn : L.length ≤ n := by omega
  have HV := Lib.hid hv
  clear hv hx hL hln
  go_enter Try.func16, Try.ntmps16
  go_wp2_with fail
  refine (szPointS_any A n c _ _ nb (by omega) (by omega)).mono ?_
  rintro e w0 ⟨rfl, rfl⟩
  by_cases hbig : (1048576 : Int) < (n : Int)
  · rw [if_pos hbig]
    go_wp2
    go_ret
    exact ⟨rfl, Below.refl _ _⟩
  rw [if_neg hbig]
  have hn : n ≤ 1048576 := by omega
  go_wp2_with fail
  refine (toPointS_any A n c l _ H.out (by omega)).mono ?_
  rintro e w1 ⟨A1, c1, rfl, o1, g1⟩
  have L1 := (Live.zero _).new o1 g1
  clear o1 g1
  go_wp2_with fail
  refine (rollS_at _ _ _ l x L _ (L1.rd 0 rfl) HV.out).mono ?_
  rintro e w2 ⟨Aw, cw, rfl, o1, g1⟩
  have L2 := L1.new o1 g1
  clear o1 g1 L1
  go_wp2_with fail
  refine (toPointS_any A n c l _ (H.out.keptN L2.grown) (by omega)).mono ?_
  rintro e w3 ⟨Ax, cx, rfl, o1, g1⟩
  have L3 := L2.new o1 g1
  clear o1 g1 L2
  go_wp2_with fail
  refine (rollI_at _ _ _ l x L _ (L3.rd 0 rfl) HV.out).mono ?_
  rintro e w4 ⟨Ag, cg, rfl, o1, g1⟩
  have L4 := L3.new o1 g1
  clear o1 g1 L3
  go_wp2_with fail
  refine (eqBucketS_same _ _ _ _ _ _ L _ (L4.rd 0 rfl) (L4.rd 2 rfl)).mono ?_
  rintro e w5 ⟨rfl, g1⟩
  have L5 := L4.step g1
  clear g1 L4
  go_wp2_with fail
  refine (toPointS_any A n c l _ (H.out.keptN L5.grown) (by omega)).mono ?_
  rintro e w6 ⟨Ay, cy, rfl, o1, g1⟩
  have L6 := L5.new o1 g1
  clear o1 g1 L5
  go_wp2_with fail
  refine (eqPointS_same _ _ _ _ _ _ l _ (L6.rd 2 rfl) (L6.rd 0 rfl)).mono ?_
  rintro e w7 ⟨rfl, g1⟩
  have L7 := (L6.step g1).drop
  clear g1 L6
  go_wp2_with fail
  refine (markPointS_any _ _ _ l _ _ _ (L7.own 1 rfl) (by omega) (by omega) (by omega)).mono ?_
  rintro e w8 ⟨rfl, o1, g1⟩
  have L8 := L7.put 1 rfl o1 g1
  clear o1 g1 L7
  go_wp2_with fail
  refine (eqBucketS_same _ _ _ _ _ _ L _ (L8.rd 0 rfl) (L8.rd 2 rfl)).mono ?_
  rintro e w9 ⟨rfl, g1⟩
  have L9 := L8.step g1
  clear g1 L8
  go_wp2_with fail
  refine (markBucketS_any _ _ _ L _ _ _ (L9.own 0 rfl) (by omega) (by omega) (by omega)).mono ?_
  rintro e w10 ⟨rfl, o1, g1⟩
  have L10 := L9.put 0 rfl o1 g1
  clear o1 g1 L9
  go_wp2_with fail
  refine (heldBucketS_any _ _ _ _ _ (L10.rd 0 rfl) (by omega) (by omega) (by omega)).mono ?_
  rintro e w11 ⟨rfl, g1⟩
  have L11 := L10.step g1
  clear g1 L10
  go_wp2_with fail
  refine (toPointS_any A n c l _ (H.out.keptN L11.grown) (by omega)).mono ?_
  rintro e w12 ⟨Az, cz, rfl, o1, g1⟩
  have L12 := L11.new o1 g1
  clear o1 g1 L11
  go_wp2_with fail
  refine (rollI_at _ _ _ l x L _ (L12.rd 0 rfl) HV.out).mono ?_
  rintro e w13 ⟨Ah, ch, rfl, o1, g1⟩
  have L13 := L12.new o1 g1
  clear o1 g1 L12
  go_wp2_with fail
  refine (eqBucketS_same _ _ _ _ _ _ L _ (L13.rd 0 rfl) (L13.rd 4 rfl)).mono ?_
  rintro e w14 ⟨rfl, g1⟩
  have L14 := L13.step g1
  clear g1 L13
  go_wp2_with fail
  refine (heldBucketS_any _ _ _ _ _ (L14.rd 2 rfl) (by omega) (by omega) (by omega)).mono ?_
  rintro e w15 ⟨rfl, g1⟩
  have hbel := (L14.step g1).bel
  clear g1 L14
  go_wp2
  go_ret
  exact ⟨rfl, hbel⟩
set_option maxHeartbeats 3200000 in
theorem walkFnExactCoarser (A : Option Addr) (n c : Nat) (l : List Bk) (x t : Int) (W : World) (h : Rd W 5 A n c (bkc l)) (hb : ∀ x ∈ l, inB x) (hx : (Lit.int .i64 x).wf = true) (ht : (Lit.int .i64 t).wf = true) : Calls Try.prog 12 #[.slice A n c, .int .i64 x, .int .i64 t] W fun e w' => e = .returned (.bool true) ∧ Below W.heap.size W w' := by
  have nb : n ≤ 9223372036854775807 := Nat.le_trans h.cap h.lim
  have hln : l.length = n := by have := h.len; first | rw [pc_len] at this; omega | rw [bkc_len] at this; omega
  have H := Lib.hid h
  clear h hb
  have hL := coarV_len (W := x) (T := t) (l := l)
  obtain ⟨L, b, hv⟩ : ∃ L b, coarV x t l = (L, b) := ⟨_, _, rfl⟩
  rw [hv] at hL
  try simp only at hL
  have hLn : L.length ≤ n := by omega
  have HV := Lib.hid hv
  clear hv hx hL hln
  go_enter Try.func12, Try.ntmps12
  go_wp2_with fail
  refine (szBucketS_any A n c _ _ nb (by omega) (by omega)).mono ?_
  rintro e w0 ⟨rfl, rfl⟩
  by_cases hbig : (1048576 : Int) < (n : Int)
  · rw [if_pos hbig]
    go_wp2
    go_ret
    exact ⟨rfl, Below.refl _ _⟩
  rw [if_neg hbig]
  have hn : n ≤ 1048576 := by omega
  go_wp2_with fail
  refine (toBucketS_any A n c l _ H.out (by omega)).mono ?_
  rintro e w1 ⟨A1, c1, rfl, o1, g1⟩
  have L1 := (Live.zero _).new o1 g1
  clear o1 g1
  go_wp2_with fail
  refine (coarS_at _ _ _ l x t L b _ (L1.rd 0 rfl) HV.out).mono ?_
  rintro e w2 ⟨Aw, cw, rfl, o1, g1⟩
  have L2 := L1.new o1 g1
  clear o1 g1 L1
  go_wp2_with fail
  refine (toBucketS_any A n c l _ (H.out.keptN L2.grown) (by omega)).mono ?_
  rintro e w3 ⟨Ax, cx, rfl, o1, g1⟩
  have L3 := L2.new o1 g1
  clear o1 g1 L2
  go_wp2_with fail
  refine (coarI_at _ _ _ l x t L b _ (L3.rd 0 rfl) HV.out).mono ?_
  rintro e w4 ⟨Ag, cg, rfl, o1, g1⟩
  have L4 := L3.new o1 g1
  clear o1 g1 L3
  go_wp2_with fail
  refine (eqBucketS_same _ _ _ _ _ _ L _ (L4.rd 0 rfl) (L4.rd 2 rfl)).mono ?_
  rintro e w5 ⟨rfl, g1⟩
  have L5 := L4.step g1
  clear g1 L4
  go_wp2_with fail
  refine (toBucketS_any A n c l _ (H.out.keptN L5.grown) (by omega)).mono ?_
  rintro e w6 ⟨Ay, cy, rfl, o1, g1⟩
  have L6 := L5.new o1 g1
  clear o1 g1 L5
  go_wp2_with fail
  refine (eqBucketS_same _ _ _ _ _ _ l _ (L6.rd 2 rfl) (L6.rd 0 rfl)).mono ?_
  rintro e w7 ⟨rfl, g1⟩
  have L7 := (L6.step g1).drop
  clear g1 L6
  go_wp2_with fail
  refine (markBucketS_any _ _ _ l _ _ _ (L7.own 1 rfl) (by omega) (by omega) (by omega)).mono ?_
  rintro e w8 ⟨rfl, o1, g1⟩
  have L8 := L7.put 1 rfl o1 g1
  clear o1 g1 L7
  go_wp2_with fail
  refine (eqBucketS_same _ _ _ _ _ _ L _ (L8.rd 0 rfl) (L8.rd 2 rfl)).mono ?_
  rintro e w9 ⟨rfl, g1⟩
  have L9 := L8.step g1
  clear g1 L8
  go_wp2_with fail
  refine (markBucketS_any _ _ _ L _ _ _ (L9.own 0 rfl) (by omega) (by omega) (by omega)).mono ?_
  rintro e w10 ⟨rfl, o1, g1⟩
  have L10 := L9.put 0 rfl o1 g1
  clear o1 g1 L9
  go_wp2_with fail
  refine (heldBucketS_any _ _ _ _ _ (L10.rd 0 rfl) (by omega) (by omega) (by omega)).mono ?_
  rintro e w11 ⟨rfl, g1⟩
  have L11 := L10.step g1
  clear g1 L10
  go_wp2_with fail
  refine (toBucketS_any A n c l _ (H.out.keptN L11.grown) (by omega)).mono ?_
  rintro e w12 ⟨Az, cz, rfl, o1, g1⟩
  have L12 := L11.new o1 g1
  clear o1 g1 L11
  go_wp2_with fail
  refine (coarI_at _ _ _ l x t L b _ (L12.rd 0 rfl) HV.out).mono ?_
  rintro e w13 ⟨Ah, ch, rfl, o1, g1⟩
  have L13 := L12.new o1 g1
  clear o1 g1 L12
  go_wp2_with fail
  refine (eqBucketS_same _ _ _ _ _ _ L _ (L13.rd 0 rfl) (L13.rd 4 rfl)).mono ?_
  rintro e w14 ⟨rfl, g1⟩
  have L14 := L13.step g1
  clear g1 L13
  go_wp2_with fail
  refine (heldBucketS_any _ _ _ _ _ (L14.rd 2 rfl) (by omega) (by omega) (by omega)).mono ?_
  rintro e w15 ⟨rfl, g1⟩
  have hbel := (L14.step g1).bel
  clear g1 L14
  go_wp2
  go_ret
  exact ⟨rfl, hbel⟩
set_option maxRecDepth 100000 in
set_option linter.unusedVariables false in
theorem liftedFnExactRollUp (os : Os) (started : os.Started) (H : Type) (enc : TypeId × Value → H) :
    ReturnsInHanded {} Try.checked os 16 .any (Rows.fnExactRollUpSpec.pre6 enc Try.prog Try.f16 Rows.fnExactRollUpRow.domain false) (Rows.fnExactRollUpSpec.post enc Try.prog Try.f16 false true false false) := by
  refine returnsInHanded_of_change (C := Try.checked) own started (by kernel_rfl) Try.func16
    (ChangeSpec.witness6 (enc := enc) (C := Try.checked) false ⟨#[], #[.slice none 0 0, .int .i64 0], []⟩ 8 (by kernel_rfl) (by kernel_rfl) (by kernel_rfl) (by kernel_rfl)) ?_
  intro W base args ds gs before hval0 hW hcnd _
  have hval : ∀ (j : Nat) t v, Try.f16.params[j]? = some t → args[j]? = some v → Value.okWide Try.prog W .any base t v := hval0
  have hW' := hW
  obtain ⟨p, q, hA0, hV, rfl, hfz, hnd⟩ := hW
  have hA : DataW.TrodAll enc Try.prog W 0 (fun _ => true) true Try.f16.params.toList args.toList ds p := hA0
  rw [Try.params16] at hA hval
  obtain ⟨v0, vs0, d0, ds0, p0, q0, hargs, rfl, rfl, h0, r0⟩ := trodAll_cons hA
  obtain ⟨v1, vs1, d1, ds1, p1, q1, rfl, rfl, rfl, h1, r1⟩ := trodAll_cons r0
  obtain ⟨rfl, rfl, rfl⟩ := trodAll_nil r1
  obtain rfl : args = #[v0, v1] := by cases args; simp_all
  obtain ⟨rfl, rfl⟩ := trodVars_none hV
  obtain ⟨a0, len0, cap0, rfl⟩ := okWide_slice Try.underlying55 (hval 0 55 v0 rfl rfl)
  have k0 := h0
  have lt0 : ∀ x ∈ p0, x.block < W.heap.size := by obtain ⟨m, hm⟩ := k0; exact DataW.trod_lt m _ _ _ hm
  obtain ⟨z0, w0, b0⟩ : ∃ l : List Pt, Rd W 2 a0 len0 cap0 (l.flatMap pf) ∧ ∀ x ∈ l, inP x := by
    obtain ⟨fuel, hf⟩ := h0
    exact rd_structs pf mkP inP (fun _ => rfl) rfl mkP_ok (by omega) Try.underlying55 Try.underlying81 (by kernel_rfl) (by kernel_rfl) (all_int (by kernel_rfl)) (by simpa [Value.cells] using hf)
  obtain ⟨a1, rfl, rfl, rfl, w1⟩ := open_int Try.underlying3 (hval 1 3 v1 rfl rfl) h1
  clear hA0 hval0
  refine (walkFnExactRollUp a0 len0 cap0 z0 a1 W w0 b0 w1).mono fun e W' ⟨he, bel⟩ => ?_
  subst he
  exact ⟨_, rfl, _, _, _, [], _, [], hW', trodAll_mk1 (shut_bool Try.underlying4 _), (trodAll_cons_mk (Below.trod laidOut (by kernel_rfl) (of_decide_eq_true (by kernel_rfl)) k0 bel lt0) (trodAll_cons_mk (shut_int Try.underlying3 w1) trodAll_mk0)), rfl, bel.frame _, fun h => by cases h⟩

theorem closedFnExactRollUp : joinedFacts Try.prog 16 Try.f16 Rows.fnExactRollUpSpec Rows.fnExactRollUpRow = true := by
  unfold joinedFacts
  refine and_yes (and_yes (and_yes (and_yes (and_yes (and_yes (and_yes ?_ mayIn) ?_) ?_) ?_) ?_) ?_) ?_
  rotate_left
  · rw [liftsIn]; kernel_rfl
  · rw [makeIn]; kernel_rfl
  · kernel_rfl
  · kernel_rfl
  · kernel_rfl
  · kernel_rfl
  · kernel_rfl

theorem overFnExactRollUp : Rows.fnExactRollUpRow.holds Try.pinned (OpenSpec.ofChange Rows.fnExactRollUpSpec) :=
  OpenClaim.holds_of_wide 16 Try.f16 rfl rfl rfl rfl rfl rfl rfl ⟨rfl, rfl, rfl, rfl, rfl⟩ rfl rfl rfl rfl rfl (by kernel_rfl) Try.func16 closedFnExactRollUp
    (of_decide_eq_true (by kernel_rfl)) (by unfold Func.isWrapper; first | (rw [if_pos (by decide +kernel)]; kernel_rfl) | (rw [if_neg (by decide +kernel)]; exact ⟨rfl, rfl⟩))
    (fun os started H enc _ => liftedFnExactRollUp os started H enc)

/-- the statement -/
theorem provedFnExactRollUp : Rows.FnExactRollUpSaid := overFnExactRollUp
#print axioms provedFnExactRollUp
set_option maxRecDepth 100000 in
set_option linter.unusedVariables false in
theorem liftedFnExactCoarser (os : Os) (started : os.Started) (H : Type) (enc : TypeId × Value → H) :
    ReturnsInHanded {} Try.checked os 12 .any (Rows.fnExactCoarserSpec.pre6 enc Try.prog Try.f12 Rows.fnExactCoarserRow.domain false) (Rows.fnExactCoarserSpec.post enc Try.prog Try.f12 false true false false) := by
  refine returnsInHanded_of_change (C := Try.checked) own started (by kernel_rfl) Try.func12
    (ChangeSpec.witness6 (enc := enc) (C := Try.checked) false ⟨#[], #[.slice none 0 0, .int .i64 0, .int .i64 0], []⟩ 8 (by kernel_rfl) (by kernel_rfl) (by kernel_rfl) (by kernel_rfl)) ?_
  intro W base args ds gs before hval0 hW hcnd _
  have hval : ∀ (j : Nat) t v, Try.f12.params[j]? = some t → args[j]? = some v → Value.okWide Try.prog W .any base t v := hval0
  have hW' := hW
  obtain ⟨p, q, hA0, hV, rfl, hfz, hnd⟩ := hW
  have hA : DataW.TrodAll enc Try.prog W 0 (fun _ => true) true Try.f12.params.toList args.toList ds p := hA0
  rw [Try.params12] at hA hval
  obtain ⟨v0, vs0, d0, ds0, p0, q0, hargs, rfl, rfl, h0, r0⟩ := trodAll_cons hA
  obtain ⟨v1, vs1, d1, ds1, p1, q1, rfl, rfl, rfl, h1, r1⟩ := trodAll_cons r0
  obtain ⟨v2, vs2, d2, ds2, p2, q2, rfl, rfl, rfl, h2, r2⟩ := trodAll_cons r1
  obtain ⟨rfl, rfl, rfl⟩ := trodAll_nil r2
  obtain rfl : args = #[v0, v1, v2] := by cases args; simp_all
  obtain ⟨rfl, rfl⟩ := trodVars_none hV
  obtain ⟨a0, len0, cap0, rfl⟩ := okWide_slice Try.underlying22 (hval 0 22 v0 rfl rfl)
  have k0 := h0
  have lt0 : ∀ x ∈ p0, x.block < W.heap.size := by obtain ⟨m, hm⟩ := k0; exact DataW.trod_lt m _ _ _ hm
  obtain ⟨z0, w0, b0⟩ : ∃ l : List Bk, Rd W 5 a0 len0 cap0 (l.flatMap bf) ∧ ∀ x ∈ l, inB x := by
    obtain ⟨fuel, hf⟩ := h0
    exact rd_structs bf mkB5 inB (fun _ => rfl) rfl mkB5_ok (by omega) Try.underlying22 Try.underlying64 (by kernel_rfl) (by kernel_rfl) (all_int (by kernel_rfl)) (by simpa [Value.cells] using hf)
  obtain ⟨a1, rfl, rfl, rfl, w1⟩ := open_int Try.underlying3 (hval 1 3 v1 rfl rfl) h1
  obtain ⟨a2, rfl, rfl, rfl, w2⟩ := open_int Try.underlying3 (hval 2 3 v2 rfl rfl) h2
  clear hA0 hval0
  refine (walkFnExactCoarser a0 len0 cap0 z0 a1 a2 W w0 b0 w1 w2).mono fun e W' ⟨he, bel⟩ => ?_
  subst he
  exact ⟨_, rfl, _, _, _, [], _, [], hW', trodAll_mk1 (shut_bool Try.underlying4 _), (trodAll_cons_mk (Below.trod laidOut (by kernel_rfl) (of_decide_eq_true (by kernel_rfl)) k0 bel lt0) (trodAll_cons_mk (shut_int Try.underlying3 w1) (trodAll_cons_mk (shut_int Try.underlying3 w2) trodAll_mk0))), rfl, bel.frame _, fun h => by cases h⟩

theorem closedFnExactCoarser : joinedFacts Try.prog 12 Try.f12 Rows.fnExactCoarserSpec Rows.fnExactCoarserRow = true := by
  unfold joinedFacts
  refine and_yes (and_yes (and_yes (and_yes (and_yes (and_yes (and_yes ?_ mayIn) ?_) ?_) ?_) ?_) ?_) ?_
  rotate_left
  · rw [liftsIn]; kernel_rfl
  · rw [makeIn]; kernel_rfl
  · kernel_rfl
  · kernel_rfl
  · kernel_rfl
  · kernel_rfl
  · kernel_rfl

theorem overFnExactCoarser : Rows.fnExactCoarserRow.holds Try.pinned (OpenSpec.ofChange Rows.fnExactCoarserSpec) :=
  OpenClaim.holds_of_wide 12 Try.f12 rfl rfl rfl rfl rfl rfl rfl ⟨rfl, rfl, rfl, rfl, rfl⟩ rfl rfl rfl rfl rfl (by kernel_rfl) Try.func12 closedFnExactCoarser
    (of_decide_eq_true (by kernel_rfl)) (by unfold Func.isWrapper; first | (rw [if_pos (by decide +kernel)]; kernel_rfl) | (rw [if_neg (by decide +kernel)]; exact ⟨rfl, rfl⟩))
    (fun os started H enc _ => liftedFnExactCoarser os started H enc)

/-- the statement -/
theorem provedFnExactCoarser : Rows.FnExactCoarserSaid := overFnExactCoarser
#print axioms provedFnExactCoarser
end Go.Proofs.Ytmokolccohobpaa
