/- The contract of UnpackSeries of the reference. -/
import Derived.Test.YtcgeagcfhjdpcaaUnp
import Derived.Test.YtcgeagcfhjdpcaaDel
import Derived.Test.YtcgeagcfhjdpcaaLive
namespace Go.Proofs.Ytcgeagcfhjdpcaa
set_option linter.unusedVariables false
open Go.RowKit

theorem getV_no {l : List Int} (h : ¬ 0 < (getV l).2) : getV l = (0, 0) := by
  match l with
  | [] => rfl
  | a :: r =>
    by_cases h1 : a < 128
    · exfalso; apply h; simp [getV, h1]
    · match r with
      | [] => simp [getV, h1]
      | b :: r =>
        by_cases h2 : b < 128
        · by_cases h3 : b = 0
          · subst h3; simp [getV, h1]
          · exfalso; apply h; simp [getV, h1, h2, h3]
        · match r with
          | [] => simp [getV, h1, h2]
          | c :: r =>
            by_cases h3 : c < 128
            · by_cases h4 : c = 0 ∨ 200000 < a - 128 + 128 * (b - 128) + 16384 * c
              · simp [getV, h1, h2, h3, h4]
              · exfalso; apply h; simp [getV, h1, h2, h3, h4]
            · simp [getV, h1, h2, h3]
theorem getV_none {l : List Int} (h : getZ l = none) : getV l = (0, 0) := by
  unfold getZ at h
  split at h
  · cases h
  · rename_i hp
    exact getV_no hp
theorem getV_some {l r : List Int} {a : Int} (hb : By l) (h : getZ l = some (a, r)) : ∃ (t : Int) (k : Nat), getV l = (t, (k : Int)) ∧ unzL t = a ∧ (0 ≤ t ∧ t ≤ 200000) ∧ r = l.drop k ∧ 1 ≤ k ∧ k ≤ l.length ∧ k ≤ 3 := by
  unfold getZ at h
  split at h
  · rename_i hp
    obtain ⟨k, hk, k1, k3, kl, v0, v1, -⟩ := getV_yes hb hp
    rw [hk] at h
    simp at h
    obtain ⟨rfl, rfl⟩ := h
    exact ⟨(getV l).1, k, Prod.ext rfl hk, rfl, ⟨v0, v1⟩, rfl, k1, kl, k3⟩
  · cases h
abbrev inR (A : Option Addr) (c : Nat) (l : List Int) : Row := ⟨3, 1, .slice A l.length c, l.length, ic l⟩
theorem live_s {W w w' : World} {Av As A6 : Option Addr} {cv cs c6 : Nat} {V S S2 : List Int} (L : Live W w [inR Av cv V, inR As cs S]) (o : w'.ownsRow W.heap.size 3 1 (.slice A6 S2.length c6) S2.length (ic S2)) (g : w.grownBy w' (Value.slice As S.length cs).ownBlock) (f : Lies w (.slice As S.length cs) (.slice A6 S2.length c6)) :
    Live W w' [inR Av cv V, inR A6 c6 S2] := by
  have h := L.app 1 rfl o g f
  exact h
theorem live_v {W w w' : World} {Av As A6 : Option Addr} {cv cs c6 : Nat} {V S V2 : List Int} (L : Live W w [inR Av cv V, inR As cs S]) (o : w'.ownsRow W.heap.size 3 1 (.slice A6 V2.length c6) V2.length (ic V2)) (g : w.grownBy w' (Value.slice Av V.length cv).ownBlock) (f : Lies w (.slice Av V.length cv) (.slice A6 V2.length c6)) :
    Live W w' [inR A6 c6 V2, inR As cs S] := by
  have h := L.app 0 rfl o g f
  exact h
theorem getVS_at (A : Option Addr) (n c : Nat) (l : List Int) (a b : Int) (w : World) (h1 : Rd w 1 A n c (bc l)) (hb : By l) (h : getV l = (a, b)) :
    Calls Try.prog 61 #[.slice A n c] w fun e w' => e = .returned (.tuple #[.int .i64 a, .int .i64 b]) ∧ w.grownBy w' none := by
  refine (getVS_any A n c l w h1 hb).mono ?_
  rintro e w' ⟨rfl, hg⟩
  exact ⟨by rw [h]; rfl, hg⟩
theorem unzig_at (t a : Int) (w : World) (h : (0 ≤ t ∧ t ≤ 200000) ∧ unzL t = a) : Calls Try.prog 62 #[.int .i64 t] w fun e w' => e = .returned (.int .i64 a) ∧ w = w' := by
  obtain ⟨⟨h0, h1⟩, rfl⟩ := h
  exact unzig_any t w h0 (by omega)
theorem unp_no {l : List Int} {L : List Pt} {ok : Bool} (hv : unpV l = (L, ok)) (h : unpO l = none) : [] = L ∧ false = ok := by
  rw [unpV_none h] at hv
  injection hv with a b
  exact ⟨a, b⟩
theorem unp_ok {l : List Int} {L M : List Pt} {ok : Bool} (hv : unpV l = (L, ok)) (h : unpO l = some M) : M = L ∧ true = ok := by
  rw [unpV_some h] at hv
  injection hv with a b
  exact ⟨a, b⟩
set_option maxHeartbeats 6400000 in
set_option maxRecDepth 100000 in
theorem unpS_at (A : Option Addr) (n c : Nat) (l : List Int) (L : List Pt) (ok : Bool) (w : World) (h : Rd w 1 A n c (bc l)) (hb : By l) (hv : unpV l = (L, ok)) :
    Calls Try.prog 25 #[.slice A n c] w (Unpacked L ok w) := by
  have hlen : l.length = n := by have := h.len; rw [bc_len] at this; omega
  have nb : n ≤ 9223372036854775807 := Nat.le_trans h.cap h.lim
  by_cases hn0 : n = 0
  · obtain rfl : l = [] := List.eq_nil_of_length_eq_zero (by omega)
    obtain ⟨rfl, rfl⟩ := unp_no hv rfl
    subst hn0
    clear hv hlen
    go_enter Try.func25, Try.ntmps25
    go_wp2
    go_ret2
    exact ⟨none, 0, rfl, World.ownsRow_nil _ _ _ _, g_refl _ _⟩
  have hnz : ((n : Int) == 0) = false := by rw [beq_eq_false_iff_ne]; omega
  by_cases hbig : (97 : Int) < (n : Int)
  · obtain ⟨rfl, rfl⟩ := unp_no hv (unp_out hb (by omega))
    clear hv hlen
    go_enter Try.func25, Try.ntmps25
    go_wp2
    go_ret2
    exact ⟨none, 0, rfl, World.ownsRow_nil _ _ _ _, g_refl _ _⟩
  obtain ⟨c0, r0, rfl⟩ : ∃ c0 r0, l = c0 :: r0 := by
    cases l with
    | nil => simp at hlen; omega
    | cons c0 r0 => exact ⟨c0, r0, rfl⟩
  obtain ⟨b0, b1⟩ := hb c0 List.mem_cons_self
  obtain ⟨m, rfl⟩ := Int.eq_ofNat_of_zero_le b0
  have hnp : 0 < n := by omega
  have hnp' : (0 : Int) < (n : Int) := by omega
  obtain ⟨bl, ol, rfl, hc⟩ := h.cells (i := 0) hnp
  have cc := hc 0 _ (bc_at (l := (m : Int) :: r0) (i := 0) (x := (m : Int)) rfl)
  simp only [Nat.add_zero] at cc
  obtain ⟨mm, hmm⟩ : ∃ mm, mm = min m 16 := ⟨_, rfl⟩
  have hm16 : mm ≤ 16 ∧ mm ≤ m := by omega
  obtain ⟨hm16, hmm1⟩ := hm16
  have HM := Lib.hid (show (mm = m ∧ m ≤ 16) ∨ (mm = 16 ∧ 16 < m) by omega)
  have HN : Hid (r0.length = n - 1) := by show _ = _; simp at hlen; omega
  have HU := Lib.hid (And.intro hv hlen)
  have HB := Lib.hid hb
  have cA : Hid (∀ w' : World, w.grownBy w' none → w'.cell? ⟨bl, ol, none⟩ = some (.int .u8 (m : Int))) := fun w' g => g.cell cc (by simp)
  clear hv hlen hb hc hmm nb
  go_enter Try.func25, Try.ntmps25
  go_wp2
  have L1 : Live w (w.alloc (.cells [].toArray 3)) [inR (some ⟨w.heap.size, 0, none⟩) 0 []] := (Live.zero w).new (lit_own w w.heap.size 3 1 [] 0 (Nat.le_refl _) (by omega) rfl) (g_alloc _ _ _)
  have L2 := L1.new (lit_own (w.alloc (.cells [].toArray 3)) (w.alloc (.cells [].toArray 3)).heap.size 3 1 [] 0 (Nat.le_refl _) (by omega) rfl) (g_alloc _ _ _)
  have L2' := Lib.hid (show Live w ((w.alloc (.cells #[] 3)).alloc (.cells #[] 3)) [inR (some ⟨w.heap.size + 1, 0, none⟩) 0 [], inR (some ⟨w.heap.size, 0, none⟩) 0 []] by have h2 := L2; simp at h2; exact h2)
  have HR0 : Hid (r0 = ((m : Int) :: r0).drop 1) := rfl
  clear L1 L2
  go_loopw [4, 5, 6, 7] (fun at_ st va i wr => ∃ (j : Nat) (ps : List (Int × Int)) (r : List Int) (a : Nat) (S V : List Int) (As Av : Option Addr) (cs cv : Nat), j ≤ mm ∧ i = .int .i64 j ∧ at_ = .int .i64 a ∧ 1 ≤ a ∧ a ≤ n ∧ st = .slice As S.length cs ∧ va = .slice Av V.length cv ∧ S.length = j ∧ V.length = j ∧ Hid (Live w wr [inR Av cv V, inR As cs S]) ∧
    Hid (ps.length = j ∧ okPairs ps ∧ By r ∧ unpF (mm - j) ps r = readP mm r0 ∧ S = ps.map (·.1) ∧ V = ps.map (·.2) ∧ r = ((m : Int) :: r0).drop a)) (fun _ _ _ i _ => mm - (Go.RowKit.intOf i).toNat)
  case atStart => exact ⟨0, [], r0, 1, [], [], _, _, 0, 0, Nat.zero_le _, rfl, rfl, Nat.le_refl _, by omega, rfl, rfl, rfl, rfl, L2', rfl, fun q hq => by simp at hq, fun x hx => HB.out x (List.mem_cons_of_mem _ hx), unpF_nil _ _, rfl, rfl, HR0.out⟩
  case round =>
    obtain ⟨j, ps, r, a, S, V, As, Av, cs, cv, hj, rfl, rfl, ha1, han, rfl, rfl, hSl, hVl, hL, hI⟩ := hrel
    clear L2'
    have HSl := Lib.hid hSl
    have HVl := Lib.hid hVl
    clear hSl hVl
    have cw := cA.out wr hL.out.grown
    have hrl : r.length = n - a := by rw [hI.out.2.2.2.2.2.2, List.length_drop, HU.out.2]
    by_cases hlt : j < mm
    · have hlt1 : (j : Int) < (m : Int) := by omega
      have hlt2 : (j : Int) < 16 := by omega
      have hwa : IntKind.i64.wrap (a : Int) = (a : Int) := IntWalk.i64_in _ (by omega)
      cases hz : getZ r with
      | none =>
        have e0 : unpO ((m : Int) :: r0) = none := by
          have e1 : readP mm r0 = none := by rw [← hI.out.2.2.2.1, show mm - j = (mm - j - 1) + 1 by omega]; exact unpF_no1 hz
          rw [unpO_cons]
          rcases HM.out with ⟨h1, h2⟩ | ⟨h1, h2⟩
          · rw [if_neg (by omega), Int.toNat_natCast, ← h1, e1]; rfl
          · rw [if_pos (by omega)]
        obtain ⟨rfl, rfl⟩ := unp_no HU.out.1 e0
        have hg3 := Lib.hid (getV_none hz)
        have HRD := Lib.hid hI.out.2.2.2.2.2.2
        clear hz e0
        go_wp2_with (refine from_by rfl (.tmp 39) (.tmp 40) rfl _ n c a _ _ w rfl rfl han h ?_; intro A1 R1; rw [← HRD.out] at R1; have R3 := Lib.hid R1; clear R1)
        refine (getVS_at _ _ _ r 0 0 _ (R3.out.keptN hL.out.grown) hI.out.2.2.1 hg3.out).mono ?_
        rintro e w1 ⟨rfl, g1⟩
        have G1 := g_trans hL.out.grown g1
        clear g1 cw
        go_wp2_with (refine from_by rfl (.tmp 46) (.tmp 49) rfl _ n c a _ _ w rfl (by first | rfl | (simp [Act.eval]; done)) han h ?_; intro A2 R1; rw [← HRD.out] at R1; have R4 := Lib.hid R1; clear R1)
        refine (getVS_at _ _ _ r 0 0 _ (R4.out.keptN G1) hI.out.2.2.1 hg3.out).mono ?_
        rintro e w2 ⟨rfl, g2⟩
        have G2 := g_trans G1 g2
        clear g2 G1
        go_wp2
        go_ret2
        exact ⟨none, 0, rfl, World.ownsRow_nil _ _ _ _, G2⟩
      | some q =>
        obtain ⟨x, r1⟩ := q
        obtain ⟨hx, -, hb1⟩ := getZ_inv hI.out.2.2.1 hz
        obtain ⟨t, k, hg, hut, htb, hr1, k1, kl, k3⟩ := getV_some hI.out.2.2.1 hz
        have hg3 := Lib.hid hg
        have hrd : r1 = ((m : Int) :: r0).drop (a + k) := by rw [hr1, hI.out.2.2.2.2.2.2, List.drop_drop]
        have HRD := Lib.hid hI.out.2.2.2.2.2.2
        have HRD1 := Lib.hid hrd
        have HB1 := Lib.hid hb1
        have hak : a + k ≤ n := by omega
        have hw1 : IntKind.i64.wrap ((a : Int) + (k : Int)) = (a : Int) + (k : Int) := IntWalk.i64_in _ (by omega)
        have hk0 : ((k : Int) == 0) = false := by rw [beq_eq_false_iff_ne]; omega
        cases hz2 : getZ r1 with
        | none =>
          have e0 : unpO ((m : Int) :: r0) = none := by
            have e1 : readP mm r0 = none := by rw [← hI.out.2.2.2.1, show mm - j = (mm - j - 1) + 1 by omega]; exact unpF_no2 hz hz2
            rw [unpO_cons]
            rcases HM.out with ⟨h1, h2⟩ | ⟨h1, h2⟩
            · rw [if_neg (by omega), Int.toNat_natCast, ← h1, e1]; rfl
            · rw [if_pos (by omega)]
          obtain ⟨rfl, rfl⟩ := unp_no HU.out.1 e0
          have hg4 := Lib.hid (getV_none hz2)
          clear hz hz2 e0 hg hr1 hrd hb1 hx
          go_wp2_with (refine from_by rfl (.tmp 39) (.tmp 40) rfl _ n c a _ _ w rfl rfl han h ?_; intro A1 R1; rw [← HRD.out] at R1; have R3 := Lib.hid R1; clear R1)
          refine (getVS_at _ _ _ r t k _ (R3.out.keptN hL.out.grown) hI.out.2.2.1 hg3.out).mono ?_
          rintro e w1 ⟨rfl, g1⟩
          have G1 := g_trans hL.out.grown g1
          clear g1 cw
          go_wp2_with (refine from_by rfl (.tmp 46) (.tmp 49) rfl _ n c (a + k) _ _ w rfl (by first | rfl | (simp [Act.eval]; done)) hak h ?_; intro A2 R1; rw [← HRD1.out] at R1; have R4 := Lib.hid R1; clear R1)
          refine (getVS_at _ _ _ r1 0 0 _ (R4.out.keptN G1) HB1.out hg4.out).mono ?_
          rintro e w2 ⟨rfl, g2⟩
          have G2 := g_trans G1 g2
          clear g2 G1
          go_wp2
          go_ret2
          exact ⟨none, 0, rfl, World.ownsRow_nil _ _ _ _, G2⟩
        | some q =>
          obtain ⟨y, r2⟩ := q
          obtain ⟨hy, -, hb2⟩ := getZ_inv hb1 hz2
          obtain ⟨t2, k2, hg2, hut2, htb2, hr2, k4, kl2, k6⟩ := getV_some hb1 hz2
          have hg4 := Lib.hid hg2
          have hrd2 : r2 = ((m : Int) :: r0).drop (a + k + k2) := by rw [hr2, hrd, List.drop_drop]
          have hr1l : r1.length = r.length - k := by rw [hr1, List.length_drop]
          have hk20 : ((k2 : Int) == 0) = false := by rw [beq_eq_false_iff_ne]; omega
          have hw2 : IntKind.i64.wrap ((a : Int) + (k : Int) + (k2 : Int)) = (a : Int) + (k : Int) + (k2 : Int) := IntWalk.i64_in _ (by omega)
          have HZ1 := Lib.hid (And.intro htb hut)
          have HZ2 := Lib.hid (And.intro htb2 hut2)
          have HI3 : Hid ((ps ++ [(x, y)]).length = j + 1 ∧ okPairs (ps ++ [(x, y)]) ∧ By r2 ∧ unpF (mm - (j + 1)) (ps ++ [(x, y)]) r2 = readP mm r0 ∧ S ++ [x] = (ps ++ [(x, y)]).map (·.1) ∧ V ++ [y] = (ps ++ [(x, y)]).map (·.2) ∧ r2 = ((m : Int) :: r0).drop (a + k + k2)) := by
            refine ⟨by rw [List.length_append, hI.out.1]; rfl, okPairs_snoc hI.out.2.1 hx hy, hb2, ?_, by rw [List.map_append, ← hI.out.2.2.2.2.1]; rfl, by rw [List.map_append, ← hI.out.2.2.2.2.2.1]; rfl, hrd2⟩
            rw [← hI.out.2.2.2.1, show mm - j = (mm - (j + 1)) + 1 by omega]
            exact (unpF_step hz hz2).symm
          have hakk : a + k + k2 ≤ n := by omega
          clear hz hz2 hg hg2 hr1 hr2 hrd hrd2 hb1 hb2 hx hy hut hut2 htb htb2
          go_wp2_with (refine from_by rfl (.tmp 39) (.tmp 40) rfl _ n c a _ _ w rfl rfl han h ?_; intro A1 R1; rw [← HRD.out] at R1; have R3 := Lib.hid R1; clear R1)
          refine (getVS_at _ _ _ r t k _ (R3.out.keptN hL.out.grown) hI.out.2.2.1 hg3.out).mono ?_
          rintro e w1 ⟨rfl, g1⟩
          have LL1 := Lib.hid (hL.out.step g1)
          clear g1 cw
          go_wp2_with (refine from_by rfl (.tmp 46) (.tmp 49) rfl _ n c (a + k) _ _ w rfl (by first | rfl | (simp [Act.eval]; done)) hak h ?_; intro A2 R1; rw [← HRD1.out] at R1; have R4 := Lib.hid R1; clear R1)
          refine (getVS_at _ _ _ r1 t2 k2 _ (R4.out.keptN LL1.out.grown) HB1.out hg4.out).mono ?_
          rintro e w2 ⟨rfl, g2⟩
          have LL2 := Lib.hid (LL1.out.step g2)
          clear g2
          go_wp2_with fail
          refine (unzig_at t x _ HZ1.out).mono ?_
          rintro e w3 ⟨rfl, rfl⟩
          have OS := Lib.hid (show World.ownsRow w2 w.heap.size 3 1 (.slice As S.length cs) S.length (ic S) from LL2.out.own 1 rfl)
          have hb3 := LL2.out.grown.size
          go_wp2_with (at_builtin; refine app_in rfl (.tmp 60) (.tmp 63) rfl w.heap.size S w2 x As cs rfl OS.out rfl (by have := HSl.out; omega) hb3 ?_; intro A6 c6 w6 o6 g6 f6; have LL6 := Lib.hid (live_s LL2.out o6 g6 f6); clear o6 g6 f6)
          refine (unzig_at t2 y _ HZ2.out).mono ?_
          rintro e w7 ⟨rfl, rfl⟩
          have OV := Lib.hid (show World.ownsRow w6 w.heap.size 3 1 (.slice Av V.length cv) V.length (ic V) from LL6.out.own 0 rfl)
          have hb6 := LL6.out.grown.size
          go_wp2_with (at_builtin; refine app_in rfl (.tmp 65) (.tmp 68) rfl w.heap.size V w6 y Av cv rfl OV.out rfl (by have := HVl.out; omega) hb6 ?_; intro A8 c8 w8 o8 g8 f8; have LL8 := Lib.hid (live_v LL6.out o8 g8 f8); clear o8 g8 f8)
          clear OS OV LL1 LL2 LL6 hL hb3 hb6
          go_roundw
          case rel => exact ⟨j + 1, ps ++ [(x, y)], r2, a + k + k2, S ++ [x], V ++ [y], A6, A8, c6, c8, by omega, by go_num, by simp, by omega, by omega, by simp, by simp, by rw [List.length_append, HSl.out]; rfl, by rw [List.length_append, HVl.out]; rfl, LL8, HI3⟩
          case measure => simp [Go.RowKit.intOf]; omega
    · have hjm : j = mm := by omega
      have e0 : readP mm r0 = some (ps, r) := by rw [← hI.out.2.2.2.1, hjm, Nat.sub_self, unpF_zero]
      have E0 := Lib.hid e0
      obtain ⟨hpl, hpo, -, -, hpS, hpV, -⟩ := hI.out
      have f1 : ∀ y ∈ S, -100000 ≤ y ∧ y ≤ 100000 := by
        intro y hy
        rw [hpS] at hy
        obtain ⟨q, hq, rfl⟩ := List.mem_map.1 hy
        exact (hpo q hq).1
      have f2 : ∀ y ∈ V, -100000 ≤ y ∧ y ≤ 100000 := by
        intro y hy
        rw [hpV] at hy
        obtain ⟨q, hq, rfl⟩ := List.mem_map.1 hy
        exact (hpo q hq).2
      have f3 := sum_bd2 (B := 100000) (by omega) f1 (by rw [HSl.out]; omega)
      have F1 : Hid (∀ y ∈ S, -10000000 ≤ y ∧ y ≤ 10000000) := fun y hy => by have := f1 y hy; omega
      have F2 : Hid (∀ y ∈ V, -10000000 ≤ y ∧ y ≤ 10000000) := fun y hy => by have := f2 y hy; omega
      have F3 : Hid (∀ y ∈ sumL 0 S, -10000000 ≤ y ∧ y ≤ 10000000) := fun y hy => by have := f3 y hy; omega
      have HZ : Hid ((sumL 0 (sumL 0 S)).zip (sumL 0 V) = unzipL ps) := by show _ = _; unfold unzipL; rw [hpS, hpV]
      have HZl := Lib.hid (show (unzipL ps).length = j by rw [unzip_len, hpl])
      have HTl := Lib.hid (show (sumL 0 (sumL 0 S)).length = j by rw [sum_len, sum_len, HSl.out])
      have HUl := Lib.hid (show (sumL 0 V).length = j by rw [sum_len, HVl.out])
      have HS100 := Lib.hid (show S.length ≤ 100 by rw [HSl.out]; omega)
      have HV100 := Lib.hid (show V.length ≤ 100 by rw [HVl.out]; omega)
      have HS1100 := Lib.hid (show (sumL 0 S).length ≤ 100 by rw [sum_len, HSl.out]; omega)
      clear e0 hpl hpo hpS hpV f1 f2 f3 hI
      rcases HM.out with ⟨hma, hmb⟩ | ⟨hma, hmb⟩
      · have hc1 : ¬ (j : Int) < (m : Int) := by omega
        have HE : Hid (unpO ((m : Int) :: r0) = fineU (some (ps, r)) ∧ m = j) := ⟨by rw [unpO_cons, if_neg (by omega), Int.toNat_natCast, ← hma, E0.out], by omega⟩
        go_wp2_with fail
        refine (sums_any _ _ _ S _ (hL.out.rd 1 rfl) HS100.out F1.out).mono ?_
        rintro e w1 ⟨A1, c1, rfl, o1, g1⟩
        have R1 := Lib.hid (Rd.own o1)
        have M1 := Lib.hid (hL.out.step g1)
        clear o1 g1 cw
        go_wp2_with fail
        refine (sums_any _ _ _ (sumL 0 S) _ R1.out HS1100.out F3.out).mono ?_
        rintro e w2 ⟨A2, c2, rfl, o2, g2⟩
        have M2 := Lib.hid (M1.out.new o2 g2)
        clear o2 g2 M1 R1
        go_wp2_with fail
        refine (sums_any _ _ _ V _ (M2.out.rd 1 rfl) HV100.out F2.out).mono ?_
        rintro e w3 ⟨A3, c3, rfl, o3, g3⟩
        have M3 := M2.out.new o3 g3
        obtain ⟨T, hT⟩ : ∃ T, sumL 0 (sumL 0 S) = T := ⟨_, rfl⟩
        obtain ⟨U, hU⟩ : ∃ U, sumL 0 V = U := ⟨_, rfl⟩
        obtain ⟨Z, hZ⟩ : ∃ Z, unzipL ps = Z := ⟨_, rfl⟩
        rw [hT, hU] at M3
        have hZZ := HZ.out
        have hZl := HZl.out
        have hTl := HTl.out
        have hUl := HUl.out
        have hE := HE.out
        rw [hT, hU, hZ] at hZZ
        rw [hZ] at hZl
        rw [hT] at hTl
        rw [hU] at hUl
        rw [hT, hU]
        have G3 := Lib.hid M3.grown
        have RT := Lib.hid (show Rd w3 1 A2 T.length c2 (ic T) from M3.rd 1 rfl)
        have RU := Lib.hid (show Rd w3 1 A3 U.length c3 (ic U) from M3.rd 0 rfl)
        have KL := Lib.hid (And.intro hZZ (And.intro hZl (And.intro hTl hUl)))
        have HZ' := Lib.hid hZ
        clear hZZ hZl hTl hUl hE hT hU M3 M2 o3 g3 hZ HZ HZl HTl HUl F1 F2 F3 HS100 HV100 HS1100 hL
        go_wp2
        have oN := lit_own w3 w3.heap.size 39 2 [] 0 (Nat.le_refl _) (by omega) rfl
        have gN := g_alloc w3 (.cells [].toArray 39) none
        go_loopw [14, 15] (fun o i wr => ∃ (k : Nat) (A' : Option Addr) (c' : Nat) (K : List Pt), k ≤ T.length ∧ i = .int .i64 k ∧ o = .slice A' K.length c' ∧ wr.ownsRow w3.heap.size 39 2 (.slice A' K.length c') K.length (pc K) ∧ w3.grownBy wr none ∧ Hid (K = Z.take k)) (fun _ i _ => T.length - (Go.RowKit.intOf i).toNat)
        case atStart => exact ⟨0, _, 0, [], Nat.zero_le _, rfl, rfl, oN, gN, rfl⟩
        case round =>
          obtain ⟨k, A', c', K, hk, rfl, rfl, hown, hg, hK⟩ := hrel
          have hsz := hg.size
          clear oN gN
          have hTn := KL.out.2.2.1
          by_cases hlt : k < T.length
          · obtain ⟨t, ht, -⟩ := get_ex (l := T) (i := k) hlt
            have hku : k < U.length := by rw [KL.out.2.2.2, ← hTn]; exact hlt
            obtain ⟨u, hu, -⟩ := get_ex (l := U) (i := k) hku
            have hz : Z[k]? = some (t, u) := by rw [← KL.out.1]; exact zip_at ht hu
            have HK2 : Hid (K ++ [(t, u)] = Z.take (k + 1)) := by show _ = _; rw [take_get hz, hK.out]
            have HKl : Hid (K.length ≤ 1000000) := by show _ ≤ _; rw [hK.out, List.length_take, KL.out.2.1]; omega
            obtain ⟨b1, o1, e1, hc1'⟩ := (RT.out.keptN hg).cells (i := k) hlt
            obtain ⟨b2, o2, e2, hc2'⟩ := (RU.out.keptN hg).cells (i := k) hku
            have lt1 := RT.out.lt (by omega) (by omega) _ e1
            have lt2 := RU.out.lt (by omega) (by omega) _ e2
            subst e1 e2
            have c0 := hc1' _ _ (ic_at ht)
            have c1' := hc2' _ _ (ic_at hu)
            simp only at lt1 lt2
            have hn0 := World.new_ne wr _ c0
            have hn1 := World.new_ne wr _ c1'
            have hlt' : (k : Int) < (T.length : Int) := by omega
            have hku' : (k : Int) < (U.length : Int) := by omega
            have LT := Lib.hid (And.intro lt1 lt2)
            have hk16 : k ≤ 16 := by omega
            clear hc1' hc2' ht hu hz hK lt1 lt2 hTn
            go_wp2_with fail
            go_region_held3 (fun w' => w'.cell? ⟨b1, o1 + k, none⟩ = some (.int .i64 t) ∧ w'.cell? ⟨b2, o2 + k, none⟩ = some (.int .i64 u))
              (first | go_keep | exact ⟨hgr6.cell c0 hnb6, hgr6.cell c1' hnb7⟩)
              ((refine sapp_pt (by rfl) (.tmp 87) (.tmp 97) (by rfl) w3.heap.size K _ t u A' c' (by rfl) hown (by rfl) HKl.out hsz ?_; intro A6 c6 w6 o6 g6 f6; have hgr6 := g6; have hnb6 : some b1 ≠ (Value.slice A' K.length c').ownBlock := fun e => (by have h1 := own_new hown _ e.symm; have h2 := LT.out.1; omega); have hnb7 : some b2 ≠ (Value.slice A' K.length c').ownBlock := fun e => (by have h1 := own_new hown _ e.symm; have h2 := LT.out.2; omega)))
            have HO := Lib.hid (And.intro o6 (g_new hg g6 (own_new hown)))
            clear o6 g6 f6 hgr6 hnb6 hnb7 hown hg hn0 hn1
            go_wp2
            go_roundw
            case rel => exact ⟨k + 1, A6, c6, K ++ [(t, u)], by omega, by go_num, by simp, HO.out.1, HO.out.2, HK2⟩
            case measure => simp [Go.RowKit.intOf]; omega
          · have hge : ¬ (k : Int) < (T.length : Int) := by omega
            have hKZ : K = Z := by rw [hK.out, List.take_of_length_le (by rw [KL.out.2.1, ← hTn]; omega)]
            subst hKZ
            have hZl := KL.out.2.1
            have G4 := g_trans G3.out hg
            have cw2 := cA.out wr G4
            have O4 := Lib.hid (own_le (base' := w.heap.size) hown G3.out.size)
            have R4 := Lib.hid (Rd.own hown)
            have hd : r.length = n - a := hrl
            clear hK hown hg hTn
            by_cases hna : a = n
            · have hb1 : ((a : Int) != (n : Int)) = false := by rw [hna]; simp
              have hb2 : ((m : Int) != (K.length : Int)) = false := by rw [hZl]; have := HE.out.2; simp; omega
              have hrn : r = [] := List.eq_nil_of_length_eq_zero (by omega)
              cases hvl : validL K with
              | false =>
                obtain ⟨rfl, rfl⟩ := unp_no HU.out.1 (by rw [HE.out.1, hrn]; exact fineU_bad (by rw [HZ'.out]; exact hvl))
                have HVL := Lib.hid hvl
                clear hvl hrn hZl
                go_wp2_with fail
                refine (validSS_at _ _ _ _ false _ R4.out HVL.out).mono ?_
                rintro e w5 ⟨rfl, g5⟩
                have G5 := g_trans G4 g5
                clear g5 G4
                go_wp2
                go_ret2
                exact ⟨none, 0, rfl, World.ownsRow_nil _ _ _ _, G5⟩
              | true =>
                obtain ⟨rfl, rfl⟩ := unp_ok HU.out.1 (show unpO ((m : Int) :: r0) = some K by rw [HE.out.1, hrn, fineU_yes (by rw [HZ'.out]; exact hvl), HZ'.out])
                have HVL := Lib.hid hvl
                clear hvl hrn hZl
                go_wp2_with fail
                refine (validSS_at _ _ _ _ true _ R4.out HVL.out).mono ?_
                rintro e w5 ⟨rfl, g5⟩
                have G5 := g_trans G4 g5
                have O5 := Lib.hid (own_keptN O4.out g5)
                clear g5 G4
                go_wp2
                go_ret2
                exact ⟨A', c', rfl, O5.out, G5⟩
            · have hb1 : ((a : Int) != (n : Int)) = true := by simp; omega
              obtain ⟨rfl, rfl⟩ := unp_no HU.out.1 (by rw [HE.out.1]; exact fineU_more (by omega))
              clear hZl
              go_wp2
              go_ret2
              exact ⟨none, 0, rfl, World.ownsRow_nil _ _ _ _, G4⟩
      · have hc1 : (j : Int) < (m : Int) := by omega
        have hc2 : ¬ (j : Int) < 16 := by omega
        have HE : Hid (unpO ((m : Int) :: r0) = none ∧ m ≠ j) := ⟨by rw [unpO_cons, if_pos (by omega)], by omega⟩
        go_wp2_with fail
        refine (sums_any _ _ _ S _ (hL.out.rd 1 rfl) HS100.out F1.out).mono ?_
        rintro e w1 ⟨A1, c1, rfl, o1, g1⟩
        have R1 := Lib.hid (Rd.own o1)
        have M1 := Lib.hid (hL.out.step g1)
        clear o1 g1 cw
        go_wp2_with fail
        refine (sums_any _ _ _ (sumL 0 S) _ R1.out HS1100.out F3.out).mono ?_
        rintro e w2 ⟨A2, c2, rfl, o2, g2⟩
        have M2 := Lib.hid (M1.out.new o2 g2)
        clear o2 g2 M1 R1
        go_wp2_with fail
        refine (sums_any _ _ _ V _ (M2.out.rd 1 rfl) HV100.out F2.out).mono ?_
        rintro e w3 ⟨A3, c3, rfl, o3, g3⟩
        have M3 := M2.out.new o3 g3
        obtain ⟨T, hT⟩ : ∃ T, sumL 0 (sumL 0 S) = T := ⟨_, rfl⟩
        obtain ⟨U, hU⟩ : ∃ U, sumL 0 V = U := ⟨_, rfl⟩
        obtain ⟨Z, hZ⟩ : ∃ Z, unzipL ps = Z := ⟨_, rfl⟩
        rw [hT, hU] at M3
        have hZZ := HZ.out
        have hZl := HZl.out
        have hTl := HTl.out
        have hUl := HUl.out
        have hE := HE.out
        rw [hT, hU, hZ] at hZZ
        rw [hZ] at hZl
        rw [hT] at hTl
        rw [hU] at hUl
        rw [hT, hU]
        have G3 := Lib.hid M3.grown
        have RT := Lib.hid (show Rd w3 1 A2 T.length c2 (ic T) from M3.rd 1 rfl)
        have RU := Lib.hid (show Rd w3 1 A3 U.length c3 (ic U) from M3.rd 0 rfl)
        have KL := Lib.hid (And.intro hZZ (And.intro hZl (And.intro hTl hUl)))
        have HZ' := Lib.hid hZ
        clear hZZ hZl hTl hUl hE hT hU M3 M2 o3 g3 hZ HZ HZl HTl HUl F1 F2 F3 HS100 HV100 HS1100 hL
        go_wp2
        have oN := lit_own w3 w3.heap.size 39 2 [] 0 (Nat.le_refl _) (by omega) rfl
        have gN := g_alloc w3 (.cells [].toArray 39) none
        go_loopw [14, 15] (fun o i wr => ∃ (k : Nat) (A' : Option Addr) (c' : Nat) (K : List Pt), k ≤ T.length ∧ i = .int .i64 k ∧ o = .slice A' K.length c' ∧ wr.ownsRow w3.heap.size 39 2 (.slice A' K.length c') K.length (pc K) ∧ w3.grownBy wr none ∧ Hid (K = Z.take k)) (fun _ i _ => T.length - (Go.RowKit.intOf i).toNat)
        case atStart => exact ⟨0, _, 0, [], Nat.zero_le _, rfl, rfl, oN, gN, rfl⟩
        case round =>
          obtain ⟨k, A', c', K, hk, rfl, rfl, hown, hg, hK⟩ := hrel
          have hsz := hg.size
          clear oN gN
          have hTn := KL.out.2.2.1
          by_cases hlt : k < T.length
          · obtain ⟨t, ht, -⟩ := get_ex (l := T) (i := k) hlt
            have hku : k < U.length := by rw [KL.out.2.2.2, ← hTn]; exact hlt
            obtain ⟨u, hu, -⟩ := get_ex (l := U) (i := k) hku
            have hz : Z[k]? = some (t, u) := by rw [← KL.out.1]; exact zip_at ht hu
            have HK2 : Hid (K ++ [(t, u)] = Z.take (k + 1)) := by show _ = _; rw [take_get hz, hK.out]
            have HKl : Hid (K.length ≤ 1000000) := by show _ ≤ _; rw [hK.out, List.length_take, KL.out.2.1]; omega
            obtain ⟨b1, o1, e1, hc1'⟩ := (RT.out.keptN hg).cells (i := k) hlt
            obtain ⟨b2, o2, e2, hc2'⟩ := (RU.out.keptN hg).cells (i := k) hku
            have lt1 := RT.out.lt (by omega) (by omega) _ e1
            have lt2 := RU.out.lt (by omega) (by omega) _ e2
            subst e1 e2
            have c0 := hc1' _ _ (ic_at ht)
            have c1' := hc2' _ _ (ic_at hu)
            simp only at lt1 lt2
            have hn0 := World.new_ne wr _ c0
            have hn1 := World.new_ne wr _ c1'
            have hlt' : (k : Int) < (T.length : Int) := by omega
            have hku' : (k : Int) < (U.length : Int) := by omega
            have LT := Lib.hid (And.intro lt1 lt2)
            have hk16 : k ≤ 16 := by omega
            clear hc1' hc2' ht hu hz hK lt1 lt2 hTn
            go_wp2_with fail
            go_region_held3 (fun w' => w'.cell? ⟨b1, o1 + k, none⟩ = some (.int .i64 t) ∧ w'.cell? ⟨b2, o2 + k, none⟩ = some (.int .i64 u))
              (first | go_keep | exact ⟨hgr6.cell c0 hnb6, hgr6.cell c1' hnb7⟩)
              ((refine sapp_pt (by rfl) (.tmp 87) (.tmp 97) (by rfl) w3.heap.size K _ t u A' c' (by rfl) hown (by rfl) HKl.out hsz ?_; intro A6 c6 w6 o6 g6 f6; have hgr6 := g6; have hnb6 : some b1 ≠ (Value.slice A' K.length c').ownBlock := fun e => (by have h1 := own_new hown _ e.symm; have h2 := LT.out.1; omega); have hnb7 : some b2 ≠ (Value.slice A' K.length c').ownBlock := fun e => (by have h1 := own_new hown _ e.symm; have h2 := LT.out.2; omega)))
            have HO := Lib.hid (And.intro o6 (g_new hg g6 (own_new hown)))
            clear o6 g6 f6 hgr6 hnb6 hnb7 hown hg hn0 hn1
            go_wp2
            go_roundw
            case rel => exact ⟨k + 1, A6, c6, K ++ [(t, u)], by omega, by go_num, by simp, HO.out.1, HO.out.2, HK2⟩
            case measure => simp [Go.RowKit.intOf]; omega
          · have hge : ¬ (k : Int) < (T.length : Int) := by omega
            have hKZ : K = Z := by rw [hK.out, List.take_of_length_le (by rw [KL.out.2.1, ← hTn]; omega)]
            subst hKZ
            have hZl := KL.out.2.1
            have G4 := g_trans G3.out hg
            have cw2 := cA.out wr G4
            have O4 := Lib.hid (own_le (base' := w.heap.size) hown G3.out.size)
            have R4 := Lib.hid (Rd.own hown)
            have hd : r.length = n - a := hrl
            clear hK hown hg hTn
            by_cases hna : a = n
            · have hb1 : ((a : Int) != (n : Int)) = false := by rw [hna]; simp
              obtain ⟨rfl, rfl⟩ := unp_no HU.out.1 HE.out.1
              have hb2 : ((m : Int) != (K.length : Int)) = true := by rw [hZl]; have := HE.out.2; simp; omega
              clear hZl
              go_wp2
              go_ret2
              exact ⟨none, 0, rfl, World.ownsRow_nil _ _ _ _, G4⟩
            · have hb1 : ((a : Int) != (n : Int)) = true := by simp; omega
              obtain ⟨rfl, rfl⟩ := unp_no HU.out.1 HE.out.1
              clear hZl
              go_wp2
              go_ret2
              exact ⟨none, 0, rfl, World.ownsRow_nil _ _ _ _, G4⟩
end Go.Proofs.Ytcgeagcfhjdpcaa
