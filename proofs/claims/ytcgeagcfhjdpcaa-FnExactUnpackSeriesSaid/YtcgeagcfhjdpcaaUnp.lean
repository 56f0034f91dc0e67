/- The contract of UnpackSeries of the program. -/
import Derived.Test.YtcgeagcfhjdpcaaSli
import Derived.Test.YtcgeagcfhjdpcaaPlainC3
import Derived.Test.YtcgeagcfhjdpcaaPts
import Derived.Test.YtcgeagcfhjdpcaaPApp
namespace Go.Proofs.Ytcgeagcfhjdpcaa
set_option linter.unusedVariables false
open Go.RowKit

def Unpacked (L : List Pt) (ok : Bool) (w : World) (e : Ending) (w' : World) : Prop := ∃ A c, e = .returned (.tuple #[.slice A L.length c, .bool ok]) ∧ w'.ownsRow w.heap.size 39 2 (.slice A L.length c) L.length (pc L) ∧ w.grownBy w' none
theorem getVI_atC (A : Option Addr) (n c : Nat) (l : List Int) (a b : Int) (k : Bool) (w : World) (h1 : Rd w 1 A n c (bc l)) (hb : By l) (h : get3 l = (a, b, k)) :
    Calls Try.prog 79 #[.slice A n c] w fun e w' => e = .returned (.tuple #[.int .i64 a, .int .i64 b, .bool k]) ∧ w.grownBy w' none := by
  refine (getVI_any A n c l w h1 hb).mono ?_
  rintro e w' ⟨rfl, hg⟩
  exact ⟨by rw [h]; rfl, hg⟩
theorem getZI_at (A : Option Addr) (n c : Nat) (l : List Int) (a b : Int) (k : Bool) (w : World) (h1 : Rd w 1 A n c (bc l)) (hb : By l) (h : gz3 l = (a, b, k)) :
    Calls Try.prog 58 #[.slice A n c] w fun e w' => e = .returned (.tuple #[.int .i64 a, .int .i64 b, .bool k]) ∧ w.grownBy w' none := by
  unfold gz3 at h
  have HR := Lib.hid (And.intro h1 hb)
  by_cases hp : 0 < (getV l).2
  · rw [if_pos hp] at h
    obtain ⟨m, hk, k1, k3, kl, v0, v1, -⟩ := getV_yes hb hp
    obtain ⟨z, hz⟩ : ∃ z, (getV l).1 = z := ⟨_, rfl⟩
    rw [hz] at v0 v1 h
    have E : Hid (get3 l = (z, b, true)) := by
      show _ = _
      unfold get3 mk3
      rw [hz, decide_eq_true hp]
      injection h with h2 h3
      injection h3 with h4 h5
      rw [h4]
    have hu := unz_in v0 v1
    injection h with h2 h3
    injection h3 with h4 h5
    subst h5
    have U := Lib.hid (show unzigL z = a ∧ unzOk z = true from ⟨hu.1.trans h2, hu.2⟩)
    clear h2 h4 hu hk hp hz kl h1 hb
    go_enter Try.func58, Try.ntmps58
    go_wp2_with fail
    refine (getVI_atC A n c l z b true w HR.out.1 HR.out.2 E.out).mono ?_
    rintro e w1 ⟨rfl, g1⟩
    go_wp2_with fail
    refine (unzI_at z a true _ U.out.1 U.out.2).mono ?_
    rintro e w2 ⟨rfl, rfl⟩
    go_wp2
    go_ret3
    exact ⟨rfl, g1⟩
  · rw [if_neg hp] at h
    injection h with h2 h3
    injection h3 with h4 h5
    subst h2 h4 h5
    have E : Hid (get3 l = ((getV l).1, (getV l).2, false)) := by
      show _ = _
      unfold get3 mk3
      rw [decide_eq_false hp]
    clear hp h1 hb
    go_enter Try.func58, Try.ntmps58
    go_wp2_with fail
    refine (getVI_atC A n c l _ _ false w HR.out.1 HR.out.2 E.out).mono ?_
    rintro e w1 ⟨rfl, g1⟩
    go_wp2
    go_ret3
    exact ⟨rfl, g1⟩
set_option maxHeartbeats 3200000 in
theorem unpI_at (A : Option Addr) (n c : Nat) (l : List Int) (L : List Pt) (ok : Bool) (w : World) (h : Rd w 1 A n c (bc l)) (hb : By l) (hv : unpV l = (L, ok)) :
    Calls Try.prog 22 #[.slice A n c] w (Unpacked L ok w) := by
  have hlen : l.length = n := by have := h.len; rw [bc_len] at this; omega
  match l with
  | [] =>
    obtain ⟨rfl, rfl⟩ : [] = L ∧ false = ok := by injection hv with a b; exact ⟨a, b⟩
    have h0 : n = 0 := by simpa using hlen.symm
    subst h0
    clear hv hlen
    go_enter Try.func22, Try.ntmps22
    go_wp2
    go_ret2
    exact ⟨none, 0, rfl, World.ownsRow_nil _ _ _ _, g_refl _ _⟩
  | c0 :: r0 =>
    obtain ⟨b0, b1⟩ := hb c0 List.mem_cons_self
    have hn0 : 0 < n := by rw [← hlen]; simp
    have hnz : ((n : Int) == 0) = false := by rw [beq_eq_false_iff_ne]; omega
    obtain ⟨bl, ol, rfl, hc⟩ := h.cells (i := 0) hn0
    have cc := hc 0 _ (bc_at (l := c0 :: r0) (i := 0) (x := c0) rfl)
    simp only [Nat.add_zero] at cc
    have hn0' : (0 : Int) < (n : Int) := by omega
    by_cases h16 : 16 < c0
    · obtain ⟨rfl, rfl⟩ : [] = L ∧ false = ok := by
        have e : unpV (c0 :: r0) = ([], false) := unpV_none (by rw [unpO_cons, if_pos h16])
        rw [e] at hv
        injection hv with a b
        exact ⟨a, b⟩
      clear hv hlen hc
      go_enter Try.func22, Try.ntmps22
      go_wp2
      go_ret2
      exact ⟨none, 0, rfl, World.ownsRow_nil _ _ _ _, g_refl _ _⟩
    · have hby : By r0 := fun x hx => hb x (List.mem_cons_of_mem _ hx)
      obtain ⟨m, rfl⟩ := Int.eq_ofNat_of_zero_le b0
      have hm16 : m ≤ 16 := by omega
      have hun : unpO ((m : Int) :: r0) = fineU (readP m r0) := by rw [unpO_cons, if_neg h16, Int.toNat_natCast]
      have hd16 : ¬ (16 : Int) < (m : Int) := h16
      have HU := Lib.hid (And.intro hun (And.intro hv hlen))
      have HB := Lib.hid hby
      have HN : Hid (r0.length = n - 1) := by show _ = _; simp at hlen; omega
      have hn1 : (1 : Int) ≤ (n : Int) := by omega
      have cc2 : (w.alloc (.cells #[.int .i64 0, .int .i64 0] 39)).cell? ⟨bl, ol, none⟩ = some (.int .u8 (m : Int)) := (g_alloc _ _ none).cell cc (by simp)
      clear hun hv hlen hc hb hby h16
      go_enter Try.func22, Try.ntmps22
      go_wp2_with (refine from_by rfl (.tmp 21) (.const (.int .i64 1)) rfl _ n c 1 _ _ w rfl rfl (by omega) h ?_; intro A1 R1)
      have R1' : Rd w 1 A1 r0.length (c - 1) (bc r0) := by
        have e := R1
        rw [show ((m : Int) :: r0).drop 1 = r0 from rfl, ← HN.out] at e
        exact e
      have B0 := Blk.new w 39 [.int .i64 0, .int .i64 0]
      have O0 := World.ownsRow_nil (w.alloc (.cells #[.int .i64 0, .int .i64 0] 39)) (w.heap.size + 1) 39 2
      have G0 := g_alloc w (.cells #[.int .i64 0, .int .i64 0] 39) none
      rw [← HN.out]
      clear R1 cc cc2
      go_loopw [4, 6, 7, 27] (fun o pa re i wr => ∃ (j : Nat) (ps : List (Int × Int)) (r : List Int) (A' Ao : Option Addr) (c' co : Nat) (T P V : Int), j ≤ m ∧ i = .int .i64 j ∧ pa = .int .i64 P ∧ re = .slice A' r.length c' ∧ o = .slice Ao (unzipL ps).length co ∧ (unzipL ps).length ≤ 16 ∧
        (-2000000 ≤ P ∧ P ≤ 2000000) ∧ (-40000000 ≤ T ∧ T ≤ 40000000) ∧ (-2000000 ≤ V ∧ V ≤ 2000000) ∧ Blk wr w.heap.size 39 [.int .i64 T, .int .i64 V] ∧ wr.ownsRow (w.heap.size + 1) 39 2 (.slice Ao (unzipL ps).length co) (unzipL ps).length (pc (unzipL ps)) ∧ w.grownBy wr none ∧
        Hid (Rd w 1 A' r.length c' (bc r)) ∧ Hid (ps.length = j ∧ okPairs ps ∧ By r ∧ unpF (m - j) ps r = readP m r0 ∧ P = totN (ps.map (·.1)) ∧ T = totN (sumL 0 (ps.map (·.1))) ∧ V = totN (ps.map (·.2)))) (fun _ _ _ i _ => m - (Go.RowKit.intOf i).toNat)
      case atStart => exact ⟨0, [], r0, A1, none, c - 1, 0, 0, 0, 0, Nat.zero_le _, rfl, rfl, rfl, rfl, by simp [unzipL, sumL], by omega, by omega, by omega, B0, O0, G0, R1', rfl, fun q hq => by simp at hq, HB.out, unpF_nil _ _, rfl, rfl, rfl⟩
      case round =>
        obtain ⟨j, ps, r, A', Ao, c', co, T, P, V, hj, rfl, rfl, rfl, rfl, hl16, hP, hT, hV, hblk, hown, hg, hR, hI⟩ := hrel
        clear B0 O0 G0 R1'
        by_cases hlt : j < m
        · have hlt' : (j : Int) < (m : Int) := by omega
          cases hz : getZ r with
          | none =>
            have hg3 := Lib.hid (gz3_none hz)
            obtain ⟨rfl, rfl⟩ : [] = L ∧ false = ok := by
              have e0 : readP m r0 = none := by rw [← hI.out.2.2.2.1, show m - j = (m - j - 1) + 1 by omega]; exact unpF_no1 hz
              have e : unpV ((m : Int) :: r0) = ([], false) := unpV_none (by rw [HU.out.1, e0]; rfl)
              have e2 := HU.out.2.1
              rw [e] at e2
              injection e2 with a b
              exact ⟨a, b⟩
            clear hz hP hT hV hblk hown
            go_wp2_with fail
            refine (getZI_at _ _ _ r 0 0 false _ (hR.out.keptN hg) hI.out.2.2.1 hg3.out).mono ?_
            rintro e w1 ⟨rfl, g1⟩
            have G1 := g_trans hg g1
            clear g1 hg
            go_wp2
            go_ret2
            exact ⟨none, 0, rfl, World.ownsRow_nil _ _ _ _, G1⟩
          | some q =>
            obtain ⟨a, r1⟩ := q
            obtain ⟨ha, -, hb1⟩ := getZ_inv hI.out.2.2.1 hz
            obtain ⟨k, hk3, hr1, k1, kl, k3⟩ := gz3_some hI.out.2.2.1 hz
            have hg3 := Lib.hid hk3
            have hr1l : r1.length = r.length - k := by rw [hr1, List.length_drop]
            have HR1 := Lib.hid hr1
            cases hz2 : getZ r1 with
            | none =>
              have hg4 := Lib.hid (gz3_none hz2)
              obtain ⟨rfl, rfl⟩ : [] = L ∧ false = ok := by
                have e0 : readP m r0 = none := by rw [← hI.out.2.2.2.1, show m - j = (m - j - 1) + 1 by omega]; exact unpF_no2 hz hz2
                have e : unpV ((m : Int) :: r0) = ([], false) := unpV_none (by rw [HU.out.1, e0]; rfl)
                have e2 := HU.out.2.1
                rw [e] at e2
                injection e2 with a b
                exact ⟨a, b⟩
              have HB1 := Lib.hid hb1
              clear hz hz2 hP hT hV hblk hown hk3 hr1 hb1
              go_wp2_with fail
              refine (getZI_at _ _ _ r a k true _ (hR.out.keptN hg) hI.out.2.2.1 hg3.out).mono ?_
              rintro e w1 ⟨rfl, g1⟩
              have G1 := g_trans hg g1
              clear g1 hg
              go_wp2_with (refine from_by rfl (.tmp 37) (.tmp 38) rfl _ r.length c' k r _ w rfl rfl kl hR.out ?_; intro A2 R2; rw [← HR1.out, ← hr1l] at R2; have R3 := Lib.hid R2; clear R2)
              refine (getZI_at _ _ _ r1 0 0 false _ (by first | exact R3.out.keptN G1 | (rw [← hr1l]; exact R3.out.keptN G1)) HB1.out hg4.out).mono ?_
              rintro e w2 ⟨rfl, g2⟩
              have G2 := g_trans G1 g2
              clear g2 G1
              go_wp2
              go_ret2
              exact ⟨none, 0, rfl, World.ownsRow_nil _ _ _ _, G2⟩
            | some q =>
              obtain ⟨b, r2⟩ := q
              obtain ⟨hbb, -, hb2⟩ := getZ_inv hb1 hz2
              obtain ⟨k2, hk4, hr2, k5, kl2, k6⟩ := gz3_some hb1 hz2
              have hg4 := Lib.hid hk4
              have hr2l : r2.length = r1.length - k2 := by rw [hr2, List.length_drop]
              have HR2 := Lib.hid hr2
              have HB1 := Lib.hid hb1
              have HU2 : Hid (unpF (m - (j + 1)) (ps ++ [(a, b)]) r2 = readP m r0) := by
                show _ = _
                rw [← hI.out.2.2.2.1, show m - j = (m - (j + 1)) + 1 by omega]
                exact (unpF_step hz hz2).symm
              have hps : (ps ++ [(a, b)]).length = j + 1 := by rw [List.length_append, hI.out.1]; rfl
              have hokp := okPairs_snoc hI.out.2.1 ha hbb
              have hbd := pairs_bd hokp (by omega)
              rw [tot_map_snoc1, tot_map_snoc2, tot_sum_snoc] at hbd
              obtain ⟨e1, e2, e3⟩ := hI.out.2.2.2.2
              rw [← e1, ← e2, ← e3] at hbd
              have hun := unzip_snoc ps a b
              rw [← e1, ← e2, ← e3] at hun
              have HI3 : Hid ((ps ++ [(a, b)]).length = j + 1 ∧ okPairs (ps ++ [(a, b)]) ∧ By r2 ∧ unpF (m - (j + 1)) (ps ++ [(a, b)]) r2 = readP m r0 ∧ P + a = totN ((ps ++ [(a, b)]).map (·.1)) ∧ T + (P + a) = totN (sumL 0 ((ps ++ [(a, b)]).map (·.1))) ∧ V + b = totN ((ps ++ [(a, b)]).map (·.2))) :=
                ⟨hps, hokp, hb2, HU2.out, by rw [tot_map_snoc1, e1], by rw [tot_sum_snoc, e1, e2], by rw [tot_map_snoc2, e3]⟩
              have HUN := Lib.hid hun
              have HLN : Hid ((unzipL (ps ++ [(a, b)])).length ≤ 16) := by show _ ≤ _; rw [unzip_len, hps]; omega
              have hw1 : IntKind.i64.wrap (P + a) = P + a := IntWalk.i64_in _ (by omega)
              have hw2 : IntKind.i64.wrap (T + (P + a)) = T + (P + a) := IntWalk.i64_in _ (by omega)
              have hw3 : IntKind.i64.wrap (V + b) = V + b := IntWalk.i64_in _ (by omega)
              clear hz hz2 hk3 hr1 hb1 hk4 hr2 hb2 hun hokp hps e1 e2 e3 HU2
              go_wp2_with fail
              refine (getZI_at _ _ _ r a k true _ (hR.out.keptN hg) hI.out.2.2.1 hg3.out).mono ?_
              rintro e w1 ⟨rfl, g1⟩
              have G1 := g_trans hg g1
              have bk1 := hblk.keptN g1
              have ow1 := own_keptN hown g1
              clear g1 hg hblk hown
              go_wp2_with (refine from_by rfl (.tmp 37) (.tmp 38) rfl _ r.length c' k r _ w rfl rfl kl hR.out ?_; intro A2 R2; rw [← HR1.out, ← hr1l] at R2; have R3 := Lib.hid R2; clear R2)
              refine (getZI_at _ _ _ r1 b k2 true _ (by first | exact R3.out.keptN G1 | (rw [← hr1l]; exact R3.out.keptN G1)) HB1.out hg4.out).mono ?_
              rintro e w2 ⟨rfl, g2⟩
              have G2 := g_trans G1 g2
              have bk2 := bk1.keptN g2
              have ow2 := own_keptN ow1 g2
              have d0 := bk2.cell 0
              have d1 := bk2.cell 1
              have f0 := bk2.free 0
              have f1 := bk2.free 1
              simp only [List.getElem?_cons_zero, List.getElem?_cons_succ] at d0 d1
              clear g2 G1 bk1 ow1
              have HBK := Lib.hid ((bk2.set 0 (.int .i64 (T + (P + a)))).set 1 (.int .i64 (V + b)))
              have g3 : w2.grownBy ((w2.setCell ⟨w.heap.size, 0, none⟩ (.int .i64 (T + (P + a)))).setCell ⟨w.heap.size, 1, none⟩ (.int .i64 (V + b))) (some w.heap.size) := g_trans (g_set _ _ _) (g_set _ _ _)
              have HG3 := Lib.hid (show w.grownBy ((w2.setCell ⟨w.heap.size, 0, none⟩ (.int .i64 (T + (P + a)))).setCell ⟨w.heap.size, 1, none⟩ (.int .i64 (V + b))) none from g_new G2 g3 (fun g e => by injection e with e; omega))
              have HOW := Lib.hid (own_kept ow2 g3 (fun g e => by injection e with e; omega))
              have HSZ := Lib.hid (show w.heap.size + 1 ≤ ((w2.setCell ⟨w.heap.size, 0, none⟩ (.int .i64 (T + (P + a)))).setCell ⟨w.heap.size, 1, none⟩ (.int .i64 (V + b))).heap.size from Nat.lt_of_lt_of_le bk2.lt g3.size)
              have HRL := Lib.hid (show r2.length = r.length - k - k2 by omega)
              clear bk2 ow2 g3 G2
              go_wp2_with (first
                | (refine from_by rfl (.tmp 48) (.tmp 49) rfl _ r1.length _ k2 r1 _ w (by first | rfl | simp [Act.eval, hr1l]) rfl kl2 R3.out ?_; intro A4 R4; rw [← HR2.out, ← hr2l] at R4; have R5 := Lib.hid R4; clear R4)
                | (at_builtin; refine app_pt rfl (.tmp 63) (.tmp 65) rfl (w.heap.size + 1) (unzipL ps) ((w2.setCell ⟨w.heap.size, 0, none⟩ (.int .i64 (T + (P + a)))).setCell ⟨w.heap.size, 1, none⟩ (.int .i64 (V + b))) (T + (P + a)) (V + b) Ao co rfl HOW.out (by simp [Act.eval]) (by omega) HSZ.out ?_; intro A6 c6 w6 o6 g6 _; rw [← HUN.out] at o6 ⊢))
              have HBK6 := Lib.hid (HBK.out.kept g6 (fun e => by have := own_new HOW.out _ e; omega))
              have HG6 := Lib.hid (g_new HG3.out g6 (fun g e => by have := own_new HOW.out g e; omega))
              clear d0 d1 f0 f1 g6
              go_roundw
              case rel => exact ⟨j + 1, ps ++ [(a, b)], r2, A4, A6, _, c6, T + (P + a), P + a, V + b, by omega, by go_num, rfl, by rw [HRL.out], rfl, HLN.out, by omega, by omega, by omega, HBK6.out, o6, HG6.out, R5, HI3⟩
              case measure => simp [Go.RowKit.intOf]; omega
        · have hge : ¬ (j : Int) < (m : Int) := by omega
          have hjm : j = m := by omega
          have e0 : readP m r0 = some (ps, r) := by rw [← hI.out.2.2.2.1, hjm, Nat.sub_self, unpF_zero]
          have eU : unpO ((m : Int) :: r0) = fineU (some (ps, r)) := by rw [HU.out.1, e0]
          have RO := Lib.hid (Rd.own hown)
          have O1 := Lib.hid (own_le (base' := w.heap.size) hown (by omega))
          by_cases hr0 : 0 < r.length
          · obtain ⟨rfl, rfl⟩ : [] = L ∧ false = ok := by
              have e : unpV ((m : Int) :: r0) = ([], false) := unpV_none (by rw [eU, fineU_more hr0])
              have e2 := HU.out.2.1
              rw [e] at e2
              injection e2 with a b
              exact ⟨a, b⟩
            have hr0' : (0 : Int) < (r.length : Int) := by omega
            clear eU e0 hP hT hV hblk hown
            go_wp2
            go_ret2
            exact ⟨none, 0, rfl, World.ownsRow_nil _ _ _ _, hg⟩
          · have hrn : r = [] := List.eq_nil_of_length_eq_zero (by omega)
            subst hrn
            cases hvl : validL (unzipL ps) with
            | false =>
              obtain ⟨rfl, rfl⟩ : [] = L ∧ false = ok := by
                have e : unpV ((m : Int) :: r0) = ([], false) := unpV_none (by rw [eU, fineU_bad hvl])
                have e2 := HU.out.2.1
                rw [e] at e2
                injection e2 with a b
                exact ⟨a, b⟩
              have HVL := Lib.hid hvl
              clear eU e0 hP hT hV hblk hown hvl hr0
              go_wp2_with fail
              refine (validI_at _ _ _ _ false _ RO.out HVL.out).mono ?_
              rintro e w1 ⟨rfl, g1⟩
              have G1 := g_trans hg g1
              clear g1 hg
              go_wp2
              go_ret2
              exact ⟨none, 0, rfl, World.ownsRow_nil _ _ _ _, G1⟩
            | true =>
              obtain ⟨rfl, rfl⟩ : unzipL ps = L ∧ true = ok := by
                have e : unpV ((m : Int) :: r0) = (unzipL ps, true) := unpV_some (by rw [eU, fineU_yes hvl])
                have e2 := HU.out.2.1
                rw [e] at e2
                injection e2 with a b
                exact ⟨a, b⟩
              have HVL := Lib.hid hvl
              clear eU e0 hP hT hV hblk hown hvl hr0
              go_wp2_with fail
              refine (validI_at _ _ _ _ true _ RO.out HVL.out).mono ?_
              rintro e w1 ⟨rfl, g1⟩
              have G1 := g_trans hg g1
              have O2 := Lib.hid (own_keptN O1.out g1)
              clear g1 hg
              go_wp2
              go_ret2
              exact ⟨Ao, co, rfl, O2.out, G1⟩
end Go.Proofs.Ytcgeagcfhjdpcaa
