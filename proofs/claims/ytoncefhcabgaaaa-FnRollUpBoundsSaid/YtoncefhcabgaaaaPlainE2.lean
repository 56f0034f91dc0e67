/- Plain laws of rolled-up series: valid, rolled up twice, one bucket for each point, parts. -/
import Derived.Test.YtoncefhcabgaaaaGrp
import Derived.Test.YtoncefhcabgaaaaBvl
import Derived.Test.YtoncefhcabgaaaaBkv
import Derived.Test.YtoncefhcabgaaaaRoll
namespace Go.Proofs.Ytoncefhcabgaaaa
set_option linter.unusedVariables false
open Go.RowKit

theorem bkt_okC {W : Int} {l : List Pt} (hW : 1 ≤ W) (h : validL l = true) : ∀ b ∈ l.map (bktOf W), okC W b := by
  intro b hb
  obtain ⟨p, hp, rfl⟩ := List.mem_map.1 hb
  have hp2 := ((validL_iff l).1 h).2.1 p hp
  have hf := flr_ok hW hp2.1
  unfold flr at hf
  unfold okC bktOf
  simp only
  omega
theorem bkt_up {W : Int} {l : List Pt} (hW : 1 ≤ W) (h : validL l = true) : UpB (l.map (bktOf W)) := by
  have ha := ((validL_iff l).1 h).2.2
  exact List.pairwise_map.2 (ha.imp fun {a b} hab => flr_mono hW (show a.1 ≤ b.1 by have := hab; omega))
theorem mem_cnt {m : List Bk} (h : ∀ b ∈ m, 0 ≤ b.2.1) : 0 ≤ cntB m ∧ ∀ b ∈ m, b.2.1 ≤ cntB m := by
  induction m with
  | nil => simp [cntB]
  | cons a m ih =>
    have h0 := ih (fun b hb => h b (List.mem_cons_of_mem _ hb))
    have ha := h a List.mem_cons_self
    unfold cntB
    refine ⟨by omega, fun b hb => ?_⟩
    rcases List.mem_cons.1 hb with rfl | hb
    · omega
    · have := h0.2 b hb
      omega
theorem cnt_bkt (W : Int) (l : List Pt) : cntB (l.map (bktOf W)) = l.length := by
  induction l with
  | nil => rfl
  | cons p l ih =>
    rw [List.map_cons]
    unfold cntB
    rw [ih]
    simp [bktOf]
    omega
theorem sum_bkt (W : Int) (l : List Pt) : sumB (l.map (bktOf W)) = sumV l := by
  induction l with
  | nil => rfl
  | cons p l ih =>
    rw [List.map_cons]
    unfold sumB sumV
    rw [ih]
    rfl
/-- the buckets of a valid series are valid -/
theorem roll_okC {W : Int} {l : List Pt} (hW : 1 ≤ W) (h : validL l = true) : (∀ b ∈ rollG W l, okC W b ∧ b.2.1 ≤ 16) ∧ AscB (rollG W l) ∧ (rollG W l).length ≤ 16 := by
  have hl := ((validL_iff l).1 h).1
  have hc := okC_grp (bkt_okC hW h)
  have hm := mem_cnt (m := rollG W l) (fun b hb => by have := (hc b hb).2.1; omega)
  have he : cntB (rollG W l) = l.length := by unfold rollG; rw [cntB_grp, cnt_bkt]
  refine ⟨fun b hb => ⟨hc b hb, ?_⟩, grp_asc (bkt_up hW h), Nat.le_trans roll_len hl⟩
  have := hm.2 b hb
  omega
theorem roll_ok {W : Int} {l : List Pt} (hW : 1 ≤ W ∧ W ≤ 100) (h : validL l = true) : okW W (rollG W l) = true := by
  obtain ⟨h1, h2, h3⟩ := roll_okC hW.1 h
  exact okW_iff.2 ⟨hW, okBs_iff.2 ⟨h3, fun b hb => ok_of_okC (h1 b hb).1 (by have := (h1 b hb).2; omega), h2⟩⟩
theorem flr_mul (V s : Int) : flr V s = V * (s / V) := by
  unfold flr
  rw [Int.emod_def]
  omega
theorem flr_flr {W T t : Int} (hW : 1 ≤ W) : flr (W * T) (flr W t) = flr (W * T) t := by
  rw [flr_mul, flr_mul W, flr_mul (W * T) t, Int.mul_ediv_mul_of_pos _ _ (show 0 < W by omega), ← Int.ediv_ediv_of_nonneg (show 0 ≤ W by omega)]
theorem coar_roll {W T : Int} {l : List Pt} (hW : 1 ≤ W) (hT : 1 ≤ T) (hT2 : T ≤ 100) (hV : W * T ≤ 100) (h : validL l = true) : coarV W T (rollG W l) = (rollG (W * T) l, true) := by
  have hV1 := mul_ge hW hT
  have hWV : W ≤ W * T := by
    have := Int.mul_le_mul_of_nonneg_left (c := W) hT (show 0 ≤ W by omega)
    rw [Int.mul_one] at this
    exact this
  have hok := roll_ok (W := W) ⟨hW, by omega⟩ h
  have hg : coarG (W * T) (rollG W l) = rollG (W * T) l := by
    unfold coarG rollG
    rw [grp_re, List.map_map]
    congr 1
    refine List.map_congr_left fun p _ => ?_
    show reB (flr (W * T)) (flr W p.1, 1, p.2, p.2, p.2) = (flr (W * T) p.1, 1, p.2, p.2, p.2)
    unfold reB
    rw [flr_flr hW]
  rw [coarV_yes (coarC_iff.2 ⟨okW_iff.1 hok, ⟨hT, hT2⟩, hV⟩), hg, if_pos]
  refine cntOk_iff.2 fun b hb => ?_
  have := ((roll_okC hV1 h).1 b hb).2
  omega
def oneB (p : Pt) : Bk := (p.1, 1, p.2, p.2, p.2)
theorem roll_one {l : List Pt} (h : validL l = true) : rollV 1 l = l.map oneB := by
  rw [rollV_yes ⟨by omega, h⟩]
  have hm : l.map (bktOf 1) = l.map oneB := List.map_congr_left fun p _ => by
    unfold bktOf oneB
    rw [Int.emod_one, Int.sub_zero]
  unfold rollG
  rw [hm]
  exact grp_self (List.pairwise_map.2 (((validL_iff l).1 h).2.2.imp fun {a b} hab => hab))
theorem start_of {l : List Bk} (h : UpB l) : ∀ b ∈ grp l, ∃ q ∈ l, q.1 = b.1 := by
  intro b hb
  obtain ⟨q, r, h1, h2⟩ := grp_of h b hb
  have hq : q ∈ ofB l b.1 := by rw [h1]; exact List.mem_cons_self
  unfold ofB at hq
  obtain ⟨h3, h4⟩ := List.mem_filter.1 hq
  exact ⟨q, h3, by simpa using h4⟩
/-- the buckets of two parts, merged, are the buckets of all -/
theorem mrg_roll {W : Int} {l : List Pt} (hW : 1 ≤ W ∧ W ≤ 100) (h : validL l = true) (k : Nat) :
    rollV W (l.take k) = rollG W (l.take k) ∧ rollV W (l.drop k) = rollG W (l.drop k) ∧ mrgV W (rollG W (l.take k)) (rollG W (l.drop k)) = (rollG W l, true) := by
  have ha := valid_sub h (List.take_sublist k l)
  have hb := valid_sub h (List.drop_sublist k l)
  refine ⟨rollV_yes ⟨hW, ha⟩, rollV_yes ⟨hW, hb⟩, ?_⟩
  have hg : grp (mrgL (rollG W (l.take k)) (rollG W (l.drop k))) = rollG W l := by
    rw [mrgL_app]
    · unfold rollG
      rw [grp_grp_app, grp_app_grp, ← List.map_append, List.take_append_drop]
    · intro x hx y hy
      obtain ⟨q, hq, e1⟩ := start_of (bkt_up hW.1 ha) x hx
      obtain ⟨r, hr, e2⟩ := start_of (bkt_up hW.1 hb) y hy
      obtain ⟨u, hu, rfl⟩ := List.mem_map.1 hq
      obtain ⟨v, hv, rfl⟩ := List.mem_map.1 hr
      rw [← e1, ← e2]
      have hp := ((validL_iff l).1 h).2.2
      rw [← List.take_append_drop k l] at hp
      have := (List.pairwise_append.1 hp).2.2 u hu v hv
      exact flr_mono hW.1 (by omega)
  rw [mrgV_yes (by rw [roll_ok hW ha, roll_ok hW hb]; rfl), hg, if_pos (roll_ok hW h)]
end Go.Proofs.Ytoncefhcabgaaaa
