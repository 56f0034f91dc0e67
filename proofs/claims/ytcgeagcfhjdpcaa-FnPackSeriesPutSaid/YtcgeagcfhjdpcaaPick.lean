/- The contract of reader.pick. -/
import Derived.Test.YtcgeagcfhjdpcaaProg
import Derived.Test.YtcgeagcfhjdpcaaWords
import Derived.Laws.BitsAllLaws
namespace Go.Proofs.Ytcgeagcfhjdpcaa
set_option linter.unusedVariables false
open Go.RowKit

/-- The reader at block R stands at place p. -/
def Rdr (w : World) (R : Nat) (p : Int) : Prop := ∃ (A : Option Addr) (n c : Nat) (l : List Int), Blk w R 69 [.slice A n c, .int .i64 p] ∧ Rd w 1 A n c (bc l) ∧ By l ∧ (0 < n → ∀ a, A = some a → a.block < R) ∧ n ≤ 2000 ∧ 0 ≤ p

theorem Rdr.kept {w w' : World} {R : Nat} {p : Int} (h : Rdr w R p) (hg : w.grownBy w' none) : Rdr w' R p := by
  obtain ⟨A, n, c, l, h1, h2, h3, h4, h5, h6⟩ := h
  exact ⟨A, n, c, l, h1.keptN hg, h2.keptN hg, h3, h4, h5, h6⟩

theorem Rdr.step {w : World} {R : Nat} {p q : Int} (h : Rdr w R p) (hq : 0 ≤ q) : Rdr (w.setCell ⟨R, 1, none⟩ (.int .i64 q)) R q := by
  obtain ⟨A, n, c, l, h1, h2, h3, h4, h5, h6⟩ := h
  refine ⟨A, n, c, l, ?_, h2.kept (g_set _ _ _) (fun hn a ha e => Nat.ne_of_lt (h4 hn a ha) (by injection e with e; exact e.symm)), h3, h4, h5, hq⟩
  have := h1.set 1 (.int .i64 q)
  simpa using this

theorem ofInt_nat (a : Nat) (ha : a < 9223372036854775808) : (BitVec.ofInt 64 (a : Int)).toNat = a := by
  rw [BitVec.ofInt_natCast, BitVec.toNat_ofNat]; exact Nat.mod_eq_of_lt (by omega)
theorem xor_nonneg (a b : Int) (ha : 0 ≤ a) (ha2 : a < 9223372036854775808) (hb : 0 ≤ b) (hb2 : b < 9223372036854775808) : 0 ≤ bits .xor .i64 a b := by
  obtain ⟨a, rfl⟩ := Int.eq_ofNat_of_zero_le ha
  obtain ⟨b, rfl⟩ := Int.eq_ofNat_of_zero_le hb
  have hx : a ^^^ b < 2 ^ 63 := Nat.xor_lt_two_pow (by omega) (by omega)
  show 0 ≤ IntKind.i64.wrap ((BitVec.ofInt 64 (a : Int) ^^^ BitVec.ofInt 64 (b : Int)).toNat : Int)
  rw [BitVec.toNat_xor, ofInt_nat a (by omega), ofInt_nat b (by omega), IntKind.wrap_i64]
  omega

theorem pick_small (R : Nat) (n p : Int) (w : World) (h : Rdr w R p) (hp : p ≤ 1000000000) (hn : n < 1) :
    Calls Try.prog 60 #[.pointer (some ⟨R, 0, none⟩), .int .i64 n] w fun e w' => e = .returned (.int .i64 0) ∧ w.setCell ⟨R, 1, none⟩ (.int .i64 (p + 1)) = w' := by
  obtain ⟨A, m, c, l, h1, h2, h3, h4, h5, h6⟩ := h
  have c0 := h1.cell 0
  have c1 := h1.cell 1
  have f1 := h1.free 1
  simp at c0 c1
  go_enter Try.func60, Try.ntmps60
  go_wp2
  go_ret
  exact ⟨rfl, rfl⟩

theorem pick_empty (R : Nat) (n p : Int) (w : World) (A : Option Addr) (c : Nat) (h1 : Blk w R 69 [.slice A 0 c, .int .i64 p]) (h6 : 0 ≤ p) (hp : p ≤ 1000000000) (hn : 1 ≤ n) :
    Calls Try.prog 60 #[.pointer (some ⟨R, 0, none⟩), .int .i64 n] w fun e w' => e = .returned (.int .i64 0) ∧ w.setCell ⟨R, 1, none⟩ (.int .i64 (p + 1)) = w' := by
  have c0 := h1.cell 0
  have c1 := h1.cell 1
  have f1 := h1.free 1
  simp at c0 c1
  go_enter Try.func60, Try.ntmps60
  go_wp2
  go_ret
  exact ⟨rfl, rfl⟩

theorem pick_byte (R : Nat) (n : Int) (p : Nat) (w : World) (b o m c : Nat) (x : Int) (h1 : Blk w R 69 [.slice (some ⟨b, o, none⟩) m c, .int .i64 p]) (hne : b ≠ R)
    (hx : w.cell? ⟨b, o + p, none⟩ = some (.int .u8 x)) (x0 : 0 ≤ x) (x1 : x ≤ 255) (hm : m ≤ 2000) (hp : p < m) (hn : 1 ≤ n) (hn2 : n ≤ 1000000000) :
    Calls Try.prog 60 #[.pointer (some ⟨R, 0, none⟩), .int .i64 n] w fun e w' => e = .returned (.int .i64 (x % n)) ∧ w.setCell ⟨R, 1, none⟩ (.int .i64 (p + 1)) = w' := by
  have c0 := h1.cell 0
  have c1 := h1.cell 1
  have f1 := h1.free 1
  simp at c0 c1
  have hn' : decide (n < 1) = false := by simp; omega
  have hm' : ((m : Int) == 0) = false := by simp; omega
  have hp' : (p : Int) < (m : Int) := by omega
  go_enter Try.func60, Try.ntmps60
  go_wp2
  go_ret
  exact ⟨rfl, rfl⟩

theorem pick_mix (R : Nat) (n : Int) (p i j d : Nat) (w : World) (b o m c : Nat) (x y : Int) (h1 : Blk w R 69 [.slice (some ⟨b, o, none⟩) m c, .int .i64 p]) (hne : b ≠ R)
    (hi : i < m) (hj : j < m) (hd : d ≤ p) (q1 : ((p : Int)).tmod (m : Int) = (i : Int)) (q4 : ((p : Int) * 7 + 3).tmod (m : Int) = (j : Int)) (q5 : ((p : Int)).tdiv (m : Int) = (d : Int))
    (hx : w.cell? ⟨b, o + i, none⟩ = some (.int .u8 x)) (x0 : 0 ≤ x) (x1 : x ≤ 255) (hy : w.cell? ⟨b, o + j, none⟩ = some (.int .u8 y)) (y0 : 0 ≤ y) (y1 : y ≤ 255) (hm : m ≤ 2000) (hm1 : 1 ≤ m) (hp : m ≤ p) (hp2 : p ≤ 1000000000) (hn : 1 ≤ n) (hn2 : n ≤ 1000000000) :
    Calls Try.prog 60 #[.pointer (some ⟨R, 0, none⟩), .int .i64 n] w fun e w' => ∃ z, e = .returned (.int .i64 z) ∧ 0 ≤ z ∧ z < n ∧ ∃ k, (w.setCell ⟨R, 1, none⟩ (.int .i64 (p + 1))).drewN k = w' := by
  have c0 := h1.cell 0
  have c1 := h1.cell 1
  have f1 := h1.free 1
  simp at c0 c1
  have hn' : decide (n < 1) = false := by simp; omega
  have hm' : ((m : Int) == 0) = false := by simp; omega
  have hm0 : ¬ m = 0 := by omega
  have hp' : decide ((p : Int) < (m : Int)) = false := by simp; omega
  have q2 : IntKind.i64.wrap ((p : Int) * 7) = (p : Int) * 7 := IntWalk.i64_in _ (by omega)
  have q3 : IntKind.i64.wrap ((p : Int) * 7 + 3) = (p : Int) * 7 + 3 := IntWalk.i64_in _ (by omega)
  have r1 : IntKind.i64.wrap (x * 131) = x * 131 := IntWalk.i64_in _ (by omega)
  have r2 : IntKind.i64.wrap (y * 1117) = y * 1117 := IntWalk.i64_in _ (by omega)
  have r3 : IntKind.i64.wrap (x * 131 + y * 1117) = x * 131 + y * 1117 := IntWalk.i64_in _ (by omega)
  have r4 : IntKind.i64.wrap ((p : Int) * 29) = (p : Int) * 29 := IntWalk.i64_in _ (by omega)
  have r5 : IntKind.i64.wrap (x * 131 + y * 1117 + (p : Int) * 29) = x * 131 + y * 1117 + (p : Int) * 29 := IntWalk.i64_in _ (by omega)
  have r6 : IntKind.i64.wrap (d : Int) = (d : Int) := IntWalk.i64_in _ (by omega)
  have r7 : IntKind.i64.wrap ((d : Int) * 53) = (d : Int) * 53 := IntWalk.i64_in _ (by omega)
  have r8 : IntKind.i64.wrap (x * 131 + y * 1117 + (p : Int) * 29 + (d : Int) * 53) = x * 131 + y * 1117 + (p : Int) * 29 + (d : Int) * 53 := IntWalk.i64_in _ (by omega)
  go_enter Try.func60, Try.ntmps60
  go_wp2
  go_quiet (fail)
  clear q1 q2 q3 q4 q5 r1 r2 r3 r4 r5 r6 r7 r8
  go_wp2
  go_ret
  have hz := xor_nonneg (x * 131 + y * 1117 + (p : Int) * 29 + (d : Int) * 53) ((x * 131 + y * 1117 + (p : Int) * 29 + (d : Int) * 53) / 64) (by omega) (by omega) (by omega) (by omega)
  refine ⟨_, rfl, Int.tmod_nonneg _ hz, Int.tmod_lt_of_pos _ (by omega), nq, rfl⟩

/-- reader.pick: some number below n (0 where n is less than 1); the reader stands one further. -/
theorem pick_any (R : Nat) (n p : Int) (w : World) (h : Rdr w R p) (hp : p ≤ 1000000000) (hn : n ≤ 1000000000) :
    Calls Try.prog 60 #[.pointer (some ⟨R, 0, none⟩), .int .i64 n] w fun e w' => ∃ z, e = .returned (.int .i64 z) ∧ 0 ≤ z ∧ (z = 0 ∨ z < n) ∧ Rdr w' R (p + 1) ∧ w.grownBy w' (some R) := by
  have hR := h.step (q := p + 1) (by obtain ⟨_, _, _, _, _, _, _, _, _, h6⟩ := h; omega)
  have hG : w.grownBy (w.setCell ⟨R, 1, none⟩ (.int .i64 (p + 1))) (some R) := g_set _ _ _
  by_cases hn1 : n < 1
  · refine (pick_small R n p w h hp hn1).mono ?_
    rintro e w' ⟨rfl, rfl⟩
    exact ⟨0, rfl, by omega, .inl rfl, hR, hG⟩
  obtain ⟨A, m, c, l, h1, h2, h3, h4, h5, h6⟩ := h
  by_cases hm : m = 0
  · subst hm
    refine (pick_empty R n p w A c h1 h6 hp (by omega)).mono ?_
    rintro e w' ⟨rfl, rfl⟩
    exact ⟨0, rfl, by omega, .inl rfl, hR, hG⟩
  obtain ⟨b, o, rfl, hc⟩ := h2.at_ (by omega)
  have hl : l.length = m := by have := h2.len; rw [bc_len] at this; omega
  have hne : b ≠ R := Nat.ne_of_lt (h4 (by omega) _ rfl)
  obtain ⟨p, rfl⟩ := Int.eq_ofNat_of_zero_le h6
  by_cases hpm : p < m
  · obtain ⟨x, hx, _⟩ := get_ex (l := l) (i := p) (by omega)
    have hb := h3.at_ hx
    refine (pick_byte R n p w b o m c x h1 hne (hc _ _ (bc_at hx)) hb.1 hb.2 h5 hpm (by omega) hn).mono ?_
    rintro e w' ⟨rfl, rfl⟩
    exact ⟨_, rfl, Int.emod_nonneg _ (by omega), .inr (Int.emod_lt_of_pos _ (by omega)), hR, hG⟩
  · have hi := Nat.mod_lt p (show m > 0 by omega)
    have hj := Nat.mod_lt (p * 7 + 3) (show m > 0 by omega)
    obtain ⟨x, hx, _⟩ := get_ex (l := l) (i := p % m) (by omega)
    obtain ⟨y, hy, _⟩ := get_ex (l := l) (i := (p * 7 + 3) % m) (by omega)
    have hb := h3.at_ hx
    have hb2 := h3.at_ hy
    refine (pick_mix R n p (p % m) ((p * 7 + 3) % m) (p / m) w b o m c x y h1 hne hi hj (Nat.div_le_self _ _) (by rw [Int.tmod_eq_emod_of_nonneg (by omega)]; rfl) (by rw [Int.tmod_eq_emod_of_nonneg (by omega)]; rfl) (by rw [Int.tdiv_eq_ediv_of_nonneg (by omega)]; rfl)
      (hc _ _ (bc_at hx)) hb.1 hb.2 (hc _ _ (bc_at hy)) hb2.1 hb2.2 h5 (by omega) (by omega) (by omega) (by omega) hn).mono ?_
    rintro e w' ⟨z, rfl, z0, z1, k, rfl⟩
    exact ⟨z, rfl, z0, .inr z1, hR.kept (g_drewN _ _ _), g_trans hG (g_drewN _ _ _)⟩

/-- a list of numbers that has just been built -/
theorem lit_rd (w : World) (l : List Int) (t : TypeId) (h : l.length ≤ 1000) : Rd (w.alloc (.cells (ic l).toArray t)) 1 (some ⟨w.heap.size, 0, none⟩) l.length l.length (ic l) := by
  have := World.ownsRow_lit (base := 0) (e := t) (size := 1) w (ic l).toArray l.length (Nat.zero_le _) (by simp only [maxLen]; omega) (by simp [ic])
  have := Rd.own this
  simpa using this

/-- reader.one: some number of the list. -/
theorem one_any (R : Nat) (p : Int) (A : Option Addr) (n c : Nat) (l : List Int) (w : World) (h : Rdr w R p) (hp : p ≤ 1000000000) (hl : Rd w 1 A n c (ic l)) (hne : ∀ a, A = some a → a.block ≠ R) (hn : 1 ≤ n) (hn2 : n ≤ 1000) :
    Calls Try.prog 75 #[.pointer (some ⟨R, 0, none⟩), .slice A n c] w fun e w' => ∃ x, e = .returned (.int .i64 x) ∧ x ∈ l ∧ Rdr w' R (p + 1) ∧ w.grownBy w' (some R) := by
  have ll : l.length = n := by have := hl.len; rw [ic_len] at this; omega
  have LL := Lib.hid ll
  clear ll
  go_enter Try.func75, Try.ntmps75
  go_wp2_with fail
  refine (pick_any R _ p _ h hp (by omega)).mono ?_
  rintro e w1 ⟨z, rfl, z0, z1, hr, hg⟩
  obtain ⟨k, rfl⟩ := Int.eq_ofNat_of_zero_le z0
  have hk : k < n := by omega
  obtain ⟨x, hx, _⟩ := get_ex (l := l) (i := k) (by have := LL.out; omega)
  obtain ⟨b, o, rfl, hc⟩ := (hl.kept hg (fun _ a ha e => hne a ha (by injection e with e; exact e.symm))).cells hk
  have cx := hc _ _ (ic_at hx)
  have HX := Lib.hid (And.intro hx hr)
  clear hc hx z1 h hl hr
  go_wp2
  go_ret
  exact ⟨x, rfl, List.mem_of_getElem? HX.out.1, HX.out.2, hg⟩

theorem Rdr.lt {w : World} {R : Nat} {p : Int} (h : Rdr w R p) : R < w.heap.size := by
  obtain ⟨A, m, c, l, h1, _⟩ := h
  exact h1.lt
/-- reader.one of a list that has just been built -/
theorem one_lit (R : Nat) (p : Int) (l : List Int) (t : TypeId) (w : World) (h : Rdr w R p) (hp : p ≤ 1000000000) (hl : 1 ≤ l.length) (hl2 : l.length ≤ 1000) :
    Calls Try.prog 75 #[.pointer (some ⟨R, 0, none⟩), .slice (some ⟨w.heap.size, 0, none⟩) l.length l.length] (w.alloc (.cells (ic l).toArray t)) fun e w' => ∃ x, e = .returned (.int .i64 x) ∧ x ∈ l ∧ Rdr w' R (p + 1) ∧ w.grownBy w' (some R) := by
  refine (one_any R p _ _ _ l _ (h.kept (g_alloc _ _ _)) hp (lit_rd w l t hl2) (fun a ha => ?_) hl hl2).mono ?_
  · injection ha with ha
    subst ha
    have := h.lt
    show w.heap.size ≠ R
    omega
  · rintro e w' ⟨x, rfl, hx, hr, hg⟩
    exact ⟨x, rfl, hx, hr, g_trans (g_alloc _ _ _) hg⟩

/-- newReader: a reader at a new block, at place 0. -/
theorem newReader_any (A : Option Addr) (n c : Nat) (l : List Int) (w : World) (h : Rd w 1 A n c (bc l)) (hb : By l) (hn : n ≤ 1048576) :
    Calls Try.prog 53 #[.slice A n c] w fun e w' => e = .returned (.pointer (some ⟨w.heap.size, 0, none⟩)) ∧ Rdr w' w.heap.size 0 ∧ w.grownBy w' none := by
  have hlt := h.lt (by omega)
  have hcap := h.cap
  have hlim := h.lim
  by_cases h2 : 2000 < n
  · have H := Lib.hid h
    have HL := Lib.hid hlt
    clear h hlt
    have h2' : (2000 : Int) < (n : Int) := by omega
    go_enter Try.func53, Try.ntmps53
    go_wp2
    go_ret
    refine ⟨rfl, ⟨A, 2000, c, l.take 2000, Blk.new w _ [_, _], ?_, fun x hx => hb x (List.mem_of_mem_take hx), fun _ a ha => ?_, by omega, by omega⟩, g_alloc _ _ _⟩
    · refine Rd.keptN ?_ (g_alloc _ _ _)
      obtain ⟨b, o, e, hc⟩ := H.out.at_ (by omega)
      have hl := H.out.len
      refine ⟨by rw [bc_len] at hl ⊢; rw [List.length_take]; omega, by omega, hlim, H.out.non, fun _ => ⟨b, o, e, fun j u hu => hc j u ?_⟩⟩
      unfold bc at hu ⊢
      rw [List.map_take, List.getElem?_take] at hu
      split at hu
      · exact hu
      · cases hu
    · have := HL.out (by omega) a ha
      omega
  · have H := Lib.hid h
    have HL := Lib.hid hlt
    clear h hlt
    have h2' : ¬ (2000 : Int) < (n : Int) := by omega
    go_enter Try.func53, Try.ntmps53
    go_wp2
    go_ret
    refine ⟨rfl, ⟨A, n, c, l, Blk.new w _ [_, _], H.out.keptN (g_alloc _ _ _), hb, fun hn a ha => ?_, by omega, by omega⟩, g_alloc _ _ _⟩
    have := HL.out hn a ha
    omega
end Go.Proofs.Ytcgeagcfhjdpcaa
