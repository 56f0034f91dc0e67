/- Append onto a slice of the call's own, at the kinds of elements that the program has: one element, or a whole slice. -/
import Derived.Test.YtcgeagcfhjdpcaaProg
import Derived.Test.YtcgeagcfhjdpcaaSer
import Derived.Maps.AppendAt
import Derived.Laws.AppendOwnNone
import Derived.Deep.RegionHeld3
namespace Go.Proofs.Ytcgeagcfhjdpcaa
set_option linter.unusedVariables false
open Go.RowKit

theorem lit_own (w : World) (base : Nat) (e : TypeId) (size : Nat) (cs : List Value) (n : Nat) (hb : base ≤ w.heap.size) (hn : n ≤ 1000) (hs : cs.length = n * size) :
    (w.alloc (.cells cs.toArray e)).ownsRow base e size (.slice (some ⟨w.heap.size, 0, none⟩) n n) n cs := by
  have := World.ownsRow_lit (base := base) (e := e) (size := size) w cs.toArray n hb (by simp only [maxLen]; omega) (by simpa using hs)
  simpa using this
theorem lit_ownH (w : World) (base : Nat) (e : TypeId) (size : Nat) (cs : List Value) (n H : Nat) (hH : w.heap.size = H) (hb : base ≤ w.heap.size) (hn : n ≤ 1000) (hs : cs.length = n * size) :
    (w.alloc (.cells cs.toArray e)).ownsRow base e size (.slice (some ⟨H, 0, none⟩) n n) n cs := by
  subst hH
  exact lit_own w base e size cs n hb hn hs
/-- where a value lies that an append has made: where the old one lay, or in a new block -/
def Lies (w : World) (v v' : Value) : Prop := ∀ k, v'.ownBlock = some k → v.ownBlock = some k ∨ w.heap.size ≤ k

/-- a cell that lies below a row's base stays where the row is written -/
theorem far_cell {w w' : World} {base : Nat} {e : TypeId} {size n : Nat} {v : Value} {xs : List Value} (hown : w.ownsRow base e size v n xs) (hg : w.grownBy w' v.ownBlock) {b o : Nat} {u : Value} (hb : b < base) (hc : w.cell? ⟨b, o, none⟩ = some u) : w'.cell? ⟨b, o, none⟩ = some u :=
  hg.cell hc (fun e' => by have := own_new hown b (by first | exact e' | exact e'.symm); omega)
section
variable {P : Program}
/-- the run of an append of one element that lies in a block of its own -/
theorem run_app_one {t e : TypeId} (ty : TypeId) {i : TypeInfo} {z : Value} {size bytes : Nat} (ht : P.underlying t = some (.slice e)) (hi : P.info? e = some i) (hz : i.zero = some z) (hsize : i.size = size) (hby : i.bytes = bytes) (hzs : z.cells.size = size) (hsz : 0 < size)
    (w u : World) (base : Nat) (n : Nat) (xs cs : List Value) (A : Option Addr) (c : Nat) (hu : u = w.alloc (.cells cs.toArray e) ∨ u = (w.alloc (.cells cs.toArray e)).drew) (hown : w.ownsRow base e size (.slice A n c) n xs) (hc : cs.length = size) (h1 : ∀ u ∈ cs, u.oneCell' = true) (hn : n ≤ 1000000) (hbytes : bytes ≤ 1000) (hb : base ≤ w.heap.size) :
    ∃ A' c' w', (Builtin.append_ #[t, t] ty #[.slice A n c, .slice (some ⟨w.heap.size, 0, none⟩) 1 1]).run P u = .ok (.slice A' (n + 1) c') w' ∧ w'.ownsRow base e size (.slice A' (n + 1) c') (n + 1) (xs ++ cs) ∧ w.grownBy w' (Value.slice A n c).ownBlock ∧ Lies w (.slice A n c) (.slice A' (n + 1) c') := by
  have hrow := (lit_own w 0 e size cs 1 (Nat.zero_le _) (by omega) (by omega))
  have hg : w.grownBy u none := by
    rcases hu with rfl | rfl
    · exact g_alloc _ _ _
    · exact g_trans (g_alloc _ _ _) (g_drew _ _)
  have hg2 : (w.alloc (.cells cs.toArray e)).grownBy u none := by
    rcases hu with rfl | rfl
    · exact g_refl _ _
    · exact g_drew _ _
  have hcell : ∀ j v, cs[j]? = some v → u.cell? ((⟨w.heap.size, 0, none⟩ : Addr).add j) = some v := fun j v hv => hg2.cell (hrow.cells rfl j v hv) (by simp)
  have hle : (n + 1) * bytes ≤ 1000001 * 1000 := Nat.mul_le_mul (by omega) hbytes
  obtain ⟨v', w', hr, h2, h3, h4, h5⟩ := run_append_own_at (P := P) u base t ty e i z size bytes ht hi hz hsize hby hzs hsz _ n xs (own_keptN hown hg) ⟨w.heap.size, 0, none⟩ 1 1 cs (by omega) hcell h1 (by simp only [maxLen]; omega) (by omega) (Nat.le_trans hb hg.size)
  obtain ⟨A', c', rfl⟩ := own_form h2
  refine ⟨A', c', w', hr, h2, g_trans (g_any hg _) h3, fun k hk => ?_⟩
  rcases h5 with h5 | h5
  · left; rw [← h5]; exact hk
  · right
    rw [hk] at h5
    injection h5 with h5
    have := hg.size
    omega
/-- the run of an append of a slice -/
theorem run_app_all {t e : TypeId} (ty : TypeId) {i : TypeInfo} {z : Value} {size bytes : Nat} (ht : P.underlying t = some (.slice e)) (hi : P.info? e = some i) (hz : i.zero = some z) (hsize : i.size = size) (hby : i.bytes = bytes) (hzs : z.cells.size = size) (hsz : 0 < size)
    (w : World) (base : Nat) (n k d : Nat) (xs cs : List Value) (A B : Option Addr) (c : Nat) (hown : w.ownsRow base e size (.slice A n c) n xs) (hr : Rd w size B k d cs) (h1 : ∀ u ∈ cs, u.oneCell' = true) (hn : n ≤ 1000000) (hk : k ≤ 1000000) (hbytes : bytes ≤ 1000) (hb : base ≤ w.heap.size) :
    ∃ A' c' w', (Builtin.append_ #[t, t] ty #[.slice A n c, .slice B k d]).run P w = .ok (.slice A' (n + k) c') w' ∧ w'.ownsRow base e size (.slice A' (n + k) c') (n + k) (xs ++ cs) ∧ w.grownBy w' (Value.slice A n c).ownBlock ∧ Lies w (.slice A n c) (.slice A' (n + k) c') := by
  have hm := hr.len
  cases B with
  | none =>
    have hd := hr.non rfl
    have hkd := hr.cap
    have hk0 : k = 0 := by omega
    subst hd hk0
    obtain rfl := List.eq_nil_of_length_eq_zero (hm.trans (Nat.zero_mul _))
    refine ⟨A, c, w, run_append_owned_none (P := P) (w := w) base t ty e i size ht hi _ n xs hown, by rw [List.append_nil]; exact hown, g_refl _ _, fun j hj => .inl hj⟩
  | some ad =>
    have hle : (n + k) * bytes ≤ 2000000 * 1000 := Nat.mul_le_mul (by omega) hbytes
    obtain ⟨v', w', hr, h2, h3, h4, h5⟩ := run_append_own_at (P := P) w base t ty e i z size bytes ht hi hz hsize hby hzs hsz _ n xs hown ad k d cs hm (fun j u hu => by
      have hk0 : 0 < k := by
        rcases Nat.eq_zero_or_pos k with h0 | h0
        · rw [h0, Nat.zero_mul] at hm
          rw [List.eq_nil_of_length_eq_zero hm] at hu
          simp at hu
        · exact h0
      obtain ⟨b, o', e, hc⟩ := hr.at_ hk0
      injection e with e
      subst e
      rw [add_lit']
      exact hc j u hu) h1 (by simp only [maxLen]; omega) (by omega) hb
    obtain ⟨A', c', rfl⟩ := own_form h2
    refine ⟨A', c', w', hr, h2, h3, fun j hj => ?_⟩
    rcases h5 with h5 | h5
    · left; rw [← h5]; exact hj
    · right
      rw [hj] at h5
      injection h5 with h5
      omega
theorem list_call {ops : Array Oper} {rest : List Oper} {o : Oper} {a : Act} {Q : Exit → Act → World → Prop} (hgd : o.guard = none) (s x : Operand) {T : TypeId} {w w' : World} {v v1 v2 : Value}
    (ho : o.op = .call { callee := .builtin .append, args := #[s, x], argTypes := #[T, T] }) (hs : a.eval s = v1) (hx : a.eval x = v2) (hrun : (Builtin.append_ #[T, T] o.type #[v1, v2]).run P w = .ok v w') (h : wpList P ops Q rest (a.put o.dst v) w') : wpList P ops Q (o :: rest) a w := by
  refine wpList_plain hgd fun K hK => ?_
  unfold Oper.wp execOp
  simp only [ho, resolve, invoke, builtin, Sem.run_bind, Sem.run_pure, Result.andThen_ok, List.map_toArray, List.map_cons, List.map_nil, hs, hx, hrun]
  exact hK _ _ h
theorem step_call {ops : Array Oper} {o : Oper} {a : Act} {K : Act → World → Prop} {Q : Exit → Act → World → Prop} {E : Prop} (hgd : o.guard = none) (s x : Operand) {T : TypeId} {w w' : World} {v v1 v2 : Value}
    (ho : o.op = .call { callee := .builtin .append, args := #[s, x], argTypes := #[T, T] }) (hs : a.eval s = v1) (hx : a.eval x = v2) (hrun : (Builtin.append_ #[T, T] o.type #[v1, v2]).run P w = .ok v w') (h : K (a.put o.dst v) w') : if Region.wanted o (yielded ops a.tmps) = true then Oper.wp P o a w K Q else E := by
  have hw : Region.wanted o (yielded ops a.tmps) = true := by simp [Region.wanted, hgd]
  rw [if_pos hw]
  unfold Oper.wp execOp
  simp only [ho, resolve, invoke, builtin, Sem.run_bind, Sem.run_pure, Result.andThen_ok, List.map_toArray, List.map_cons, List.map_nil, hs, hx, hrun]
  exact h
end

theorem infoPt : (Try.prog.info? 39).map (fun i => (i.zero, i.size, i.bytes)) = some (some (.agg #[.int .i64 0, .int .i64 0]), 2, 16) := by kernel_rfl
theorem infoInt : (Try.prog.info? 3).map (fun i => (i.zero, i.size, i.bytes)) = some (some (.int .i64 0), 1, 8) := by kernel_rfl
theorem infoBy : (Try.prog.info? 5).map (fun i => (i.zero, i.size, i.bytes)) = some (some (.int .u8 0), 1, 1) := by kernel_rfl

/-- out = append(out, one element) -/
theorem app_pt {ops : Array Oper} {rest : List Oper} {o : Oper} {a : Act} {Q : Exit → Act → World → Prop} (hgd : o.guard = none) (s0 x0 : Operand)
    (ho : o.op = .call { callee := .builtin .append, args := #[s0, x0], argTypes := #[23, 23] }) (base : Nat) (l : List Pt) (w : World) (t v : Int) (A : Option Addr) (c : Nat)
    (hs : a.eval s0 = .slice A l.length c) (hown : w.ownsRow base 39 2 (.slice A l.length c) l.length (pc l)) (hx : a.eval x0 = .slice (some ⟨w.heap.size, 0, none⟩) 1 1) (hl : l.length ≤ 1000000) (hb : base ≤ w.heap.size)
    (h : ∀ A' c' w', w'.ownsRow base 39 2 (.slice A' (l ++ [(t, v)]).length c') (l ++ [(t, v)]).length (pc (l ++ [(t, v)])) → w.grownBy w' (Value.slice A l.length c).ownBlock → Lies w (.slice A l.length c) (.slice A' (l ++ [(t, v)]).length c') →
      wpList Try.prog ops Q rest (a.put o.dst (.slice A' (l ++ [(t, v)]).length c')) w') :
    wpList Try.prog ops Q (o :: rest) a (w.alloc (.cells #[.int .i64 t, .int .i64 v] 39)) := by
  obtain ⟨i0, hi0, hz0, hz1, hz2⟩ := info_parts infoPt
  obtain ⟨A', c', w', hr, h1, h2, h3⟩ := run_app_one (t := 23) (e := 39) o.type Try.underlying23 hi0 hz0 hz1 hz2 rfl (by decide) w _ base l.length (pc l) [.int .i64 t, .int .i64 v] A c (.inl rfl) hown rfl (by simp [Value.oneCell']) hl (by omega) hb
  refine list_call hgd s0 x0 ho hs hx hr ?_
  have e : l.length + 1 = (l ++ [(t, v)]).length := by simp
  have e2 : pc l ++ [.int .i64 t, .int .i64 v] = pc (l ++ [(t, v)]) := by rw [pc_app]; rfl
  rw [e, e2] at h1
  rw [e] at h3 ⊢
  exact h A' c' w' h1 h2 h3
theorem appn_pt {ops : Array Oper} {rest : List Oper} {o : Oper} {a : Act} {Q : Exit → Act → World → Prop} (hgd : o.guard = none) (s0 x0 : Operand)
    (ho : o.op = .call { callee := .builtin .append, args := #[s0, x0], argTypes := #[23, 23] }) (base n0 : Nat) (l : List Pt) (hn0 : l.length = n0) (w : World) (t v : Int) (A : Option Addr) (c : Nat)
    (hs : a.eval s0 = .slice A n0 c) (hown : w.ownsRow base 39 2 (.slice A l.length c) l.length (pc l)) (hx : a.eval x0 = .slice (some ⟨w.heap.size, 0, none⟩) 1 1) (hl : l.length ≤ 1000000) (hb : base ≤ w.heap.size)
    (h : ∀ A' c' w', w'.ownsRow base 39 2 (.slice A' (l ++ [(t, v)]).length c') (l ++ [(t, v)]).length (pc (l ++ [(t, v)])) → w.grownBy w' (Value.slice A l.length c).ownBlock → Lies w (.slice A l.length c) (.slice A' (l ++ [(t, v)]).length c') →
      wpList Try.prog ops Q rest (a.put o.dst (.slice A' (l ++ [(t, v)]).length c')) w') :
    wpList Try.prog ops Q (o :: rest) a (w.alloc (.cells #[.int .i64 t, .int .i64 v] 39)) := by
  subst hn0
  exact app_pt hgd s0 x0 ho base l w t v A c hs hown hx hl hb h
theorem sapp_pt {ops : Array Oper} {o : Oper} {a : Act} {K : Act → World → Prop} {Q : Exit → Act → World → Prop} {E : Prop} (hgd : o.guard = none) (s0 x0 : Operand)
    (ho : o.op = .call { callee := .builtin .append, args := #[s0, x0], argTypes := #[23, 23] }) (base : Nat) (l : List Pt) (w : World) (t v : Int) (A : Option Addr) (c : Nat)
    (hs : a.eval s0 = .slice A l.length c) (hown : w.ownsRow base 39 2 (.slice A l.length c) l.length (pc l)) (hx : a.eval x0 = .slice (some ⟨w.heap.size, 0, none⟩) 1 1) (hl : l.length ≤ 1000000) (hb : base ≤ w.heap.size)
    (h : ∀ A' c' w', w'.ownsRow base 39 2 (.slice A' (l ++ [(t, v)]).length c') (l ++ [(t, v)]).length (pc (l ++ [(t, v)])) → w.grownBy w' (Value.slice A l.length c).ownBlock → Lies w (.slice A l.length c) (.slice A' (l ++ [(t, v)]).length c') →
      K (a.put o.dst (.slice A' (l ++ [(t, v)]).length c')) w') :
    if Region.wanted o (yielded ops a.tmps) = true then Oper.wp Try.prog o a ((w.alloc (.cells #[.int .i64 t, .int .i64 v] 39)).drew) K Q else E := by
  obtain ⟨i0, hi0, hz0, hz1, hz2⟩ := info_parts infoPt
  obtain ⟨A', c', w', hr, h1, h2, h3⟩ := run_app_one (t := 23) (e := 39) o.type Try.underlying23 hi0 hz0 hz1 hz2 rfl (by decide) w _ base l.length (pc l) [.int .i64 t, .int .i64 v] A c (.inr rfl) hown rfl (by simp [Value.oneCell']) hl (by omega) hb
  refine step_call hgd s0 x0 ho hs hx hr ?_
  have e : l.length + 1 = (l ++ [(t, v)]).length := by simp
  have e2 : pc l ++ [.int .i64 t, .int .i64 v] = pc (l ++ [(t, v)]) := by rw [pc_app]; rfl
  rw [e, e2] at h1
  rw [e] at h3 ⊢
  exact h A' c' w' h1 h2 h3
/-- append(out, s...) -/
theorem apps_pt {ops : Array Oper} {rest : List Oper} {o : Oper} {a : Act} {Q : Exit → Act → World → Prop} (hgd : o.guard = none) (s0 x0 : Operand)
    (ho : o.op = .call { callee := .builtin .append, args := #[s0, x0], argTypes := #[23, 23] }) (base : Nat) (l m : List Pt) (w : World) (A B : Option Addr) (c k d : Nat)
    (hs : a.eval s0 = .slice A l.length c) (hown : w.ownsRow base 39 2 (.slice A l.length c) l.length (pc l)) (hx : a.eval x0 = .slice B k d) (hr : Rd w 2 B k d (pc m)) (hl : l.length ≤ 1000000) (hk : k ≤ 1000000) (hb : base ≤ w.heap.size)
    (h : ∀ A' c' w', w'.ownsRow base 39 2 (.slice A' (l ++ m).length c') (l ++ m).length (pc (l ++ m)) → w.grownBy w' (Value.slice A l.length c).ownBlock → Lies w (.slice A l.length c) (.slice A' (l ++ m).length c') →
      wpList Try.prog ops Q rest (a.put o.dst (.slice A' (l ++ m).length c')) w') :
    wpList Try.prog ops Q (o :: rest) a w := by
  obtain ⟨i0, hi0, hz0, hz1, hz2⟩ := info_parts infoPt
  have hm : m.length = k := by have := hr.len; rw [pc_len] at this; omega
  obtain ⟨A', c', w', hr, h1, h2, h3⟩ := run_app_all (t := 23) (e := 39) o.type Try.underlying23 hi0 hz0 hz1 hz2 rfl (by decide) w base l.length k d (pc l) (pc m) A B c hown hr (pc_one m) hl hk (by omega) hb
  refine list_call hgd s0 x0 ho hs hx hr ?_
  have e : l.length + k = (l ++ m).length := by simp [hm]
  rw [e, ← pc_app] at h1
  rw [e] at h3 ⊢
  exact h A' c' w' h1 h2 h3
/-- append(out, s...) -/
theorem sapps_pt {ops : Array Oper} {o : Oper} {a : Act} {K : Act → World → Prop} {Q : Exit → Act → World → Prop} {E : Prop} (hgd : o.guard = none) (s0 x0 : Operand)
    (ho : o.op = .call { callee := .builtin .append, args := #[s0, x0], argTypes := #[23, 23] }) (base : Nat) (l m : List Pt) (w : World) (A B : Option Addr) (c k d : Nat)
    (hs : a.eval s0 = .slice A l.length c) (hown : w.ownsRow base 39 2 (.slice A l.length c) l.length (pc l)) (hx : a.eval x0 = .slice B k d) (hr : Rd w 2 B k d (pc m)) (hl : l.length ≤ 1000000) (hk : k ≤ 1000000) (hb : base ≤ w.heap.size)
    (h : ∀ A' c' w', w'.ownsRow base 39 2 (.slice A' (l ++ m).length c') (l ++ m).length (pc (l ++ m)) → w.grownBy w' (Value.slice A l.length c).ownBlock → Lies w (.slice A l.length c) (.slice A' (l ++ m).length c') →
      K (a.put o.dst (.slice A' (l ++ m).length c')) w') :
    if Region.wanted o (yielded ops a.tmps) = true then Oper.wp Try.prog o a w K Q else E := by
  obtain ⟨i0, hi0, hz0, hz1, hz2⟩ := info_parts infoPt
  have hm : m.length = k := by have := hr.len; rw [pc_len] at this; omega
  obtain ⟨A', c', w', hr, h1, h2, h3⟩ := run_app_all (t := 23) (e := 39) o.type Try.underlying23 hi0 hz0 hz1 hz2 rfl (by decide) w base l.length k d (pc l) (pc m) A B c hown hr (pc_one m) hl hk (by omega) hb
  refine step_call hgd s0 x0 ho hs hx hr ?_
  have e : l.length + k = (l ++ m).length := by simp [hm]
  rw [e, ← pc_app] at h1
  rw [e] at h3 ⊢
  exact h A' c' w' h1 h2 h3
/-- append(out, s...), as cells -/
theorem lapc_pt {ops : Array Oper} {rest : List Oper} {o : Oper} {a : Act} {Q : Exit → Act → World → Prop} (hgd : o.guard = none) (s0 x0 : Operand)
    (ho : o.op = .call { callee := .builtin .append, args := #[s0, x0], argTypes := #[23, 23] }) (base n k d : Nat) (xs cs : List Value) (w : World) (A B : Option Addr) (c : Nat)
    (hs : a.eval s0 = .slice A n c) (hown : w.ownsRow base 39 2 (.slice A n c) n xs) (hx : a.eval x0 = .slice B k d) (hr : Rd w 2 B k d cs) (h1 : ∀ u ∈ cs, u.oneCell' = true) (hl : n ≤ 1000000) (hk : k ≤ 1000000) (hb : base ≤ w.heap.size)
    (h : ∀ A' c' w', w'.ownsRow base 39 2 (.slice A' (n + k) c') (n + k) (xs ++ cs) → w.grownBy w' (Value.slice A n c).ownBlock → Lies w (.slice A n c) (.slice A' (n + k) c') → wpList Try.prog ops Q rest (a.put o.dst (.slice A' (n + k) c')) w') :
    wpList Try.prog ops Q (o :: rest) a w := by
  obtain ⟨i0, hi0, hz0, hz1, hz2⟩ := info_parts infoPt
  obtain ⟨A', c', w', hr, h1, h2, h3⟩ := run_app_all (t := 23) (e := 39) o.type Try.underlying23 hi0 hz0 hz1 hz2 rfl (by decide) w base n k d xs cs A B c hown hr h1 hl hk (by omega) hb
  exact list_call hgd s0 x0 ho hs hx hr (h A' c' w' h1 h2 h3)
/-- append(out, s...), as cells -/
theorem sapc_pt {ops : Array Oper} {o : Oper} {a : Act} {K : Act → World → Prop} {Q : Exit → Act → World → Prop} {E : Prop} (hgd : o.guard = none) (s0 x0 : Operand)
    (ho : o.op = .call { callee := .builtin .append, args := #[s0, x0], argTypes := #[23, 23] }) (base n k d : Nat) (xs cs : List Value) (w : World) (A B : Option Addr) (c : Nat)
    (hs : a.eval s0 = .slice A n c) (hown : w.ownsRow base 39 2 (.slice A n c) n xs) (hx : a.eval x0 = .slice B k d) (hr : Rd w 2 B k d cs) (h1 : ∀ u ∈ cs, u.oneCell' = true) (hl : n ≤ 1000000) (hk : k ≤ 1000000) (hb : base ≤ w.heap.size)
    (h : ∀ A' c' w', w'.ownsRow base 39 2 (.slice A' (n + k) c') (n + k) (xs ++ cs) → w.grownBy w' (Value.slice A n c).ownBlock → Lies w (.slice A n c) (.slice A' (n + k) c') → K (a.put o.dst (.slice A' (n + k) c')) w') :
    if Region.wanted o (yielded ops a.tmps) = true then Oper.wp Try.prog o a w K Q else E := by
  obtain ⟨i0, hi0, hz0, hz1, hz2⟩ := info_parts infoPt
  obtain ⟨A', c', w', hr, h1, h2, h3⟩ := run_app_all (t := 23) (e := 39) o.type Try.underlying23 hi0 hz0 hz1 hz2 rfl (by decide) w base n k d xs cs A B c hown hr h1 hl hk (by omega) hb
  exact step_call hgd s0 x0 ho hs hx hr (h A' c' w' h1 h2 h3)
/-- out = append(out, one element) -/
theorem app_in {ops : Array Oper} {rest : List Oper} {o : Oper} {a : Act} {Q : Exit → Act → World → Prop} (hgd : o.guard = none) (s0 x0 : Operand)
    (ho : o.op = .call { callee := .builtin .append, args := #[s0, x0], argTypes := #[33, 33] }) (base : Nat) (l : List Int) (w : World) (v : Int) (A : Option Addr) (c : Nat)
    (hs : a.eval s0 = .slice A l.length c) (hown : w.ownsRow base 3 1 (.slice A l.length c) l.length (ic l)) (hx : a.eval x0 = .slice (some ⟨w.heap.size, 0, none⟩) 1 1) (hl : l.length ≤ 1000000) (hb : base ≤ w.heap.size)
    (h : ∀ A' c' w', w'.ownsRow base 3 1 (.slice A' (l ++ [v]).length c') (l ++ [v]).length (ic (l ++ [v])) → w.grownBy w' (Value.slice A l.length c).ownBlock → Lies w (.slice A l.length c) (.slice A' (l ++ [v]).length c') →
      wpList Try.prog ops Q rest (a.put o.dst (.slice A' (l ++ [v]).length c')) w') :
    wpList Try.prog ops Q (o :: rest) a (w.alloc (.cells #[.int .i64 v] 3)) := by
  obtain ⟨i0, hi0, hz0, hz1, hz2⟩ := info_parts infoInt
  obtain ⟨A', c', w', hr, h1, h2, h3⟩ := run_app_one (t := 33) (e := 3) o.type Try.underlying33 hi0 hz0 hz1 hz2 rfl (by decide) w _ base l.length (ic l) [.int .i64 v] A c (.inl rfl) hown rfl (by simp [Value.oneCell']) hl (by omega) hb
  refine list_call hgd s0 x0 ho hs hx hr ?_
  have e : l.length + 1 = (l ++ [v]).length := by simp
  have e2 : ic l ++ [.int .i64 v] = ic (l ++ [v]) := by rw [ic_app]; rfl
  rw [e, e2] at h1
  rw [e] at h3 ⊢
  exact h A' c' w' h1 h2 h3
theorem appn_in {ops : Array Oper} {rest : List Oper} {o : Oper} {a : Act} {Q : Exit → Act → World → Prop} (hgd : o.guard = none) (s0 x0 : Operand)
    (ho : o.op = .call { callee := .builtin .append, args := #[s0, x0], argTypes := #[33, 33] }) (base n0 : Nat) (l : List Int) (hn0 : l.length = n0) (w : World) (v : Int) (A : Option Addr) (c : Nat)
    (hs : a.eval s0 = .slice A n0 c) (hown : w.ownsRow base 3 1 (.slice A l.length c) l.length (ic l)) (hx : a.eval x0 = .slice (some ⟨w.heap.size, 0, none⟩) 1 1) (hl : l.length ≤ 1000000) (hb : base ≤ w.heap.size)
    (h : ∀ A' c' w', w'.ownsRow base 3 1 (.slice A' (l ++ [v]).length c') (l ++ [v]).length (ic (l ++ [v])) → w.grownBy w' (Value.slice A l.length c).ownBlock → Lies w (.slice A l.length c) (.slice A' (l ++ [v]).length c') →
      wpList Try.prog ops Q rest (a.put o.dst (.slice A' (l ++ [v]).length c')) w') :
    wpList Try.prog ops Q (o :: rest) a (w.alloc (.cells #[.int .i64 v] 3)) := by
  subst hn0
  exact app_in hgd s0 x0 ho base l w v A c hs hown hx hl hb h
theorem sapp_in {ops : Array Oper} {o : Oper} {a : Act} {K : Act → World → Prop} {Q : Exit → Act → World → Prop} {E : Prop} (hgd : o.guard = none) (s0 x0 : Operand)
    (ho : o.op = .call { callee := .builtin .append, args := #[s0, x0], argTypes := #[33, 33] }) (base : Nat) (l : List Int) (w : World) (v : Int) (A : Option Addr) (c : Nat)
    (hs : a.eval s0 = .slice A l.length c) (hown : w.ownsRow base 3 1 (.slice A l.length c) l.length (ic l)) (hx : a.eval x0 = .slice (some ⟨w.heap.size, 0, none⟩) 1 1) (hl : l.length ≤ 1000000) (hb : base ≤ w.heap.size)
    (h : ∀ A' c' w', w'.ownsRow base 3 1 (.slice A' (l ++ [v]).length c') (l ++ [v]).length (ic (l ++ [v])) → w.grownBy w' (Value.slice A l.length c).ownBlock → Lies w (.slice A l.length c) (.slice A' (l ++ [v]).length c') →
      K (a.put o.dst (.slice A' (l ++ [v]).length c')) w') :
    if Region.wanted o (yielded ops a.tmps) = true then Oper.wp Try.prog o a ((w.alloc (.cells #[.int .i64 v] 3)).drew) K Q else E := by
  obtain ⟨i0, hi0, hz0, hz1, hz2⟩ := info_parts infoInt
  obtain ⟨A', c', w', hr, h1, h2, h3⟩ := run_app_one (t := 33) (e := 3) o.type Try.underlying33 hi0 hz0 hz1 hz2 rfl (by decide) w _ base l.length (ic l) [.int .i64 v] A c (.inr rfl) hown rfl (by simp [Value.oneCell']) hl (by omega) hb
  refine step_call hgd s0 x0 ho hs hx hr ?_
  have e : l.length + 1 = (l ++ [v]).length := by simp
  have e2 : ic l ++ [.int .i64 v] = ic (l ++ [v]) := by rw [ic_app]; rfl
  rw [e, e2] at h1
  rw [e] at h3 ⊢
  exact h A' c' w' h1 h2 h3
/-- append(out, s...) -/
theorem apps_in {ops : Array Oper} {rest : List Oper} {o : Oper} {a : Act} {Q : Exit → Act → World → Prop} (hgd : o.guard = none) (s0 x0 : Operand)
    (ho : o.op = .call { callee := .builtin .append, args := #[s0, x0], argTypes := #[33, 33] }) (base : Nat) (l m : List Int) (w : World) (A B : Option Addr) (c k d : Nat)
    (hs : a.eval s0 = .slice A l.length c) (hown : w.ownsRow base 3 1 (.slice A l.length c) l.length (ic l)) (hx : a.eval x0 = .slice B k d) (hr : Rd w 1 B k d (ic m)) (hl : l.length ≤ 1000000) (hk : k ≤ 1000000) (hb : base ≤ w.heap.size)
    (h : ∀ A' c' w', w'.ownsRow base 3 1 (.slice A' (l ++ m).length c') (l ++ m).length (ic (l ++ m)) → w.grownBy w' (Value.slice A l.length c).ownBlock → Lies w (.slice A l.length c) (.slice A' (l ++ m).length c') →
      wpList Try.prog ops Q rest (a.put o.dst (.slice A' (l ++ m).length c')) w') :
    wpList Try.prog ops Q (o :: rest) a w := by
  obtain ⟨i0, hi0, hz0, hz1, hz2⟩ := info_parts infoInt
  have hm : m.length = k := by have := hr.len; rw [ic_len] at this; omega
  obtain ⟨A', c', w', hr, h1, h2, h3⟩ := run_app_all (t := 33) (e := 3) o.type Try.underlying33 hi0 hz0 hz1 hz2 rfl (by decide) w base l.length k d (ic l) (ic m) A B c hown hr (ic_one m) hl hk (by omega) hb
  refine list_call hgd s0 x0 ho hs hx hr ?_
  have e : l.length + k = (l ++ m).length := by simp [hm]
  rw [e, ← ic_app] at h1
  rw [e] at h3 ⊢
  exact h A' c' w' h1 h2 h3
/-- append(out, s...) -/
theorem sapps_in {ops : Array Oper} {o : Oper} {a : Act} {K : Act → World → Prop} {Q : Exit → Act → World → Prop} {E : Prop} (hgd : o.guard = none) (s0 x0 : Operand)
    (ho : o.op = .call { callee := .builtin .append, args := #[s0, x0], argTypes := #[33, 33] }) (base : Nat) (l m : List Int) (w : World) (A B : Option Addr) (c k d : Nat)
    (hs : a.eval s0 = .slice A l.length c) (hown : w.ownsRow base 3 1 (.slice A l.length c) l.length (ic l)) (hx : a.eval x0 = .slice B k d) (hr : Rd w 1 B k d (ic m)) (hl : l.length ≤ 1000000) (hk : k ≤ 1000000) (hb : base ≤ w.heap.size)
    (h : ∀ A' c' w', w'.ownsRow base 3 1 (.slice A' (l ++ m).length c') (l ++ m).length (ic (l ++ m)) → w.grownBy w' (Value.slice A l.length c).ownBlock → Lies w (.slice A l.length c) (.slice A' (l ++ m).length c') →
      K (a.put o.dst (.slice A' (l ++ m).length c')) w') :
    if Region.wanted o (yielded ops a.tmps) = true then Oper.wp Try.prog o a w K Q else E := by
  obtain ⟨i0, hi0, hz0, hz1, hz2⟩ := info_parts infoInt
  have hm : m.length = k := by have := hr.len; rw [ic_len] at this; omega
  obtain ⟨A', c', w', hr, h1, h2, h3⟩ := run_app_all (t := 33) (e := 3) o.type Try.underlying33 hi0 hz0 hz1 hz2 rfl (by decide) w base l.length k d (ic l) (ic m) A B c hown hr (ic_one m) hl hk (by omega) hb
  refine step_call hgd s0 x0 ho hs hx hr ?_
  have e : l.length + k = (l ++ m).length := by simp [hm]
  rw [e, ← ic_app] at h1
  rw [e] at h3 ⊢
  exact h A' c' w' h1 h2 h3
/-- append(out, s...), as cells -/
theorem lapc_in {ops : Array Oper} {rest : List Oper} {o : Oper} {a : Act} {Q : Exit → Act → World → Prop} (hgd : o.guard = none) (s0 x0 : Operand)
    (ho : o.op = .call { callee := .builtin .append, args := #[s0, x0], argTypes := #[33, 33] }) (base n k d : Nat) (xs cs : List Value) (w : World) (A B : Option Addr) (c : Nat)
    (hs : a.eval s0 = .slice A n c) (hown : w.ownsRow base 3 1 (.slice A n c) n xs) (hx : a.eval x0 = .slice B k d) (hr : Rd w 1 B k d cs) (h1 : ∀ u ∈ cs, u.oneCell' = true) (hl : n ≤ 1000000) (hk : k ≤ 1000000) (hb : base ≤ w.heap.size)
    (h : ∀ A' c' w', w'.ownsRow base 3 1 (.slice A' (n + k) c') (n + k) (xs ++ cs) → w.grownBy w' (Value.slice A n c).ownBlock → Lies w (.slice A n c) (.slice A' (n + k) c') → wpList Try.prog ops Q rest (a.put o.dst (.slice A' (n + k) c')) w') :
    wpList Try.prog ops Q (o :: rest) a w := by
  obtain ⟨i0, hi0, hz0, hz1, hz2⟩ := info_parts infoInt
  obtain ⟨A', c', w', hr, h1, h2, h3⟩ := run_app_all (t := 33) (e := 3) o.type Try.underlying33 hi0 hz0 hz1 hz2 rfl (by decide) w base n k d xs cs A B c hown hr h1 hl hk (by omega) hb
  exact list_call hgd s0 x0 ho hs hx hr (h A' c' w' h1 h2 h3)
/-- append(out, s...), as cells -/
theorem sapc_in {ops : Array Oper} {o : Oper} {a : Act} {K : Act → World → Prop} {Q : Exit → Act → World → Prop} {E : Prop} (hgd : o.guard = none) (s0 x0 : Operand)
    (ho : o.op = .call { callee := .builtin .append, args := #[s0, x0], argTypes := #[33, 33] }) (base n k d : Nat) (xs cs : List Value) (w : World) (A B : Option Addr) (c : Nat)
    (hs : a.eval s0 = .slice A n c) (hown : w.ownsRow base 3 1 (.slice A n c) n xs) (hx : a.eval x0 = .slice B k d) (hr : Rd w 1 B k d cs) (h1 : ∀ u ∈ cs, u.oneCell' = true) (hl : n ≤ 1000000) (hk : k ≤ 1000000) (hb : base ≤ w.heap.size)
    (h : ∀ A' c' w', w'.ownsRow base 3 1 (.slice A' (n + k) c') (n + k) (xs ++ cs) → w.grownBy w' (Value.slice A n c).ownBlock → Lies w (.slice A n c) (.slice A' (n + k) c') → K (a.put o.dst (.slice A' (n + k) c')) w') :
    if Region.wanted o (yielded ops a.tmps) = true then Oper.wp Try.prog o a w K Q else E := by
  obtain ⟨i0, hi0, hz0, hz1, hz2⟩ := info_parts infoInt
  obtain ⟨A', c', w', hr, h1, h2, h3⟩ := run_app_all (t := 33) (e := 3) o.type Try.underlying33 hi0 hz0 hz1 hz2 rfl (by decide) w base n k d xs cs A B c hown hr h1 hl hk (by omega) hb
  exact step_call hgd s0 x0 ho hs hx hr (h A' c' w' h1 h2 h3)
/-- out = append(out, one element) -/
theorem app_by {ops : Array Oper} {rest : List Oper} {o : Oper} {a : Act} {Q : Exit → Act → World → Prop} (hgd : o.guard = none) (s0 x0 : Operand)
    (ho : o.op = .call { callee := .builtin .append, args := #[s0, x0], argTypes := #[22, 22] }) (base : Nat) (l : List Int) (w : World) (v : Int) (A : Option Addr) (c : Nat)
    (hs : a.eval s0 = .slice A l.length c) (hown : w.ownsRow base 5 1 (.slice A l.length c) l.length (bc l)) (hx : a.eval x0 = .slice (some ⟨w.heap.size, 0, none⟩) 1 1) (hl : l.length ≤ 1000000) (hb : base ≤ w.heap.size)
    (h : ∀ A' c' w', w'.ownsRow base 5 1 (.slice A' (l ++ [v]).length c') (l ++ [v]).length (bc (l ++ [v])) → w.grownBy w' (Value.slice A l.length c).ownBlock → Lies w (.slice A l.length c) (.slice A' (l ++ [v]).length c') →
      wpList Try.prog ops Q rest (a.put o.dst (.slice A' (l ++ [v]).length c')) w') :
    wpList Try.prog ops Q (o :: rest) a (w.alloc (.cells #[.int .u8 v] 5)) := by
  obtain ⟨i0, hi0, hz0, hz1, hz2⟩ := info_parts infoBy
  obtain ⟨A', c', w', hr, h1, h2, h3⟩ := run_app_one (t := 22) (e := 5) o.type Try.underlying22 hi0 hz0 hz1 hz2 rfl (by decide) w _ base l.length (bc l) [.int .u8 v] A c (.inl rfl) hown rfl (by simp [Value.oneCell']) hl (by omega) hb
  refine list_call hgd s0 x0 ho hs hx hr ?_
  have e : l.length + 1 = (l ++ [v]).length := by simp
  have e2 : bc l ++ [.int .u8 v] = bc (l ++ [v]) := by rw [bc_app]; rfl
  rw [e, e2] at h1
  rw [e] at h3 ⊢
  exact h A' c' w' h1 h2 h3
theorem appn_by {ops : Array Oper} {rest : List Oper} {o : Oper} {a : Act} {Q : Exit → Act → World → Prop} (hgd : o.guard = none) (s0 x0 : Operand)
    (ho : o.op = .call { callee := .builtin .append, args := #[s0, x0], argTypes := #[22, 22] }) (base n0 : Nat) (l : List Int) (hn0 : l.length = n0) (w : World) (v : Int) (A : Option Addr) (c : Nat)
    (hs : a.eval s0 = .slice A n0 c) (hown : w.ownsRow base 5 1 (.slice A l.length c) l.length (bc l)) (hx : a.eval x0 = .slice (some ⟨w.heap.size, 0, none⟩) 1 1) (hl : l.length ≤ 1000000) (hb : base ≤ w.heap.size)
    (h : ∀ A' c' w', w'.ownsRow base 5 1 (.slice A' (l ++ [v]).length c') (l ++ [v]).length (bc (l ++ [v])) → w.grownBy w' (Value.slice A l.length c).ownBlock → Lies w (.slice A l.length c) (.slice A' (l ++ [v]).length c') →
      wpList Try.prog ops Q rest (a.put o.dst (.slice A' (l ++ [v]).length c')) w') :
    wpList Try.prog ops Q (o :: rest) a (w.alloc (.cells #[.int .u8 v] 5)) := by
  subst hn0
  exact app_by hgd s0 x0 ho base l w v A c hs hown hx hl hb h
theorem sapp_by {ops : Array Oper} {o : Oper} {a : Act} {K : Act → World → Prop} {Q : Exit → Act → World → Prop} {E : Prop} (hgd : o.guard = none) (s0 x0 : Operand)
    (ho : o.op = .call { callee := .builtin .append, args := #[s0, x0], argTypes := #[22, 22] }) (base : Nat) (l : List Int) (w : World) (v : Int) (A : Option Addr) (c : Nat)
    (hs : a.eval s0 = .slice A l.length c) (hown : w.ownsRow base 5 1 (.slice A l.length c) l.length (bc l)) (hx : a.eval x0 = .slice (some ⟨w.heap.size, 0, none⟩) 1 1) (hl : l.length ≤ 1000000) (hb : base ≤ w.heap.size)
    (h : ∀ A' c' w', w'.ownsRow base 5 1 (.slice A' (l ++ [v]).length c') (l ++ [v]).length (bc (l ++ [v])) → w.grownBy w' (Value.slice A l.length c).ownBlock → Lies w (.slice A l.length c) (.slice A' (l ++ [v]).length c') →
      K (a.put o.dst (.slice A' (l ++ [v]).length c')) w') :
    if Region.wanted o (yielded ops a.tmps) = true then Oper.wp Try.prog o a ((w.alloc (.cells #[.int .u8 v] 5)).drew) K Q else E := by
  obtain ⟨i0, hi0, hz0, hz1, hz2⟩ := info_parts infoBy
  obtain ⟨A', c', w', hr, h1, h2, h3⟩ := run_app_one (t := 22) (e := 5) o.type Try.underlying22 hi0 hz0 hz1 hz2 rfl (by decide) w _ base l.length (bc l) [.int .u8 v] A c (.inr rfl) hown rfl (by simp [Value.oneCell']) hl (by omega) hb
  refine step_call hgd s0 x0 ho hs hx hr ?_
  have e : l.length + 1 = (l ++ [v]).length := by simp
  have e2 : bc l ++ [.int .u8 v] = bc (l ++ [v]) := by rw [bc_app]; rfl
  rw [e, e2] at h1
  rw [e] at h3 ⊢
  exact h A' c' w' h1 h2 h3
/-- append(out, s...) -/
theorem apps_by {ops : Array Oper} {rest : List Oper} {o : Oper} {a : Act} {Q : Exit → Act → World → Prop} (hgd : o.guard = none) (s0 x0 : Operand)
    (ho : o.op = .call { callee := .builtin .append, args := #[s0, x0], argTypes := #[22, 22] }) (base : Nat) (l m : List Int) (w : World) (A B : Option Addr) (c k d : Nat)
    (hs : a.eval s0 = .slice A l.length c) (hown : w.ownsRow base 5 1 (.slice A l.length c) l.length (bc l)) (hx : a.eval x0 = .slice B k d) (hr : Rd w 1 B k d (bc m)) (hl : l.length ≤ 1000000) (hk : k ≤ 1000000) (hb : base ≤ w.heap.size)
    (h : ∀ A' c' w', w'.ownsRow base 5 1 (.slice A' (l ++ m).length c') (l ++ m).length (bc (l ++ m)) → w.grownBy w' (Value.slice A l.length c).ownBlock → Lies w (.slice A l.length c) (.slice A' (l ++ m).length c') →
      wpList Try.prog ops Q rest (a.put o.dst (.slice A' (l ++ m).length c')) w') :
    wpList Try.prog ops Q (o :: rest) a w := by
  obtain ⟨i0, hi0, hz0, hz1, hz2⟩ := info_parts infoBy
  have hm : m.length = k := by have := hr.len; rw [bc_len] at this; omega
  obtain ⟨A', c', w', hr, h1, h2, h3⟩ := run_app_all (t := 22) (e := 5) o.type Try.underlying22 hi0 hz0 hz1 hz2 rfl (by decide) w base l.length k d (bc l) (bc m) A B c hown hr (bc_one m) hl hk (by omega) hb
  refine list_call hgd s0 x0 ho hs hx hr ?_
  have e : l.length + k = (l ++ m).length := by simp [hm]
  rw [e, ← bc_app] at h1
  rw [e] at h3 ⊢
  exact h A' c' w' h1 h2 h3
/-- append(out, s...) -/
theorem sapps_by {ops : Array Oper} {o : Oper} {a : Act} {K : Act → World → Prop} {Q : Exit → Act → World → Prop} {E : Prop} (hgd : o.guard = none) (s0 x0 : Operand)
    (ho : o.op = .call { callee := .builtin .append, args := #[s0, x0], argTypes := #[22, 22] }) (base : Nat) (l m : List Int) (w : World) (A B : Option Addr) (c k d : Nat)
    (hs : a.eval s0 = .slice A l.length c) (hown : w.ownsRow base 5 1 (.slice A l.length c) l.length (bc l)) (hx : a.eval x0 = .slice B k d) (hr : Rd w 1 B k d (bc m)) (hl : l.length ≤ 1000000) (hk : k ≤ 1000000) (hb : base ≤ w.heap.size)
    (h : ∀ A' c' w', w'.ownsRow base 5 1 (.slice A' (l ++ m).length c') (l ++ m).length (bc (l ++ m)) → w.grownBy w' (Value.slice A l.length c).ownBlock → Lies w (.slice A l.length c) (.slice A' (l ++ m).length c') →
      K (a.put o.dst (.slice A' (l ++ m).length c')) w') :
    if Region.wanted o (yielded ops a.tmps) = true then Oper.wp Try.prog o a w K Q else E := by
  obtain ⟨i0, hi0, hz0, hz1, hz2⟩ := info_parts infoBy
  have hm : m.length = k := by have := hr.len; rw [bc_len] at this; omega
  obtain ⟨A', c', w', hr, h1, h2, h3⟩ := run_app_all (t := 22) (e := 5) o.type Try.underlying22 hi0 hz0 hz1 hz2 rfl (by decide) w base l.length k d (bc l) (bc m) A B c hown hr (bc_one m) hl hk (by omega) hb
  refine step_call hgd s0 x0 ho hs hx hr ?_
  have e : l.length + k = (l ++ m).length := by simp [hm]
  rw [e, ← bc_app] at h1
  rw [e] at h3 ⊢
  exact h A' c' w' h1 h2 h3
/-- append(out, s...), as cells -/
theorem lapc_by {ops : Array Oper} {rest : List Oper} {o : Oper} {a : Act} {Q : Exit → Act → World → Prop} (hgd : o.guard = none) (s0 x0 : Operand)
    (ho : o.op = .call { callee := .builtin .append, args := #[s0, x0], argTypes := #[22, 22] }) (base n k d : Nat) (xs cs : List Value) (w : World) (A B : Option Addr) (c : Nat)
    (hs : a.eval s0 = .slice A n c) (hown : w.ownsRow base 5 1 (.slice A n c) n xs) (hx : a.eval x0 = .slice B k d) (hr : Rd w 1 B k d cs) (h1 : ∀ u ∈ cs, u.oneCell' = true) (hl : n ≤ 1000000) (hk : k ≤ 1000000) (hb : base ≤ w.heap.size)
    (h : ∀ A' c' w', w'.ownsRow base 5 1 (.slice A' (n + k) c') (n + k) (xs ++ cs) → w.grownBy w' (Value.slice A n c).ownBlock → Lies w (.slice A n c) (.slice A' (n + k) c') → wpList Try.prog ops Q rest (a.put o.dst (.slice A' (n + k) c')) w') :
    wpList Try.prog ops Q (o :: rest) a w := by
  obtain ⟨i0, hi0, hz0, hz1, hz2⟩ := info_parts infoBy
  obtain ⟨A', c', w', hr, h1, h2, h3⟩ := run_app_all (t := 22) (e := 5) o.type Try.underlying22 hi0 hz0 hz1 hz2 rfl (by decide) w base n k d xs cs A B c hown hr h1 hl hk (by omega) hb
  exact list_call hgd s0 x0 ho hs hx hr (h A' c' w' h1 h2 h3)
/-- append(out, s...), as cells -/
theorem sapc_by {ops : Array Oper} {o : Oper} {a : Act} {K : Act → World → Prop} {Q : Exit → Act → World → Prop} {E : Prop} (hgd : o.guard = none) (s0 x0 : Operand)
    (ho : o.op = .call { callee := .builtin .append, args := #[s0, x0], argTypes := #[22, 22] }) (base n k d : Nat) (xs cs : List Value) (w : World) (A B : Option Addr) (c : Nat)
    (hs : a.eval s0 = .slice A n c) (hown : w.ownsRow base 5 1 (.slice A n c) n xs) (hx : a.eval x0 = .slice B k d) (hr : Rd w 1 B k d cs) (h1 : ∀ u ∈ cs, u.oneCell' = true) (hl : n ≤ 1000000) (hk : k ≤ 1000000) (hb : base ≤ w.heap.size)
    (h : ∀ A' c' w', w'.ownsRow base 5 1 (.slice A' (n + k) c') (n + k) (xs ++ cs) → w.grownBy w' (Value.slice A n c).ownBlock → Lies w (.slice A n c) (.slice A' (n + k) c') → K (a.put o.dst (.slice A' (n + k) c')) w') :
    if Region.wanted o (yielded ops a.tmps) = true then Oper.wp Try.prog o a w K Q else E := by
  obtain ⟨i0, hi0, hz0, hz1, hz2⟩ := info_parts infoBy
  obtain ⟨A', c', w', hr, h1, h2, h3⟩ := run_app_all (t := 22) (e := 5) o.type Try.underlying22 hi0 hz0 hz1 hz2 rfl (by decide) w base n k d xs cs A B c hown hr h1 hl hk (by omega) hb
  exact step_call hgd s0 x0 ho hs hx hr (h A' c' w' h1 h2 h3)
end Go.Proofs.Ytcgeagcfhjdpcaa
