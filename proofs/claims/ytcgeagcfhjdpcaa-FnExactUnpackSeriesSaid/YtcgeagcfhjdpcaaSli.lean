/- A slice 's[k:]' of bytes in a walk: one way for both forms of its address. -/
import Derived.Test.YtcgeagcfhjdpcaaProg
import Derived.Test.YtcgeagcfhjdpcaaNum
import Derived.Test.YtcgeagcfhjdpcaaMark
import Derived.Test.YtcgeagcfhjdpcaaVar
namespace Go.Proofs.Ytcgeagcfhjdpcaa
set_option linter.unusedVariables false
open Go.RowKit

theorem bc_drop (l : List Int) (k : Nat) : (bc l).drop (k * 1) = bc (l.drop k) := by simp [bc, List.map_drop]
theorem bc_take (l : List Int) (k : Nat) : (bc l).take (k * 1) = bc (l.take k) := by simp [bc, List.map_take]
theorem run_from_by (w : World) (A : Option Addr) (n c k : Nat) (hk : k ≤ n) :
    (Instr.sliceAt 22 (.slice A n c) (some (.int .i64 (k : Int))) none none).run Try.prog w = .ok (.slice (if c = k then A else A.map (·.add (k * 1))) (n - k) (c - k)) w := by
  go_simp
/-- the walk's step at 's[k:]' -/
theorem from_by {ops : Array Oper} {rest : List Oper} {o : Oper} {a : Act} {Q : Exit → Act → World → Prop} (hgd : o.guard = none) (s i : Operand)
    (ho : o.op = Op.slice 22 s (some i) none none) (A : Option Addr) (n c k : Nat) (l : List Int) (w w0 : World)
    (hs : a.eval s = .slice A n c) (hi : a.eval i = .int .i64 (k : Int)) (hk : k ≤ n) (hr : Rd w0 1 A n c (bc l))
    (h : ∀ A', Rd w0 1 A' (n - k) (c - k) (bc (l.drop k)) → wpList Try.prog ops Q rest (a.put o.dst (.slice A' (n - k) (c - k))) w) :
    wpList Try.prog ops Q (o :: rest) a w := by
  refine wpList_plain hgd fun K hK => ?_
  unfold Oper.wp execOp
  simp only [ho, hs, hi, Option.map_some, Option.map_none, Sem.run_bind, Sem.run_pure, run_from_by w A n c k hk, Result.andThen_ok]
  have hr2 := hr.from_ hk
  rw [bc_drop] at hr2
  exact hK _ _ (h _ hr2)
end Go.Proofs.Ytcgeagcfhjdpcaa
