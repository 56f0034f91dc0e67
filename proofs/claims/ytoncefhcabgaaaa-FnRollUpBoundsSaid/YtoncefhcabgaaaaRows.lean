/-
  No cell of these rows narrows 'for every input' (looked for: loops, veiled, ifaces, maps, wideKeys, modest, calm, conditions, laid).
  DERIVED. THE GIVEN ROWS OF THIS SEAT. 5 by the template 'for every input the law returns true; each argument reads behind the call as it read before'; 0 by the template 'total and deterministic' (their statements: YtoncefhcabgaaaaTotals.lean).
  GIVEN WITH THE SEED: the statements are not yours to turn. If you find one false, say at which input.
  Laid BY PROGRAM, IN A SANDBOX (cutbox-rows.mjs): the forced cells as the released guide's own fill.sh prints them over the translation 671ee2d598711772… (all of the seat's roots in one cut). By AI agents, Wed Nov 11 2026. No macro, syntax, notation, axiom, sorry.
-/
import Derived.Test.YtoncefhcabgaaaaChecked
import GoSem.Claim
import GoSem.ClaimJoined
import GoSem.ClaimMapViews
import Derived.JoinedTies
import Derived.KernelRfl
namespace Go.Proofs.Ytoncefhcabgaaaa
/- THE CELL 'sum', in the pinned program and in every row, IS THE sha256 OF THE DUMP (.gsa) THAT YtoncefhcabgaaaaProg.lean LOADS. Nothing in Lean hashes anything: it is a label: what it is worth is what the hold of that sum in a sandbox is worth. -/
noncomputable def Try.pinned : Pinned := { name := "ytoncefhcabgaaaa", sum := "671ee2d598711772030735710ff923abec67fc8eea8a6f58b245dba7d280f61b", checked := Try.checked }
namespace Rows
def none {H : Type} : Left H := { results := [], args := [] }

/-- 'laws.FnRollUpOne': WHATEVER THE INPUT: true; the input reads as it did. -/
def fnRollUpOneSpec : ChangeSpec := { name := "fnRollUpOne", fn := fun _ => fun
  | [d] => { results := [.lit (.bool true)], args := [d] }
  | _ => none }
def fnRollUpOneRow : OpenClaim := { program := "ytoncefhcabgaaaa", sum := "671ee2d598711772030735710ff923abec67fc8eea8a6f58b245dba7d280f61b", func := "loop.example/metricstore/laws.FnRollUpOne", spec := "fnRollUpOne", apart := false }
def FnRollUpOneSaid : Prop := fnRollUpOneRow.holds Try.pinned (OpenSpec.ofChange fnRollUpOneSpec)

/-- ITS FALSE NEIGHBOUR: 'it returns false'. Refute it at one input. -/
def fnRollUpOneWrong : ChangeSpec := { name := "fnRollUpOne", fn := fun _ => fun
  | [d] => { results := [.lit (.bool false)], args := [d] }
  | _ => none }
def FnRollUpOneWrongFalsely : Prop := fnRollUpOneRow.holds Try.pinned (OpenSpec.ofChange fnRollUpOneWrong)

/-- 'laws.FnMergeBuckets': WHATEVER THE INPUT: true; the input reads as it did. -/
def fnMergeBucketsSpec : ChangeSpec := { name := "fnMergeBuckets", fn := fun _ => fun
  | [d] => { results := [.lit (.bool true)], args := [d] }
  | _ => none }
def fnMergeBucketsRow : OpenClaim := { program := "ytoncefhcabgaaaa", sum := "671ee2d598711772030735710ff923abec67fc8eea8a6f58b245dba7d280f61b", func := "loop.example/metricstore/laws.FnMergeBuckets", spec := "fnMergeBuckets", apart := false }
def FnMergeBucketsSaid : Prop := fnMergeBucketsRow.holds Try.pinned (OpenSpec.ofChange fnMergeBucketsSpec)

/-- ITS FALSE NEIGHBOUR: 'it returns false'. Refute it at one input. -/
def fnMergeBucketsWrong : ChangeSpec := { name := "fnMergeBuckets", fn := fun _ => fun
  | [d] => { results := [.lit (.bool false)], args := [d] }
  | _ => none }
def FnMergeBucketsWrongFalsely : Prop := fnMergeBucketsRow.holds Try.pinned (OpenSpec.ofChange fnMergeBucketsWrong)

/-- 'laws.FnRollUpBounds': WHATEVER THE INPUT: true; the input reads as it did. -/
def fnRollUpBoundsSpec : ChangeSpec := { name := "fnRollUpBounds", fn := fun _ => fun
  | [d] => { results := [.lit (.bool true)], args := [d] }
  | _ => none }
def fnRollUpBoundsRow : OpenClaim := { program := "ytoncefhcabgaaaa", sum := "671ee2d598711772030735710ff923abec67fc8eea8a6f58b245dba7d280f61b", func := "loop.example/metricstore/laws.FnRollUpBounds", spec := "fnRollUpBounds", unfollowed := true, recurses := true, apart := false }
def FnRollUpBoundsSaid : Prop := fnRollUpBoundsRow.holds Try.pinned (OpenSpec.ofChange fnRollUpBoundsSpec)

/-- ITS FALSE NEIGHBOUR: 'it returns false'. Refute it at one input. -/
def fnRollUpBoundsWrong : ChangeSpec := { name := "fnRollUpBounds", fn := fun _ => fun
  | [d] => { results := [.lit (.bool false)], args := [d] }
  | _ => none }
def FnRollUpBoundsWrongFalsely : Prop := fnRollUpBoundsRow.holds Try.pinned (OpenSpec.ofChange fnRollUpBoundsWrong)

/-- 'laws.FnMergeBucketsRollUp': WHATEVER THE INPUT: true; the input reads as it did. -/
def fnMergeBucketsRollUpSpec : ChangeSpec := { name := "fnMergeBucketsRollUp", fn := fun _ => fun
  | [d] => { results := [.lit (.bool true)], args := [d] }
  | _ => none }
def fnMergeBucketsRollUpRow : OpenClaim := { program := "ytoncefhcabgaaaa", sum := "671ee2d598711772030735710ff923abec67fc8eea8a6f58b245dba7d280f61b", func := "loop.example/metricstore/laws.FnMergeBucketsRollUp", spec := "fnMergeBucketsRollUp", apart := false }
def FnMergeBucketsRollUpSaid : Prop := fnMergeBucketsRollUpRow.holds Try.pinned (OpenSpec.ofChange fnMergeBucketsRollUpSpec)

/-- ITS FALSE NEIGHBOUR: 'it returns false'. Refute it at one input. -/
def fnMergeBucketsRollUpWrong : ChangeSpec := { name := "fnMergeBucketsRollUp", fn := fun _ => fun
  | [d] => { results := [.lit (.bool false)], args := [d] }
  | _ => none }
def FnMergeBucketsRollUpWrongFalsely : Prop := fnMergeBucketsRollUpRow.holds Try.pinned (OpenSpec.ofChange fnMergeBucketsRollUpWrong)

/-- 'laws.FnRollUp': WHATEVER THE INPUT: true; the input reads as it did. -/
def fnRollUpSpec : ChangeSpec := { name := "fnRollUp", fn := fun _ => fun
  | [d] => { results := [.lit (.bool true)], args := [d] }
  | _ => none }
def fnRollUpRow : OpenClaim := { program := "ytoncefhcabgaaaa", sum := "671ee2d598711772030735710ff923abec67fc8eea8a6f58b245dba7d280f61b", func := "loop.example/metricstore/laws.FnRollUp", spec := "fnRollUp", unfollowed := true, recurses := true, apart := false }
def FnRollUpSaid : Prop := fnRollUpRow.holds Try.pinned (OpenSpec.ofChange fnRollUpSpec)

/-- ITS FALSE NEIGHBOUR: 'it returns false'. Refute it at one input. -/
def fnRollUpWrong : ChangeSpec := { name := "fnRollUp", fn := fun _ => fun
  | [d] => { results := [.lit (.bool false)], args := [d] }
  | _ => none }
def FnRollUpWrongFalsely : Prop := fnRollUpRow.holds Try.pinned (OpenSpec.ofChange fnRollUpWrong)

/- THE SECOND FORM. 'bulk': how many values and letters a reading holds, each counted each time it is reached (what is shared counts as often as it is met; a slice's spare places count too). A statement '..UptoSaid' is the law's where the arguments, and the package variables that the reading takes, are together of bulk at most 1048576: NARROWER than '..Said'. Prove '..Said' where nothing that the law and all that it calls make is longer than what came in: it says more and counts as full. Else prove '..UptoSaid'. A law counts once. -/
mutual
def uptoBulk {H : Type} : DataW H → Nat
  | .lit (.string bytes) => bytes.length + 1
  | .lit _ => 1
  | .nil => 1
  | .ptr d => uptoBulk d + 1
  | .slice elems spare => uptoBulkAll elems + uptoBulkAll spare + 1
  | .agg parts => uptoBulkAll parts + 1
  | .iface _ d => uptoBulk d + 1
  | .map entries => uptoBulkEntries entries + 1
  | .held _ => 1
def uptoBulkAll {H : Type} : List (DataW H) → Nat
  | [] => 0
  | d :: r => uptoBulk d + uptoBulkAll r
def uptoBulkEntries {H : Type} : List (Lit × DataW H) → Nat
  | [] => 0
  | x :: r => uptoBulkEntry x + uptoBulkEntries r
def uptoBulkEntry {H : Type} : Lit × DataW H → Nat
  | (.string bytes, d) => bytes.length + uptoBulk d + 1
  | (_, d) => uptoBulk d + 1
 end
def uptoSmall : (H : Type) → List (DataW H) → Bool := fun _ ds => decide (uptoBulkAll ds ≤ 1048576)
def OpenSpec.upto (s : _root_.Go.ChangeSpec) : _root_.Go.OpenSpec := { _root_.Go.OpenSpec.ofChange s with cond := some uptoSmall }

/-- 'laws.FnRollUpOne', WHERE WHAT IT READS IS OF BULK AT MOST 1048576: true; the input reads as it did. -/
def fnRollUpOneUptoRow : OpenClaim := { program := "ytoncefhcabgaaaa", sum := "671ee2d598711772030735710ff923abec67fc8eea8a6f58b245dba7d280f61b", func := "loop.example/metricstore/laws.FnRollUpOne", spec := "fnRollUpOne", apart := false, narrowed := true }
def FnRollUpOneUptoSaid : Prop := fnRollUpOneUptoRow.holds Try.pinned (OpenSpec.upto fnRollUpOneSpec)

/-- 'laws.FnMergeBuckets', WHERE WHAT IT READS IS OF BULK AT MOST 1048576: true; the input reads as it did. -/
def fnMergeBucketsUptoRow : OpenClaim := { program := "ytoncefhcabgaaaa", sum := "671ee2d598711772030735710ff923abec67fc8eea8a6f58b245dba7d280f61b", func := "loop.example/metricstore/laws.FnMergeBuckets", spec := "fnMergeBuckets", apart := false, narrowed := true }
def FnMergeBucketsUptoSaid : Prop := fnMergeBucketsUptoRow.holds Try.pinned (OpenSpec.upto fnMergeBucketsSpec)

/-- 'laws.FnRollUpBounds', WHERE WHAT IT READS IS OF BULK AT MOST 1048576: true; the input reads as it did. -/
def fnRollUpBoundsUptoRow : OpenClaim := { program := "ytoncefhcabgaaaa", sum := "671ee2d598711772030735710ff923abec67fc8eea8a6f58b245dba7d280f61b", func := "loop.example/metricstore/laws.FnRollUpBounds", spec := "fnRollUpBounds", unfollowed := true, recurses := true, apart := false, narrowed := true }
def FnRollUpBoundsUptoSaid : Prop := fnRollUpBoundsUptoRow.holds Try.pinned (OpenSpec.upto fnRollUpBoundsSpec)

/-- 'laws.FnMergeBucketsRollUp', WHERE WHAT IT READS IS OF BULK AT MOST 1048576: true; the input reads as it did. -/
def fnMergeBucketsRollUpUptoRow : OpenClaim := { program := "ytoncefhcabgaaaa", sum := "671ee2d598711772030735710ff923abec67fc8eea8a6f58b245dba7d280f61b", func := "loop.example/metricstore/laws.FnMergeBucketsRollUp", spec := "fnMergeBucketsRollUp", apart := false, narrowed := true }
def FnMergeBucketsRollUpUptoSaid : Prop := fnMergeBucketsRollUpUptoRow.holds Try.pinned (OpenSpec.upto fnMergeBucketsRollUpSpec)

/-- 'laws.FnRollUp', WHERE WHAT IT READS IS OF BULK AT MOST 1048576: true; the input reads as it did. -/
def fnRollUpUptoRow : OpenClaim := { program := "ytoncefhcabgaaaa", sum := "671ee2d598711772030735710ff923abec67fc8eea8a6f58b245dba7d280f61b", func := "loop.example/metricstore/laws.FnRollUp", spec := "fnRollUp", unfollowed := true, recurses := true, apart := false, narrowed := true }
def FnRollUpUptoSaid : Prop := fnRollUpUptoRow.holds Try.pinned (OpenSpec.upto fnRollUpSpec)

end Rows
end Go.Proofs.Ytoncefhcabgaaaa
