/-
  No cell of these rows narrows 'for every input' (looked for: loops, veiled, ifaces, maps, wideKeys, modest, calm, conditions, laid).
  DERIVED. THE GIVEN ROWS OF THIS SEAT. 15 by the template 'for every input the law returns true; each argument reads behind the call as it read before'; 0 by the template 'total and deterministic' (their statements: YtmokolccohobpaaTotals.lean).
  GIVEN WITH THE SEED: the statements are not yours to turn. If you find one false, say at which input.
  Laid BY PROGRAM, IN A SANDBOX (cutbox-rows.mjs): the forced cells as the released guide's own fill.sh prints them over the translation e8ed34def558b861… (all of the seat's roots in one cut). By AI agents, Wed Nov 11 2026. No macro, syntax, notation, axiom, sorry.
-/
import Derived.Test.YtmokolccohobpaaChecked
import GoSem.Claim
import GoSem.ClaimJoined
import GoSem.ClaimMapViews
import Derived.JoinedTies
import Derived.KernelRfl
namespace Go.Proofs.Ytmokolccohobpaa
/- THE CELL 'sum', in the pinned program and in every row, IS THE sha256 OF THE DUMP (.gsa) THAT YtmokolccohobpaaProg.lean LOADS. Nothing in Lean hashes anything: it is a label: what it is worth is what the hold of that sum in a sandbox is worth. -/
noncomputable def Try.pinned : Pinned := { name := "ytmokolccohobpaa", sum := "e8ed34def558b86197c80978053c9904ee18156c3e102dd2573b6d9904e6bfb7", checked := Try.checked }
namespace Rows
def none {H : Type} : Left H := { results := [], args := [] }

/-- 'laws.FnExactValidBuckets': WHATEVER THE INPUT: true; the input reads as it did. -/
def fnExactValidBucketsSpec : ChangeSpec := { name := "fnExactValidBuckets", fn := fun _ => fun
  | [d1, d2] => { results := [.lit (.bool true)], args := [d1, d2] }
  | _ => none }
def fnExactValidBucketsRow : OpenClaim := { program := "ytmokolccohobpaa", sum := "e8ed34def558b86197c80978053c9904ee18156c3e102dd2573b6d9904e6bfb7", func := "loop.example/metricstore/laws.FnExactValidBuckets", spec := "fnExactValidBuckets", apart := false }
def FnExactValidBucketsSaid : Prop := fnExactValidBucketsRow.holds Try.pinned (OpenSpec.ofChange fnExactValidBucketsSpec)

/-- ITS FALSE NEIGHBOUR: 'it returns false'. Refute it at one input. -/
def fnExactValidBucketsWrong : ChangeSpec := { name := "fnExactValidBuckets", fn := fun _ => fun
  | [d1, d2] => { results := [.lit (.bool false)], args := [d1, d2] }
  | _ => none }
def FnExactValidBucketsWrongFalsely : Prop := fnExactValidBucketsRow.holds Try.pinned (OpenSpec.ofChange fnExactValidBucketsWrong)

/-- 'laws.FnValidBuckets': WHATEVER THE INPUT: true; the input reads as it did. -/
def fnValidBucketsSpec : ChangeSpec := { name := "fnValidBuckets", fn := fun _ => fun
  | [d] => { results := [.lit (.bool true)], args := [d] }
  | _ => none }
def fnValidBucketsRow : OpenClaim := { program := "ytmokolccohobpaa", sum := "e8ed34def558b86197c80978053c9904ee18156c3e102dd2573b6d9904e6bfb7", func := "loop.example/metricstore/laws.FnValidBuckets", spec := "fnValidBuckets", apart := false }
def FnValidBucketsSaid : Prop := fnValidBucketsRow.holds Try.pinned (OpenSpec.ofChange fnValidBucketsSpec)

/-- ITS FALSE NEIGHBOUR: 'it returns false'. Refute it at one input. -/
def fnValidBucketsWrong : ChangeSpec := { name := "fnValidBuckets", fn := fun _ => fun
  | [d] => { results := [.lit (.bool false)], args := [d] }
  | _ => none }
def FnValidBucketsWrongFalsely : Prop := fnValidBucketsRow.holds Try.pinned (OpenSpec.ofChange fnValidBucketsWrong)

/-- 'laws.FnRollUpOne': WHATEVER THE INPUT: true; the input reads as it did. -/
def fnRollUpOneSpec : ChangeSpec := { name := "fnRollUpOne", fn := fun _ => fun
  | [d] => { results := [.lit (.bool true)], args := [d] }
  | _ => none }
def fnRollUpOneRow : OpenClaim := { program := "ytmokolccohobpaa", sum := "e8ed34def558b86197c80978053c9904ee18156c3e102dd2573b6d9904e6bfb7", func := "loop.example/metricstore/laws.FnRollUpOne", spec := "fnRollUpOne", apart := false }
def FnRollUpOneSaid : Prop := fnRollUpOneRow.holds Try.pinned (OpenSpec.ofChange fnRollUpOneSpec)

/-- ITS FALSE NEIGHBOUR: 'it returns false'. Refute it at one input. -/
def fnRollUpOneWrong : ChangeSpec := { name := "fnRollUpOne", fn := fun _ => fun
  | [d] => { results := [.lit (.bool false)], args := [d] }
  | _ => none }
def FnRollUpOneWrongFalsely : Prop := fnRollUpOneRow.holds Try.pinned (OpenSpec.ofChange fnRollUpOneWrong)

/-- 'laws.FnCoarser': WHATEVER THE INPUT: true; the input reads as it did. -/
def fnCoarserSpec : ChangeSpec := { name := "fnCoarser", fn := fun _ => fun
  | [d] => { results := [.lit (.bool true)], args := [d] }
  | _ => none }
def fnCoarserRow : OpenClaim := { program := "ytmokolccohobpaa", sum := "e8ed34def558b86197c80978053c9904ee18156c3e102dd2573b6d9904e6bfb7", func := "loop.example/metricstore/laws.FnCoarser", spec := "fnCoarser", apart := false }
def FnCoarserSaid : Prop := fnCoarserRow.holds Try.pinned (OpenSpec.ofChange fnCoarserSpec)

/-- ITS FALSE NEIGHBOUR: 'it returns false'. Refute it at one input. -/
def fnCoarserWrong : ChangeSpec := { name := "fnCoarser", fn := fun _ => fun
  | [d] => { results := [.lit (.bool false)], args := [d] }
  | _ => none }
def FnCoarserWrongFalsely : Prop := fnCoarserRow.holds Try.pinned (OpenSpec.ofChange fnCoarserWrong)

/-- 'laws.FnCoarserOne': WHATEVER THE INPUT: true; the input reads as it did. -/
def fnCoarserOneSpec : ChangeSpec := { name := "fnCoarserOne", fn := fun _ => fun
  | [d] => { results := [.lit (.bool true)], args := [d] }
  | _ => none }
def fnCoarserOneRow : OpenClaim := { program := "ytmokolccohobpaa", sum := "e8ed34def558b86197c80978053c9904ee18156c3e102dd2573b6d9904e6bfb7", func := "loop.example/metricstore/laws.FnCoarserOne", spec := "fnCoarserOne", apart := false }
def FnCoarserOneSaid : Prop := fnCoarserOneRow.holds Try.pinned (OpenSpec.ofChange fnCoarserOneSpec)

/-- ITS FALSE NEIGHBOUR: 'it returns false'. Refute it at one input. -/
def fnCoarserOneWrong : ChangeSpec := { name := "fnCoarserOne", fn := fun _ => fun
  | [d] => { results := [.lit (.bool false)], args := [d] }
  | _ => none }
def FnCoarserOneWrongFalsely : Prop := fnCoarserOneRow.holds Try.pinned (OpenSpec.ofChange fnCoarserOneWrong)

/-- 'laws.FnRollUpMean': WHATEVER THE INPUT: true; the input reads as it did. -/
def fnRollUpMeanSpec : ChangeSpec := { name := "fnRollUpMean", fn := fun _ => fun
  | [d] => { results := [.lit (.bool true)], args := [d] }
  | _ => none }
def fnRollUpMeanRow : OpenClaim := { program := "ytmokolccohobpaa", sum := "e8ed34def558b86197c80978053c9904ee18156c3e102dd2573b6d9904e6bfb7", func := "loop.example/metricstore/laws.FnRollUpMean", spec := "fnRollUpMean", apart := false }
def FnRollUpMeanSaid : Prop := fnRollUpMeanRow.holds Try.pinned (OpenSpec.ofChange fnRollUpMeanSpec)

/-- ITS FALSE NEIGHBOUR: 'it returns false'. Refute it at one input. -/
def fnRollUpMeanWrong : ChangeSpec := { name := "fnRollUpMean", fn := fun _ => fun
  | [d] => { results := [.lit (.bool false)], args := [d] }
  | _ => none }
def FnRollUpMeanWrongFalsely : Prop := fnRollUpMeanRow.holds Try.pinned (OpenSpec.ofChange fnRollUpMeanWrong)

/-- 'laws.FnMergeBuckets': WHATEVER THE INPUT: true; the input reads as it did. -/
def fnMergeBucketsSpec : ChangeSpec := { name := "fnMergeBuckets", fn := fun _ => fun
  | [d] => { results := [.lit (.bool true)], args := [d] }
  | _ => none }
def fnMergeBucketsRow : OpenClaim := { program := "ytmokolccohobpaa", sum := "e8ed34def558b86197c80978053c9904ee18156c3e102dd2573b6d9904e6bfb7", func := "loop.example/metricstore/laws.FnMergeBuckets", spec := "fnMergeBuckets", apart := false }
def FnMergeBucketsSaid : Prop := fnMergeBucketsRow.holds Try.pinned (OpenSpec.ofChange fnMergeBucketsSpec)

/-- ITS FALSE NEIGHBOUR: 'it returns false'. Refute it at one input. -/
def fnMergeBucketsWrong : ChangeSpec := { name := "fnMergeBuckets", fn := fun _ => fun
  | [d] => { results := [.lit (.bool false)], args := [d] }
  | _ => none }
def FnMergeBucketsWrongFalsely : Prop := fnMergeBucketsRow.holds Try.pinned (OpenSpec.ofChange fnMergeBucketsWrong)

/-- 'laws.FnMergeBucketsNone': WHATEVER THE INPUT: true; the input reads as it did. -/
def fnMergeBucketsNoneSpec : ChangeSpec := { name := "fnMergeBucketsNone", fn := fun _ => fun
  | [d] => { results := [.lit (.bool true)], args := [d] }
  | _ => none }
def fnMergeBucketsNoneRow : OpenClaim := { program := "ytmokolccohobpaa", sum := "e8ed34def558b86197c80978053c9904ee18156c3e102dd2573b6d9904e6bfb7", func := "loop.example/metricstore/laws.FnMergeBucketsNone", spec := "fnMergeBucketsNone", apart := false }
def FnMergeBucketsNoneSaid : Prop := fnMergeBucketsNoneRow.holds Try.pinned (OpenSpec.ofChange fnMergeBucketsNoneSpec)

/-- ITS FALSE NEIGHBOUR: 'it returns false'. Refute it at one input. -/
def fnMergeBucketsNoneWrong : ChangeSpec := { name := "fnMergeBucketsNone", fn := fun _ => fun
  | [d] => { results := [.lit (.bool false)], args := [d] }
  | _ => none }
def FnMergeBucketsNoneWrongFalsely : Prop := fnMergeBucketsNoneRow.holds Try.pinned (OpenSpec.ofChange fnMergeBucketsNoneWrong)

/-- 'laws.FnRollUpBounds': WHATEVER THE INPUT: true; the input reads as it did. -/
def fnRollUpBoundsSpec : ChangeSpec := { name := "fnRollUpBounds", fn := fun _ => fun
  | [d] => { results := [.lit (.bool true)], args := [d] }
  | _ => none }
def fnRollUpBoundsRow : OpenClaim := { program := "ytmokolccohobpaa", sum := "e8ed34def558b86197c80978053c9904ee18156c3e102dd2573b6d9904e6bfb7", func := "loop.example/metricstore/laws.FnRollUpBounds", spec := "fnRollUpBounds", unfollowed := true, recurses := true, apart := false }
def FnRollUpBoundsSaid : Prop := fnRollUpBoundsRow.holds Try.pinned (OpenSpec.ofChange fnRollUpBoundsSpec)

/-- ITS FALSE NEIGHBOUR: 'it returns false'. Refute it at one input. -/
def fnRollUpBoundsWrong : ChangeSpec := { name := "fnRollUpBounds", fn := fun _ => fun
  | [d] => { results := [.lit (.bool false)], args := [d] }
  | _ => none }
def FnRollUpBoundsWrongFalsely : Prop := fnRollUpBoundsRow.holds Try.pinned (OpenSpec.ofChange fnRollUpBoundsWrong)

/-- 'laws.FnExactCoarser': WHATEVER THE INPUT: true; the input reads as it did. -/
def fnExactCoarserSpec : ChangeSpec := { name := "fnExactCoarser", fn := fun _ => fun
  | [d1, d2, d3] => { results := [.lit (.bool true)], args := [d1, d2, d3] }
  | _ => none }
def fnExactCoarserRow : OpenClaim := { program := "ytmokolccohobpaa", sum := "e8ed34def558b86197c80978053c9904ee18156c3e102dd2573b6d9904e6bfb7", func := "loop.example/metricstore/laws.FnExactCoarser", spec := "fnExactCoarser", apart := false }
def FnExactCoarserSaid : Prop := fnExactCoarserRow.holds Try.pinned (OpenSpec.ofChange fnExactCoarserSpec)

/-- ITS FALSE NEIGHBOUR: 'it returns false'. Refute it at one input. -/
def fnExactCoarserWrong : ChangeSpec := { name := "fnExactCoarser", fn := fun _ => fun
  | [d1, d2, d3] => { results := [.lit (.bool false)], args := [d1, d2, d3] }
  | _ => none }
def FnExactCoarserWrongFalsely : Prop := fnExactCoarserRow.holds Try.pinned (OpenSpec.ofChange fnExactCoarserWrong)

/-- 'laws.FnCoarserRollUp': WHATEVER THE INPUT: true; the input reads as it did. -/
def fnCoarserRollUpSpec : ChangeSpec := { name := "fnCoarserRollUp", fn := fun _ => fun
  | [d] => { results := [.lit (.bool true)], args := [d] }
  | _ => none }
def fnCoarserRollUpRow : OpenClaim := { program := "ytmokolccohobpaa", sum := "e8ed34def558b86197c80978053c9904ee18156c3e102dd2573b6d9904e6bfb7", func := "loop.example/metricstore/laws.FnCoarserRollUp", spec := "fnCoarserRollUp", apart := false }
def FnCoarserRollUpSaid : Prop := fnCoarserRollUpRow.holds Try.pinned (OpenSpec.ofChange fnCoarserRollUpSpec)

/-- ITS FALSE NEIGHBOUR: 'it returns false'. Refute it at one input. -/
def fnCoarserRollUpWrong : ChangeSpec := { name := "fnCoarserRollUp", fn := fun _ => fun
  | [d] => { results := [.lit (.bool false)], args := [d] }
  | _ => none }
def FnCoarserRollUpWrongFalsely : Prop := fnCoarserRollUpRow.holds Try.pinned (OpenSpec.ofChange fnCoarserRollUpWrong)

/-- 'laws.FnMergeBucketsRollUp': WHATEVER THE INPUT: true; the input reads as it did. -/
def fnMergeBucketsRollUpSpec : ChangeSpec := { name := "fnMergeBucketsRollUp", fn := fun _ => fun
  | [d] => { results := [.lit (.bool true)], args := [d] }
  | _ => none }
def fnMergeBucketsRollUpRow : OpenClaim := { program := "ytmokolccohobpaa", sum := "e8ed34def558b86197c80978053c9904ee18156c3e102dd2573b6d9904e6bfb7", func := "loop.example/metricstore/laws.FnMergeBucketsRollUp", spec := "fnMergeBucketsRollUp", apart := false }
def FnMergeBucketsRollUpSaid : Prop := fnMergeBucketsRollUpRow.holds Try.pinned (OpenSpec.ofChange fnMergeBucketsRollUpSpec)

/-- ITS FALSE NEIGHBOUR: 'it returns false'. Refute it at one input. -/
def fnMergeBucketsRollUpWrong : ChangeSpec := { name := "fnMergeBucketsRollUp", fn := fun _ => fun
  | [d] => { results := [.lit (.bool false)], args := [d] }
  | _ => none }
def FnMergeBucketsRollUpWrongFalsely : Prop := fnMergeBucketsRollUpRow.holds Try.pinned (OpenSpec.ofChange fnMergeBucketsRollUpWrong)

/-- 'laws.FnExactMergeBuckets': WHATEVER THE INPUT: true; the input reads as it did. -/
def fnExactMergeBucketsSpec : ChangeSpec := { name := "fnExactMergeBuckets", fn := fun _ => fun
  | [d1, d2, d3] => { results := [.lit (.bool true)], args := [d1, d2, d3] }
  | _ => none }
def fnExactMergeBucketsRow : OpenClaim := { program := "ytmokolccohobpaa", sum := "e8ed34def558b86197c80978053c9904ee18156c3e102dd2573b6d9904e6bfb7", func := "loop.example/metricstore/laws.FnExactMergeBuckets", spec := "fnExactMergeBuckets", apart := false }
def FnExactMergeBucketsSaid : Prop := fnExactMergeBucketsRow.holds Try.pinned (OpenSpec.ofChange fnExactMergeBucketsSpec)

/-- ITS FALSE NEIGHBOUR: 'it returns false'. Refute it at one input. -/
def fnExactMergeBucketsWrong : ChangeSpec := { name := "fnExactMergeBuckets", fn := fun _ => fun
  | [d1, d2, d3] => { results := [.lit (.bool false)], args := [d1, d2, d3] }
  | _ => none }
def FnExactMergeBucketsWrongFalsely : Prop := fnExactMergeBucketsRow.holds Try.pinned (OpenSpec.ofChange fnExactMergeBucketsWrong)

/-- 'laws.FnExactRollUp': WHATEVER THE INPUT: true; the input reads as it did. -/
def fnExactRollUpSpec : ChangeSpec := { name := "fnExactRollUp", fn := fun _ => fun
  | [d1, d2] => { results := [.lit (.bool true)], args := [d1, d2] }
  | _ => none }
def fnExactRollUpRow : OpenClaim := { program := "ytmokolccohobpaa", sum := "e8ed34def558b86197c80978053c9904ee18156c3e102dd2573b6d9904e6bfb7", func := "loop.example/metricstore/laws.FnExactRollUp", spec := "fnExactRollUp", apart := false }
def FnExactRollUpSaid : Prop := fnExactRollUpRow.holds Try.pinned (OpenSpec.ofChange fnExactRollUpSpec)

/-- ITS FALSE NEIGHBOUR: 'it returns false'. Refute it at one input. -/
def fnExactRollUpWrong : ChangeSpec := { name := "fnExactRollUp", fn := fun _ => fun
  | [d1, d2] => { results := [.lit (.bool false)], args := [d1, d2] }
  | _ => none }
def FnExactRollUpWrongFalsely : Prop := fnExactRollUpRow.holds Try.pinned (OpenSpec.ofChange fnExactRollUpWrong)

/-- 'laws.FnRollUp': WHATEVER THE INPUT: true; the input reads as it did. -/
def fnRollUpSpec : ChangeSpec := { name := "fnRollUp", fn := fun _ => fun
  | [d] => { results := [.lit (.bool true)], args := [d] }
  | _ => none }
def fnRollUpRow : OpenClaim := { program := "ytmokolccohobpaa", sum := "e8ed34def558b86197c80978053c9904ee18156c3e102dd2573b6d9904e6bfb7", func := "loop.example/metricstore/laws.FnRollUp", spec := "fnRollUp", unfollowed := true, recurses := true, apart := false }
def FnRollUpSaid : Prop := fnRollUpRow.holds Try.pinned (OpenSpec.ofChange fnRollUpSpec)

/-- ITS FALSE NEIGHBOUR: 'it returns false'. Refute it at one input. -/
def fnRollUpWrong : ChangeSpec := { name := "fnRollUp", fn := fun _ => fun
  | [d] => { results := [.lit (.bool false)], args := [d] }
  | _ => none }
def FnRollUpWrongFalsely : Prop := fnRollUpRow.holds Try.pinned (OpenSpec.ofChange fnRollUpWrong)

/- THE SECOND FORM. 'bulk': how many values and letters a reading holds, each counted each time it is reached (what is shared counts as often as it is met; a slice's spare places count too). A statement '..UptoSaid' is the law's where the arguments, and the package variables that the reading takes, are together of bulk at most 1048576: NARROWER than '..Said'. Prove '..Said' where nothing that the law and all that it calls make is longer than what came in: it says more and counts as full. Else prove '..UptoSaid'. A law counts once. -/
mutual
def uptoBulk {H : Type} : DataW H → Nat
  | .lit (.string bytes) => bytes.length + 1
  | .lit _ => 1
  | .nil => 1
  | .ptr d => uptoBulk d + 1
  | .slice elems spare => uptoBulkAll elems + uptoBulkAll spare + 1
  | .agg parts => uptoBulkAll parts + 1
  | .iface _ d => uptoBulk d + 1
  | .map entries => uptoBulkEntries entries + 1
  | .held _ => 1
def uptoBulkAll {H : Type} : List (DataW H) → Nat
  | [] => 0
  | d :: r => uptoBulk d + uptoBulkAll r
def uptoBulkEntries {H : Type} : List (Lit × DataW H) → Nat
  | [] => 0
  | x :: r => uptoBulkEntry x + uptoBulkEntries r
def uptoBulkEntry {H : Type} : Lit × DataW H → Nat
  | (.string bytes, d) => bytes.length + uptoBulk d + 1
  | (_, d) => uptoBulk d + 1
 end
def uptoSmall : (H : Type) → List (DataW H) → Bool := fun _ ds => decide (uptoBulkAll ds ≤ 1048576)
def OpenSpec.upto (s : _root_.Go.ChangeSpec) : _root_.Go.OpenSpec := { _root_.Go.OpenSpec.ofChange s with cond := some uptoSmall }

/-- 'laws.FnExactValidBuckets', WHERE WHAT IT READS IS OF BULK AT MOST 1048576: true; the input reads as it did. -/
def fnExactValidBucketsUptoRow : OpenClaim := { program := "ytmokolccohobpaa", sum := "e8ed34def558b86197c80978053c9904ee18156c3e102dd2573b6d9904e6bfb7", func := "loop.example/metricstore/laws.FnExactValidBuckets", spec := "fnExactValidBuckets", apart := false, narrowed := true }
def FnExactValidBucketsUptoSaid : Prop := fnExactValidBucketsUptoRow.holds Try.pinned (OpenSpec.upto fnExactValidBucketsSpec)

/-- 'laws.FnValidBuckets', WHERE WHAT IT READS IS OF BULK AT MOST 1048576: true; the input reads as it did. -/
def fnValidBucketsUptoRow : OpenClaim := { program := "ytmokolccohobpaa", sum := "e8ed34def558b86197c80978053c9904ee18156c3e102dd2573b6d9904e6bfb7", func := "loop.example/metricstore/laws.FnValidBuckets", spec := "fnValidBuckets", apart := false, narrowed := true }
def FnValidBucketsUptoSaid : Prop := fnValidBucketsUptoRow.holds Try.pinned (OpenSpec.upto fnValidBucketsSpec)

/-- 'laws.FnRollUpOne', WHERE WHAT IT READS IS OF BULK AT MOST 1048576: true; the input reads as it did. -/
def fnRollUpOneUptoRow : OpenClaim := { program := "ytmokolccohobpaa", sum := "e8ed34def558b86197c80978053c9904ee18156c3e102dd2573b6d9904e6bfb7", func := "loop.example/metricstore/laws.FnRollUpOne", spec := "fnRollUpOne", apart := false, narrowed := true }
def FnRollUpOneUptoSaid : Prop := fnRollUpOneUptoRow.holds Try.pinned (OpenSpec.upto fnRollUpOneSpec)

/-- 'laws.FnCoarser', WHERE WHAT IT READS IS OF BULK AT MOST 1048576: true; the input reads as it did. -/
def fnCoarserUptoRow : OpenClaim := { program := "ytmokolccohobpaa", sum := "e8ed34def558b86197c80978053c9904ee18156c3e102dd2573b6d9904e6bfb7", func := "loop.example/metricstore/laws.FnCoarser", spec := "fnCoarser", apart := false, narrowed := true }
def FnCoarserUptoSaid : Prop := fnCoarserUptoRow.holds Try.pinned (OpenSpec.upto fnCoarserSpec)

/-- 'laws.FnCoarserOne', WHERE WHAT IT READS IS OF BULK AT MOST 1048576: true; the input reads as it did. -/
def fnCoarserOneUptoRow : OpenClaim := { program := "ytmokolccohobpaa", sum := "e8ed34def558b86197c80978053c9904ee18156c3e102dd2573b6d9904e6bfb7", func := "loop.example/metricstore/laws.FnCoarserOne", spec := "fnCoarserOne", apart := false, narrowed := true }
def FnCoarserOneUptoSaid : Prop := fnCoarserOneUptoRow.holds Try.pinned (OpenSpec.upto fnCoarserOneSpec)

/-- 'laws.FnRollUpMean', WHERE WHAT IT READS IS OF BULK AT MOST 1048576: true; the input reads as it did. -/
def fnRollUpMeanUptoRow : OpenClaim := { program := "ytmokolccohobpaa", sum := "e8ed34def558b86197c80978053c9904ee18156c3e102dd2573b6d9904e6bfb7", func := "loop.example/metricstore/laws.FnRollUpMean", spec := "fnRollUpMean", apart := false, narrowed := true }
def FnRollUpMeanUptoSaid : Prop := fnRollUpMeanUptoRow.holds Try.pinned (OpenSpec.upto fnRollUpMeanSpec)

/-- 'laws.FnMergeBuckets', WHERE WHAT IT READS IS OF BULK AT MOST 1048576: true; the input reads as it did. -/
def fnMergeBucketsUptoRow : OpenClaim := { program := "ytmokolccohobpaa", sum := "e8ed34def558b86197c80978053c9904ee18156c3e102dd2573b6d9904e6bfb7", func := "loop.example/metricstore/laws.FnMergeBuckets", spec := "fnMergeBuckets", apart := false, narrowed := true }
def FnMergeBucketsUptoSaid : Prop := fnMergeBucketsUptoRow.holds Try.pinned (OpenSpec.upto fnMergeBucketsSpec)

/-- 'laws.FnMergeBucketsNone', WHERE WHAT IT READS IS OF BULK AT MOST 1048576: true; the input reads as it did. -/
def fnMergeBucketsNoneUptoRow : OpenClaim := { program := "ytmokolccohobpaa", sum := "e8ed34def558b86197c80978053c9904ee18156c3e102dd2573b6d9904e6bfb7", func := "loop.example/metricstore/laws.FnMergeBucketsNone", spec := "fnMergeBucketsNone", apart := false, narrowed := true }
def FnMergeBucketsNoneUptoSaid : Prop := fnMergeBucketsNoneUptoRow.holds Try.pinned (OpenSpec.upto fnMergeBucketsNoneSpec)

/-- 'laws.FnRollUpBounds', WHERE WHAT IT READS IS OF BULK AT MOST 1048576: true; the input reads as it did. -/
def fnRollUpBoundsUptoRow : OpenClaim := { program := "ytmokolccohobpaa", sum := "e8ed34def558b86197c80978053c9904ee18156c3e102dd2573b6d9904e6bfb7", func := "loop.example/metricstore/laws.FnRollUpBounds", spec := "fnRollUpBounds", unfollowed := true, recurses := true, apart := false, narrowed := true }
def FnRollUpBoundsUptoSaid : Prop := fnRollUpBoundsUptoRow.holds Try.pinned (OpenSpec.upto fnRollUpBoundsSpec)

/-- 'laws.FnExactCoarser', WHERE WHAT IT READS IS OF BULK AT MOST 1048576: true; the input reads as it did. -/
def fnExactCoarserUptoRow : OpenClaim := { program := "ytmokolccohobpaa", sum := "e8ed34def558b86197c80978053c9904ee18156c3e102dd2573b6d9904e6bfb7", func := "loop.example/metricstore/laws.FnExactCoarser", spec := "fnExactCoarser", apart := false, narrowed := true }
def FnExactCoarserUptoSaid : Prop := fnExactCoarserUptoRow.holds Try.pinned (OpenSpec.upto fnExactCoarserSpec)

/-- 'laws.FnCoarserRollUp', WHERE WHAT IT READS IS OF BULK AT MOST 1048576: true; the input reads as it did. -/
def fnCoarserRollUpUptoRow : OpenClaim := { program := "ytmokolccohobpaa", sum := "e8ed34def558b86197c80978053c9904ee18156c3e102dd2573b6d9904e6bfb7", func := "loop.example/metricstore/laws.FnCoarserRollUp", spec := "fnCoarserRollUp", apart := false, narrowed := true }
def FnCoarserRollUpUptoSaid : Prop := fnCoarserRollUpUptoRow.holds Try.pinned (OpenSpec.upto fnCoarserRollUpSpec)

/-- 'laws.FnMergeBucketsRollUp', WHERE WHAT IT READS IS OF BULK AT MOST 1048576: true; the input reads as it did. -/
def fnMergeBucketsRollUpUptoRow : OpenClaim := { program := "ytmokolccohobpaa", sum := "e8ed34def558b86197c80978053c9904ee18156c3e102dd2573b6d9904e6bfb7", func := "loop.example/metricstore/laws.FnMergeBucketsRollUp", spec := "fnMergeBucketsRollUp", apart := false, narrowed := true }
def FnMergeBucketsRollUpUptoSaid : Prop := fnMergeBucketsRollUpUptoRow.holds Try.pinned (OpenSpec.upto fnMergeBucketsRollUpSpec)

/-- 'laws.FnExactMergeBuckets', WHERE WHAT IT READS IS OF BULK AT MOST 1048576: true; the input reads as it did. -/
def fnExactMergeBucketsUptoRow : OpenClaim := { program := "ytmokolccohobpaa", sum := "e8ed34def558b86197c80978053c9904ee18156c3e102dd2573b6d9904e6bfb7", func := "loop.example/metricstore/laws.FnExactMergeBuckets", spec := "fnExactMergeBuckets", apart := false, narrowed := true }
def FnExactMergeBucketsUptoSaid : Prop := fnExactMergeBucketsUptoRow.holds Try.pinned (OpenSpec.upto fnExactMergeBucketsSpec)

/-- 'laws.FnExactRollUp', WHERE WHAT IT READS IS OF BULK AT MOST 1048576: true; the input reads as it did. -/
def fnExactRollUpUptoRow : OpenClaim := { program := "ytmokolccohobpaa", sum := "e8ed34def558b86197c80978053c9904ee18156c3e102dd2573b6d9904e6bfb7", func := "loop.example/metricstore/laws.FnExactRollUp", spec := "fnExactRollUp", apart := false, narrowed := true }
def FnExactRollUpUptoSaid : Prop := fnExactRollUpUptoRow.holds Try.pinned (OpenSpec.upto fnExactRollUpSpec)

/-- 'laws.FnRollUp', WHERE WHAT IT READS IS OF BULK AT MOST 1048576: true; the input reads as it did. -/
def fnRollUpUptoRow : OpenClaim := { program := "ytmokolccohobpaa", sum := "e8ed34def558b86197c80978053c9904ee18156c3e102dd2573b6d9904e6bfb7", func := "loop.example/metricstore/laws.FnRollUp", spec := "fnRollUp", unfollowed := true, recurses := true, apart := false, narrowed := true }
def FnRollUpUptoSaid : Prop := fnRollUpUptoRow.holds Try.pinned (OpenSpec.upto fnRollUpSpec)

end Rows
end Go.Proofs.Ytmokolccohobpaa
