/-
  No cell of these rows narrows 'for every input' (looked for: loops, veiled, ifaces, maps, wideKeys, modest, calm, conditions, laid).
  DERIVED. THE GIVEN ROWS OF THIS SEAT. 12 by the template 'for every input the law returns true; each argument reads behind the call as it read before'; 0 by the template 'total and deterministic' (their statements: YtceihlnmaeikdaaTotals.lean).
  GIVEN WITH THE SEED: the statements are not yours to turn. If you find one false, say at which input.
  Laid BY PROGRAM, IN A SANDBOX (cutbox-rows.mjs): the forced cells as the released guide's own fill.sh prints them over the translation e222bb7223f28daf… (all of the seat's roots in one cut). By AI agents, Wed Nov 11 2026. No macro, syntax, notation, axiom, sorry.
-/
import Derived.Test.YtceihlnmaeikdaaChecked
import GoSem.Claim
import GoSem.ClaimJoined
import GoSem.ClaimMapViews
import Derived.JoinedTies
import Derived.KernelRfl
namespace Go.Proofs.Ytceihlnmaeikdaa
/- THE CELL 'sum', in the pinned program and in every row, IS THE sha256 OF THE DUMP (.gsa) THAT YtceihlnmaeikdaaProg.lean LOADS. Nothing in Lean hashes anything: it is a label: what it is worth is what the hold of that sum in a sandbox is worth. -/
noncomputable def Try.pinned : Pinned := { name := "ytceihlnmaeikdaa", sum := "e222bb7223f28dafc8b9a8324eb761bb3e7badd5ef32ecdfe215ad802ef7b411", checked := Try.checked }
namespace Rows
def none {H : Type} : Left H := { results := [], args := [] }

/-- 'laws.FnExactValidSeries': WHATEVER THE INPUT: true; the input reads as it did. -/
def fnExactValidSeriesSpec : ChangeSpec := { name := "fnExactValidSeries", fn := fun _ => fun
  | [d] => { results := [.lit (.bool true)], args := [d] }
  | _ => none }
def fnExactValidSeriesRow : OpenClaim := { program := "ytceihlnmaeikdaa", sum := "e222bb7223f28dafc8b9a8324eb761bb3e7badd5ef32ecdfe215ad802ef7b411", func := "loop.example/metricstore/laws.FnExactValidSeries", spec := "fnExactValidSeries", apart := false }
def FnExactValidSeriesSaid : Prop := fnExactValidSeriesRow.holds Try.pinned (OpenSpec.ofChange fnExactValidSeriesSpec)

/-- ITS FALSE NEIGHBOUR: 'it returns false'. Refute it at one input. -/
def fnExactValidSeriesWrong : ChangeSpec := { name := "fnExactValidSeries", fn := fun _ => fun
  | [d] => { results := [.lit (.bool false)], args := [d] }
  | _ => none }
def FnExactValidSeriesWrongFalsely : Prop := fnExactValidSeriesRow.holds Try.pinned (OpenSpec.ofChange fnExactValidSeriesWrong)

/-- 'laws.FnValidSeries': WHATEVER THE INPUT: true; the input reads as it did. -/
def fnValidSeriesSpec : ChangeSpec := { name := "fnValidSeries", fn := fun _ => fun
  | [d] => { results := [.lit (.bool true)], args := [d] }
  | _ => none }
def fnValidSeriesRow : OpenClaim := { program := "ytceihlnmaeikdaa", sum := "e222bb7223f28dafc8b9a8324eb761bb3e7badd5ef32ecdfe215ad802ef7b411", func := "loop.example/metricstore/laws.FnValidSeries", spec := "fnValidSeries", apart := false }
def FnValidSeriesSaid : Prop := fnValidSeriesRow.holds Try.pinned (OpenSpec.ofChange fnValidSeriesSpec)

/-- ITS FALSE NEIGHBOUR: 'it returns false'. Refute it at one input. -/
def fnValidSeriesWrong : ChangeSpec := { name := "fnValidSeries", fn := fun _ => fun
  | [d] => { results := [.lit (.bool false)], args := [d] }
  | _ => none }
def FnValidSeriesWrongFalsely : Prop := fnValidSeriesRow.holds Try.pinned (OpenSpec.ofChange fnValidSeriesWrong)

/-- 'laws.FnValidSeriesMove': WHATEVER THE INPUT: true; the input reads as it did. -/
def fnValidSeriesMoveSpec : ChangeSpec := { name := "fnValidSeriesMove", fn := fun _ => fun
  | [d] => { results := [.lit (.bool true)], args := [d] }
  | _ => none }
def fnValidSeriesMoveRow : OpenClaim := { program := "ytceihlnmaeikdaa", sum := "e222bb7223f28dafc8b9a8324eb761bb3e7badd5ef32ecdfe215ad802ef7b411", func := "loop.example/metricstore/laws.FnValidSeriesMove", spec := "fnValidSeriesMove", apart := false }
def FnValidSeriesMoveSaid : Prop := fnValidSeriesMoveRow.holds Try.pinned (OpenSpec.ofChange fnValidSeriesMoveSpec)

/-- ITS FALSE NEIGHBOUR: 'it returns false'. Refute it at one input. -/
def fnValidSeriesMoveWrong : ChangeSpec := { name := "fnValidSeriesMove", fn := fun _ => fun
  | [d] => { results := [.lit (.bool false)], args := [d] }
  | _ => none }
def FnValidSeriesMoveWrongFalsely : Prop := fnValidSeriesMoveRow.holds Try.pinned (OpenSpec.ofChange fnValidSeriesMoveWrong)

/-- 'laws.FnExactValueAt': WHATEVER THE INPUT: true; the input reads as it did. -/
def fnExactValueAtSpec : ChangeSpec := { name := "fnExactValueAt", fn := fun _ => fun
  | [d1, d2] => { results := [.lit (.bool true)], args := [d1, d2] }
  | _ => none }
def fnExactValueAtRow : OpenClaim := { program := "ytceihlnmaeikdaa", sum := "e222bb7223f28dafc8b9a8324eb761bb3e7badd5ef32ecdfe215ad802ef7b411", func := "loop.example/metricstore/laws.FnExactValueAt", spec := "fnExactValueAt", unfollowed := true, recurses := true, apart := false }
def FnExactValueAtSaid : Prop := fnExactValueAtRow.holds Try.pinned (OpenSpec.ofChange fnExactValueAtSpec)

/-- ITS FALSE NEIGHBOUR: 'it returns false'. Refute it at one input. -/
def fnExactValueAtWrong : ChangeSpec := { name := "fnExactValueAt", fn := fun _ => fun
  | [d1, d2] => { results := [.lit (.bool false)], args := [d1, d2] }
  | _ => none }
def FnExactValueAtWrongFalsely : Prop := fnExactValueAtRow.holds Try.pinned (OpenSpec.ofChange fnExactValueAtWrong)

/-- 'laws.FnValueAt': WHATEVER THE INPUT: true; the input reads as it did. -/
def fnValueAtSpec : ChangeSpec := { name := "fnValueAt", fn := fun _ => fun
  | [d] => { results := [.lit (.bool true)], args := [d] }
  | _ => none }
def fnValueAtRow : OpenClaim := { program := "ytceihlnmaeikdaa", sum := "e222bb7223f28dafc8b9a8324eb761bb3e7badd5ef32ecdfe215ad802ef7b411", func := "loop.example/metricstore/laws.FnValueAt", spec := "fnValueAt", unfollowed := true, recurses := true, apart := false }
def FnValueAtSaid : Prop := fnValueAtRow.holds Try.pinned (OpenSpec.ofChange fnValueAtSpec)

/-- ITS FALSE NEIGHBOUR: 'it returns false'. Refute it at one input. -/
def fnValueAtWrong : ChangeSpec := { name := "fnValueAt", fn := fun _ => fun
  | [d] => { results := [.lit (.bool false)], args := [d] }
  | _ => none }
def FnValueAtWrongFalsely : Prop := fnValueAtRow.holds Try.pinned (OpenSpec.ofChange fnValueAtWrong)

/-- 'laws.FnValueAtMove': WHATEVER THE INPUT: true; the input reads as it did. -/
def fnValueAtMoveSpec : ChangeSpec := { name := "fnValueAtMove", fn := fun _ => fun
  | [d] => { results := [.lit (.bool true)], args := [d] }
  | _ => none }
def fnValueAtMoveRow : OpenClaim := { program := "ytceihlnmaeikdaa", sum := "e222bb7223f28dafc8b9a8324eb761bb3e7badd5ef32ecdfe215ad802ef7b411", func := "loop.example/metricstore/laws.FnValueAtMove", spec := "fnValueAtMove", unfollowed := true, recurses := true, apart := false }
def FnValueAtMoveSaid : Prop := fnValueAtMoveRow.holds Try.pinned (OpenSpec.ofChange fnValueAtMoveSpec)

/-- ITS FALSE NEIGHBOUR: 'it returns false'. Refute it at one input. -/
def fnValueAtMoveWrong : ChangeSpec := { name := "fnValueAtMove", fn := fun _ => fun
  | [d] => { results := [.lit (.bool false)], args := [d] }
  | _ => none }
def FnValueAtMoveWrongFalsely : Prop := fnValueAtMoveRow.holds Try.pinned (OpenSpec.ofChange fnValueAtMoveWrong)

/-- 'laws.FnExactSumOver': WHATEVER THE INPUT: true; the input reads as it did. -/
def fnExactSumOverSpec : ChangeSpec := { name := "fnExactSumOver", fn := fun _ => fun
  | [d1, d2, d3] => { results := [.lit (.bool true)], args := [d1, d2, d3] }
  | _ => none }
def fnExactSumOverRow : OpenClaim := { program := "ytceihlnmaeikdaa", sum := "e222bb7223f28dafc8b9a8324eb761bb3e7badd5ef32ecdfe215ad802ef7b411", func := "loop.example/metricstore/laws.FnExactSumOver", spec := "fnExactSumOver", unfollowed := true, recurses := true, apart := false }
def FnExactSumOverSaid : Prop := fnExactSumOverRow.holds Try.pinned (OpenSpec.ofChange fnExactSumOverSpec)

/-- ITS FALSE NEIGHBOUR: 'it returns false'. Refute it at one input. -/
def fnExactSumOverWrong : ChangeSpec := { name := "fnExactSumOver", fn := fun _ => fun
  | [d1, d2, d3] => { results := [.lit (.bool false)], args := [d1, d2, d3] }
  | _ => none }
def FnExactSumOverWrongFalsely : Prop := fnExactSumOverRow.holds Try.pinned (OpenSpec.ofChange fnExactSumOverWrong)

/-- 'laws.FnExactRangeOf': WHATEVER THE INPUT: true; the input reads as it did. -/
def fnExactRangeOfSpec : ChangeSpec := { name := "fnExactRangeOf", fn := fun _ => fun
  | [d1, d2, d3] => { results := [.lit (.bool true)], args := [d1, d2, d3] }
  | _ => none }
def fnExactRangeOfRow : OpenClaim := { program := "ytceihlnmaeikdaa", sum := "e222bb7223f28dafc8b9a8324eb761bb3e7badd5ef32ecdfe215ad802ef7b411", func := "loop.example/metricstore/laws.FnExactRangeOf", spec := "fnExactRangeOf", unfollowed := true, recurses := true, apart := false }
def FnExactRangeOfSaid : Prop := fnExactRangeOfRow.holds Try.pinned (OpenSpec.ofChange fnExactRangeOfSpec)

/-- ITS FALSE NEIGHBOUR: 'it returns false'. Refute it at one input. -/
def fnExactRangeOfWrong : ChangeSpec := { name := "fnExactRangeOf", fn := fun _ => fun
  | [d1, d2, d3] => { results := [.lit (.bool false)], args := [d1, d2, d3] }
  | _ => none }
def FnExactRangeOfWrongFalsely : Prop := fnExactRangeOfRow.holds Try.pinned (OpenSpec.ofChange fnExactRangeOfWrong)

/-- 'laws.FnExactResets': WHATEVER THE INPUT: true; the input reads as it did. -/
def fnExactResetsSpec : ChangeSpec := { name := "fnExactResets", fn := fun _ => fun
  | [d1, d2, d3] => { results := [.lit (.bool true)], args := [d1, d2, d3] }
  | _ => none }
def fnExactResetsRow : OpenClaim := { program := "ytceihlnmaeikdaa", sum := "e222bb7223f28dafc8b9a8324eb761bb3e7badd5ef32ecdfe215ad802ef7b411", func := "loop.example/metricstore/laws.FnExactResets", spec := "fnExactResets", unfollowed := true, recurses := true, apart := false }
def FnExactResetsSaid : Prop := fnExactResetsRow.holds Try.pinned (OpenSpec.ofChange fnExactResetsSpec)

/-- ITS FALSE NEIGHBOUR: 'it returns false'. Refute it at one input. -/
def fnExactResetsWrong : ChangeSpec := { name := "fnExactResets", fn := fun _ => fun
  | [d1, d2, d3] => { results := [.lit (.bool false)], args := [d1, d2, d3] }
  | _ => none }
def FnExactResetsWrongFalsely : Prop := fnExactResetsRow.holds Try.pinned (OpenSpec.ofChange fnExactResetsWrong)

/-- 'laws.FnRangeOf': WHATEVER THE INPUT: true; the input reads as it did. -/
def fnRangeOfSpec : ChangeSpec := { name := "fnRangeOf", fn := fun _ => fun
  | [d] => { results := [.lit (.bool true)], args := [d] }
  | _ => none }
def fnRangeOfRow : OpenClaim := { program := "ytceihlnmaeikdaa", sum := "e222bb7223f28dafc8b9a8324eb761bb3e7badd5ef32ecdfe215ad802ef7b411", func := "loop.example/metricstore/laws.FnRangeOf", spec := "fnRangeOf", unfollowed := true, recurses := true, apart := false }
def FnRangeOfSaid : Prop := fnRangeOfRow.holds Try.pinned (OpenSpec.ofChange fnRangeOfSpec)

/-- ITS FALSE NEIGHBOUR: 'it returns false'. Refute it at one input. -/
def fnRangeOfWrong : ChangeSpec := { name := "fnRangeOf", fn := fun _ => fun
  | [d] => { results := [.lit (.bool false)], args := [d] }
  | _ => none }
def FnRangeOfWrongFalsely : Prop := fnRangeOfRow.holds Try.pinned (OpenSpec.ofChange fnRangeOfWrong)

/-- 'laws.FnRangeOfAll': WHATEVER THE INPUT: true; the input reads as it did. -/
def fnRangeOfAllSpec : ChangeSpec := { name := "fnRangeOfAll", fn := fun _ => fun
  | [d] => { results := [.lit (.bool true)], args := [d] }
  | _ => none }
def fnRangeOfAllRow : OpenClaim := { program := "ytceihlnmaeikdaa", sum := "e222bb7223f28dafc8b9a8324eb761bb3e7badd5ef32ecdfe215ad802ef7b411", func := "loop.example/metricstore/laws.FnRangeOfAll", spec := "fnRangeOfAll", unfollowed := true, recurses := true, apart := false }
def FnRangeOfAllSaid : Prop := fnRangeOfAllRow.holds Try.pinned (OpenSpec.ofChange fnRangeOfAllSpec)

/-- ITS FALSE NEIGHBOUR: 'it returns false'. Refute it at one input. -/
def fnRangeOfAllWrong : ChangeSpec := { name := "fnRangeOfAll", fn := fun _ => fun
  | [d] => { results := [.lit (.bool false)], args := [d] }
  | _ => none }
def FnRangeOfAllWrongFalsely : Prop := fnRangeOfAllRow.holds Try.pinned (OpenSpec.ofChange fnRangeOfAllWrong)

/-- 'laws.FnRangeOfSplit': WHATEVER THE INPUT: true; the input reads as it did. -/
def fnRangeOfSplitSpec : ChangeSpec := { name := "fnRangeOfSplit", fn := fun _ => fun
  | [d] => { results := [.lit (.bool true)], args := [d] }
  | _ => none }
def fnRangeOfSplitRow : OpenClaim := { program := "ytceihlnmaeikdaa", sum := "e222bb7223f28dafc8b9a8324eb761bb3e7badd5ef32ecdfe215ad802ef7b411", func := "loop.example/metricstore/laws.FnRangeOfSplit", spec := "fnRangeOfSplit", unfollowed := true, recurses := true, apart := false }
def FnRangeOfSplitSaid : Prop := fnRangeOfSplitRow.holds Try.pinned (OpenSpec.ofChange fnRangeOfSplitSpec)

/-- ITS FALSE NEIGHBOUR: 'it returns false'. Refute it at one input. -/
def fnRangeOfSplitWrong : ChangeSpec := { name := "fnRangeOfSplit", fn := fun _ => fun
  | [d] => { results := [.lit (.bool false)], args := [d] }
  | _ => none }
def FnRangeOfSplitWrongFalsely : Prop := fnRangeOfSplitRow.holds Try.pinned (OpenSpec.ofChange fnRangeOfSplitWrong)

/- THE SECOND FORM. 'bulk': how many values and letters a reading holds, each counted each time it is reached (what is shared counts as often as it is met; a slice's spare places count too). A statement '..UptoSaid' is the law's where the arguments, and the package variables that the reading takes, are together of bulk at most 1048576: NARROWER than '..Said'. Prove '..Said' where nothing that the law and all that it calls make is longer than what came in: it says more and counts as full. Else prove '..UptoSaid'. A law counts once. -/
mutual
def uptoBulk {H : Type} : DataW H → Nat
  | .lit (.string bytes) => bytes.length + 1
  | .lit _ => 1
  | .nil => 1
  | .ptr d => uptoBulk d + 1
  | .slice elems spare => uptoBulkAll elems + uptoBulkAll spare + 1
  | .agg parts => uptoBulkAll parts + 1
  | .iface _ d => uptoBulk d + 1
  | .map entries => uptoBulkEntries entries + 1
  | .held _ => 1
def uptoBulkAll {H : Type} : List (DataW H) → Nat
  | [] => 0
  | d :: r => uptoBulk d + uptoBulkAll r
def uptoBulkEntries {H : Type} : List (Lit × DataW H) → Nat
  | [] => 0
  | x :: r => uptoBulkEntry x + uptoBulkEntries r
def uptoBulkEntry {H : Type} : Lit × DataW H → Nat
  | (.string bytes, d) => bytes.length + uptoBulk d + 1
  | (_, d) => uptoBulk d + 1
 end
def uptoSmall : (H : Type) → List (DataW H) → Bool := fun _ ds => decide (uptoBulkAll ds ≤ 1048576)
def OpenSpec.upto (s : _root_.Go.ChangeSpec) : _root_.Go.OpenSpec := { _root_.Go.OpenSpec.ofChange s with cond := some uptoSmall }

/-- 'laws.FnExactValidSeries', WHERE WHAT IT READS IS OF BULK AT MOST 1048576: true; the input reads as it did. -/
def fnExactValidSeriesUptoRow : OpenClaim := { program := "ytceihlnmaeikdaa", sum := "e222bb7223f28dafc8b9a8324eb761bb3e7badd5ef32ecdfe215ad802ef7b411", func := "loop.example/metricstore/laws.FnExactValidSeries", spec := "fnExactValidSeries", apart := false, narrowed := true }
def FnExactValidSeriesUptoSaid : Prop := fnExactValidSeriesUptoRow.holds Try.pinned (OpenSpec.upto fnExactValidSeriesSpec)

/-- 'laws.FnValidSeries', WHERE WHAT IT READS IS OF BULK AT MOST 1048576: true; the input reads as it did. -/
def fnValidSeriesUptoRow : OpenClaim := { program := "ytceihlnmaeikdaa", sum := "e222bb7223f28dafc8b9a8324eb761bb3e7badd5ef32ecdfe215ad802ef7b411", func := "loop.example/metricstore/laws.FnValidSeries", spec := "fnValidSeries", apart := false, narrowed := true }
def FnValidSeriesUptoSaid : Prop := fnValidSeriesUptoRow.holds Try.pinned (OpenSpec.upto fnValidSeriesSpec)

/-- 'laws.FnValidSeriesMove', WHERE WHAT IT READS IS OF BULK AT MOST 1048576: true; the input reads as it did. -/
def fnValidSeriesMoveUptoRow : OpenClaim := { program := "ytceihlnmaeikdaa", sum := "e222bb7223f28dafc8b9a8324eb761bb3e7badd5ef32ecdfe215ad802ef7b411", func := "loop.example/metricstore/laws.FnValidSeriesMove", spec := "fnValidSeriesMove", apart := false, narrowed := true }
def FnValidSeriesMoveUptoSaid : Prop := fnValidSeriesMoveUptoRow.holds Try.pinned (OpenSpec.upto fnValidSeriesMoveSpec)

/-- 'laws.FnExactValueAt', WHERE WHAT IT READS IS OF BULK AT MOST 1048576: true; the input reads as it did. -/
def fnExactValueAtUptoRow : OpenClaim := { program := "ytceihlnmaeikdaa", sum := "e222bb7223f28dafc8b9a8324eb761bb3e7badd5ef32ecdfe215ad802ef7b411", func := "loop.example/metricstore/laws.FnExactValueAt", spec := "fnExactValueAt", unfollowed := true, recurses := true, apart := false, narrowed := true }
def FnExactValueAtUptoSaid : Prop := fnExactValueAtUptoRow.holds Try.pinned (OpenSpec.upto fnExactValueAtSpec)

/-- 'laws.FnValueAt', WHERE WHAT IT READS IS OF BULK AT MOST 1048576: true; the input reads as it did. -/
def fnValueAtUptoRow : OpenClaim := { program := "ytceihlnmaeikdaa", sum := "e222bb7223f28dafc8b9a8324eb761bb3e7badd5ef32ecdfe215ad802ef7b411", func := "loop.example/metricstore/laws.FnValueAt", spec := "fnValueAt", unfollowed := true, recurses := true, apart := false, narrowed := true }
def FnValueAtUptoSaid : Prop := fnValueAtUptoRow.holds Try.pinned (OpenSpec.upto fnValueAtSpec)

/-- 'laws.FnValueAtMove', WHERE WHAT IT READS IS OF BULK AT MOST 1048576: true; the input reads as it did. -/
def fnValueAtMoveUptoRow : OpenClaim := { program := "ytceihlnmaeikdaa", sum := "e222bb7223f28dafc8b9a8324eb761bb3e7badd5ef32ecdfe215ad802ef7b411", func := "loop.example/metricstore/laws.FnValueAtMove", spec := "fnValueAtMove", unfollowed := true, recurses := true, apart := false, narrowed := true }
def FnValueAtMoveUptoSaid : Prop := fnValueAtMoveUptoRow.holds Try.pinned (OpenSpec.upto fnValueAtMoveSpec)

/-- 'laws.FnExactSumOver', WHERE WHAT IT READS IS OF BULK AT MOST 1048576: true; the input reads as it did. -/
def fnExactSumOverUptoRow : OpenClaim := { program := "ytceihlnmaeikdaa", sum := "e222bb7223f28dafc8b9a8324eb761bb3e7badd5ef32ecdfe215ad802ef7b411", func := "loop.example/metricstore/laws.FnExactSumOver", spec := "fnExactSumOver", unfollowed := true, recurses := true, apart := false, narrowed := true }
def FnExactSumOverUptoSaid : Prop := fnExactSumOverUptoRow.holds Try.pinned (OpenSpec.upto fnExactSumOverSpec)

/-- 'laws.FnExactRangeOf', WHERE WHAT IT READS IS OF BULK AT MOST 1048576: true; the input reads as it did. -/
def fnExactRangeOfUptoRow : OpenClaim := { program := "ytceihlnmaeikdaa", sum := "e222bb7223f28dafc8b9a8324eb761bb3e7badd5ef32ecdfe215ad802ef7b411", func := "loop.example/metricstore/laws.FnExactRangeOf", spec := "fnExactRangeOf", unfollowed := true, recurses := true, apart := false, narrowed := true }
def FnExactRangeOfUptoSaid : Prop := fnExactRangeOfUptoRow.holds Try.pinned (OpenSpec.upto fnExactRangeOfSpec)

/-- 'laws.FnExactResets', WHERE WHAT IT READS IS OF BULK AT MOST 1048576: true; the input reads as it did. -/
def fnExactResetsUptoRow : OpenClaim := { program := "ytceihlnmaeikdaa", sum := "e222bb7223f28dafc8b9a8324eb761bb3e7badd5ef32ecdfe215ad802ef7b411", func := "loop.example/metricstore/laws.FnExactResets", spec := "fnExactResets", unfollowed := true, recurses := true, apart := false, narrowed := true }
def FnExactResetsUptoSaid : Prop := fnExactResetsUptoRow.holds Try.pinned (OpenSpec.upto fnExactResetsSpec)

/-- 'laws.FnRangeOf', WHERE WHAT IT READS IS OF BULK AT MOST 1048576: true; the input reads as it did. -/
def fnRangeOfUptoRow : OpenClaim := { program := "ytceihlnmaeikdaa", sum := "e222bb7223f28dafc8b9a8324eb761bb3e7badd5ef32ecdfe215ad802ef7b411", func := "loop.example/metricstore/laws.FnRangeOf", spec := "fnRangeOf", unfollowed := true, recurses := true, apart := false, narrowed := true }
def FnRangeOfUptoSaid : Prop := fnRangeOfUptoRow.holds Try.pinned (OpenSpec.upto fnRangeOfSpec)

/-- 'laws.FnRangeOfAll', WHERE WHAT IT READS IS OF BULK AT MOST 1048576: true; the input reads as it did. -/
def fnRangeOfAllUptoRow : OpenClaim := { program := "ytceihlnmaeikdaa", sum := "e222bb7223f28dafc8b9a8324eb761bb3e7badd5ef32ecdfe215ad802ef7b411", func := "loop.example/metricstore/laws.FnRangeOfAll", spec := "fnRangeOfAll", unfollowed := true, recurses := true, apart := false, narrowed := true }
def FnRangeOfAllUptoSaid : Prop := fnRangeOfAllUptoRow.holds Try.pinned (OpenSpec.upto fnRangeOfAllSpec)

/-- 'laws.FnRangeOfSplit', WHERE WHAT IT READS IS OF BULK AT MOST 1048576: true; the input reads as it did. -/
def fnRangeOfSplitUptoRow : OpenClaim := { program := "ytceihlnmaeikdaa", sum := "e222bb7223f28dafc8b9a8324eb761bb3e7badd5ef32ecdfe215ad802ef7b411", func := "loop.example/metricstore/laws.FnRangeOfSplit", spec := "fnRangeOfSplit", unfollowed := true, recurses := true, apart := false, narrowed := true }
def FnRangeOfSplitUptoSaid : Prop := fnRangeOfSplitUptoRow.holds Try.pinned (OpenSpec.upto fnRangeOfSplitSpec)

end Rows
end Go.Proofs.Ytceihlnmaeikdaa
