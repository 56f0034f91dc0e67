/-
  No cell of these rows narrows 'for every input' (looked for: loops, veiled, ifaces, maps, wideKeys, modest, calm, conditions, laid).
  DERIVED. THE GIVEN ROWS OF THIS SEAT. 15 by the template 'for every input the law returns true; each argument reads behind the call as it read before'; 0 by the template 'total and deterministic' (their statements: YtcgeagcfhjdpcaaTotals.lean).
  GIVEN WITH THE SEED: the statements are not yours to turn. If you find one false, say at which input.
  Laid BY PROGRAM, IN A SANDBOX (cutbox-rows.mjs): the forced cells as the released guide's own fill.sh prints them over the translation bb72f23761170832… (all of the seat's roots in one cut). By AI agents, Wed Nov 11 2026. No macro, syntax, notation, axiom, sorry.
-/
import Derived.Test.YtcgeagcfhjdpcaaChecked
import GoSem.Claim
import GoSem.ClaimJoined
import GoSem.ClaimMapViews
import Derived.JoinedTies
import Derived.KernelRfl
namespace Go.Proofs.Ytcgeagcfhjdpcaa
/- THE CELL 'sum', in the pinned program and in every row, IS THE sha256 OF THE DUMP (.gsa) THAT YtcgeagcfhjdpcaaProg.lean LOADS. Nothing in Lean hashes anything: it is a label: what it is worth is what the hold of that sum in a sandbox is worth. -/
noncomputable def Try.pinned : Pinned := { name := "ytcgeagcfhjdpcaa", sum := "bb72f2376117083213bcd64ae021b32dc4df0886e75ceaf45f700bb96a491dfe", checked := Try.checked }
namespace Rows
def none {H : Type} : Left H := { results := [], args := [] }

/-- 'laws.FnUnpackSeriesTorn': WHATEVER THE INPUT: true; the input reads as it did. -/
def fnUnpackSeriesTornSpec : ChangeSpec := { name := "fnUnpackSeriesTorn", fn := fun _ => fun
  | [d] => { results := [.lit (.bool true)], args := [d] }
  | _ => none }
def fnUnpackSeriesTornRow : OpenClaim := { program := "ytcgeagcfhjdpcaa", sum := "bb72f2376117083213bcd64ae021b32dc4df0886e75ceaf45f700bb96a491dfe", func := "loop.example/metricstore/laws.FnUnpackSeriesTorn", spec := "fnUnpackSeriesTorn", unfollowed := true, recurses := true, apart := false }
def FnUnpackSeriesTornSaid : Prop := fnUnpackSeriesTornRow.holds Try.pinned (OpenSpec.ofChange fnUnpackSeriesTornSpec)

/-- ITS FALSE NEIGHBOUR: 'it returns false'. Refute it at one input. -/
def fnUnpackSeriesTornWrong : ChangeSpec := { name := "fnUnpackSeriesTorn", fn := fun _ => fun
  | [d] => { results := [.lit (.bool false)], args := [d] }
  | _ => none }
def FnUnpackSeriesTornWrongFalsely : Prop := fnUnpackSeriesTornRow.holds Try.pinned (OpenSpec.ofChange fnUnpackSeriesTornWrong)

/-- 'laws.FnPackSeries': WHATEVER THE INPUT: true; the input reads as it did. -/
def fnPackSeriesSpec : ChangeSpec := { name := "fnPackSeries", fn := fun _ => fun
  | [d] => { results := [.lit (.bool true)], args := [d] }
  | _ => none }
def fnPackSeriesRow : OpenClaim := { program := "ytcgeagcfhjdpcaa", sum := "bb72f2376117083213bcd64ae021b32dc4df0886e75ceaf45f700bb96a491dfe", func := "loop.example/metricstore/laws.FnPackSeries", spec := "fnPackSeries", unfollowed := true, recurses := true, apart := false }
def FnPackSeriesSaid : Prop := fnPackSeriesRow.holds Try.pinned (OpenSpec.ofChange fnPackSeriesSpec)

/-- ITS FALSE NEIGHBOUR: 'it returns false'. Refute it at one input. -/
def fnPackSeriesWrong : ChangeSpec := { name := "fnPackSeries", fn := fun _ => fun
  | [d] => { results := [.lit (.bool false)], args := [d] }
  | _ => none }
def FnPackSeriesWrongFalsely : Prop := fnPackSeriesRow.holds Try.pinned (OpenSpec.ofChange fnPackSeriesWrong)

/-- 'laws.FnUnpackSeries': WHATEVER THE INPUT: true; the input reads as it did. -/
def fnUnpackSeriesSpec : ChangeSpec := { name := "fnUnpackSeries", fn := fun _ => fun
  | [d] => { results := [.lit (.bool true)], args := [d] }
  | _ => none }
def fnUnpackSeriesRow : OpenClaim := { program := "ytcgeagcfhjdpcaa", sum := "bb72f2376117083213bcd64ae021b32dc4df0886e75ceaf45f700bb96a491dfe", func := "loop.example/metricstore/laws.FnUnpackSeries", spec := "fnUnpackSeries", unfollowed := true, recurses := true, apart := false }
def FnUnpackSeriesSaid : Prop := fnUnpackSeriesRow.holds Try.pinned (OpenSpec.ofChange fnUnpackSeriesSpec)

/-- ITS FALSE NEIGHBOUR: 'it returns false'. Refute it at one input. -/
def fnUnpackSeriesWrong : ChangeSpec := { name := "fnUnpackSeries", fn := fun _ => fun
  | [d] => { results := [.lit (.bool false)], args := [d] }
  | _ => none }
def FnUnpackSeriesWrongFalsely : Prop := fnUnpackSeriesRow.holds Try.pinned (OpenSpec.ofChange fnUnpackSeriesWrong)

/-- 'laws.FnDeltasOfFirst': WHATEVER THE INPUT: true; the input reads as it did. -/
def fnDeltasOfFirstSpec : ChangeSpec := { name := "fnDeltasOfFirst", fn := fun _ => fun
  | [d] => { results := [.lit (.bool true)], args := [d] }
  | _ => none }
def fnDeltasOfFirstRow : OpenClaim := { program := "ytcgeagcfhjdpcaa", sum := "bb72f2376117083213bcd64ae021b32dc4df0886e75ceaf45f700bb96a491dfe", func := "loop.example/metricstore/laws.FnDeltasOfFirst", spec := "fnDeltasOfFirst", unfollowed := true, recurses := true, apart := false }
def FnDeltasOfFirstSaid : Prop := fnDeltasOfFirstRow.holds Try.pinned (OpenSpec.ofChange fnDeltasOfFirstSpec)

/-- ITS FALSE NEIGHBOUR: 'it returns false'. Refute it at one input. -/
def fnDeltasOfFirstWrong : ChangeSpec := { name := "fnDeltasOfFirst", fn := fun _ => fun
  | [d] => { results := [.lit (.bool false)], args := [d] }
  | _ => none }
def FnDeltasOfFirstWrongFalsely : Prop := fnDeltasOfFirstRow.holds Try.pinned (OpenSpec.ofChange fnDeltasOfFirstWrong)

/-- 'laws.FnDeltasOfMove': WHATEVER THE INPUT: true; the input reads as it did. -/
def fnDeltasOfMoveSpec : ChangeSpec := { name := "fnDeltasOfMove", fn := fun _ => fun
  | [d] => { results := [.lit (.bool true)], args := [d] }
  | _ => none }
def fnDeltasOfMoveRow : OpenClaim := { program := "ytcgeagcfhjdpcaa", sum := "bb72f2376117083213bcd64ae021b32dc4df0886e75ceaf45f700bb96a491dfe", func := "loop.example/metricstore/laws.FnDeltasOfMove", spec := "fnDeltasOfMove", unfollowed := true, recurses := true, apart := false }
def FnDeltasOfMoveSaid : Prop := fnDeltasOfMoveRow.holds Try.pinned (OpenSpec.ofChange fnDeltasOfMoveSpec)

/-- ITS FALSE NEIGHBOUR: 'it returns false'. Refute it at one input. -/
def fnDeltasOfMoveWrong : ChangeSpec := { name := "fnDeltasOfMove", fn := fun _ => fun
  | [d] => { results := [.lit (.bool false)], args := [d] }
  | _ => none }
def FnDeltasOfMoveWrongFalsely : Prop := fnDeltasOfMoveRow.holds Try.pinned (OpenSpec.ofChange fnDeltasOfMoveWrong)

/-- 'laws.FnSumsOfEnd': WHATEVER THE INPUT: true; the input reads as it did. -/
def fnSumsOfEndSpec : ChangeSpec := { name := "fnSumsOfEnd", fn := fun _ => fun
  | [d] => { results := [.lit (.bool true)], args := [d] }
  | _ => none }
def fnSumsOfEndRow : OpenClaim := { program := "ytcgeagcfhjdpcaa", sum := "bb72f2376117083213bcd64ae021b32dc4df0886e75ceaf45f700bb96a491dfe", func := "loop.example/metricstore/laws.FnSumsOfEnd", spec := "fnSumsOfEnd", unfollowed := true, recurses := true, apart := false }
def FnSumsOfEndSaid : Prop := fnSumsOfEndRow.holds Try.pinned (OpenSpec.ofChange fnSumsOfEndSpec)

/-- ITS FALSE NEIGHBOUR: 'it returns false'. Refute it at one input. -/
def fnSumsOfEndWrong : ChangeSpec := { name := "fnSumsOfEnd", fn := fun _ => fun
  | [d] => { results := [.lit (.bool false)], args := [d] }
  | _ => none }
def FnSumsOfEndWrongFalsely : Prop := fnSumsOfEndRow.holds Try.pinned (OpenSpec.ofChange fnSumsOfEndWrong)

/-- 'laws.FnTimeSteps': WHATEVER THE INPUT: true; the input reads as it did. -/
def fnTimeStepsSpec : ChangeSpec := { name := "fnTimeSteps", fn := fun _ => fun
  | [d] => { results := [.lit (.bool true)], args := [d] }
  | _ => none }
def fnTimeStepsRow : OpenClaim := { program := "ytcgeagcfhjdpcaa", sum := "bb72f2376117083213bcd64ae021b32dc4df0886e75ceaf45f700bb96a491dfe", func := "loop.example/metricstore/laws.FnTimeSteps", spec := "fnTimeSteps", unfollowed := true, recurses := true, apart := false }
def FnTimeStepsSaid : Prop := fnTimeStepsRow.holds Try.pinned (OpenSpec.ofChange fnTimeStepsSpec)

/-- ITS FALSE NEIGHBOUR: 'it returns false'. Refute it at one input. -/
def fnTimeStepsWrong : ChangeSpec := { name := "fnTimeSteps", fn := fun _ => fun
  | [d] => { results := [.lit (.bool false)], args := [d] }
  | _ => none }
def FnTimeStepsWrongFalsely : Prop := fnTimeStepsRow.holds Try.pinned (OpenSpec.ofChange fnTimeStepsWrong)

/-- 'laws.FnExactTimeSteps': WHATEVER THE INPUT: true; the input reads as it did. -/
def fnExactTimeStepsSpec : ChangeSpec := { name := "fnExactTimeSteps", fn := fun _ => fun
  | [d] => { results := [.lit (.bool true)], args := [d] }
  | _ => none }
def fnExactTimeStepsRow : OpenClaim := { program := "ytcgeagcfhjdpcaa", sum := "bb72f2376117083213bcd64ae021b32dc4df0886e75ceaf45f700bb96a491dfe", func := "loop.example/metricstore/laws.FnExactTimeSteps", spec := "fnExactTimeSteps", unfollowed := true, recurses := true, apart := false }
def FnExactTimeStepsSaid : Prop := fnExactTimeStepsRow.holds Try.pinned (OpenSpec.ofChange fnExactTimeStepsSpec)

/-- ITS FALSE NEIGHBOUR: 'it returns false'. Refute it at one input. -/
def fnExactTimeStepsWrong : ChangeSpec := { name := "fnExactTimeSteps", fn := fun _ => fun
  | [d] => { results := [.lit (.bool false)], args := [d] }
  | _ => none }
def FnExactTimeStepsWrongFalsely : Prop := fnExactTimeStepsRow.holds Try.pinned (OpenSpec.ofChange fnExactTimeStepsWrong)

/-- 'laws.FnTimeStepsBack': WHATEVER THE INPUT: true; the input reads as it did. -/
def fnTimeStepsBackSpec : ChangeSpec := { name := "fnTimeStepsBack", fn := fun _ => fun
  | [d] => { results := [.lit (.bool true)], args := [d] }
  | _ => none }
def fnTimeStepsBackRow : OpenClaim := { program := "ytcgeagcfhjdpcaa", sum := "bb72f2376117083213bcd64ae021b32dc4df0886e75ceaf45f700bb96a491dfe", func := "loop.example/metricstore/laws.FnTimeStepsBack", spec := "fnTimeStepsBack", unfollowed := true, recurses := true, apart := false }
def FnTimeStepsBackSaid : Prop := fnTimeStepsBackRow.holds Try.pinned (OpenSpec.ofChange fnTimeStepsBackSpec)

/-- ITS FALSE NEIGHBOUR: 'it returns false'. Refute it at one input. -/
def fnTimeStepsBackWrong : ChangeSpec := { name := "fnTimeStepsBack", fn := fun _ => fun
  | [d] => { results := [.lit (.bool false)], args := [d] }
  | _ => none }
def FnTimeStepsBackWrongFalsely : Prop := fnTimeStepsBackRow.holds Try.pinned (OpenSpec.ofChange fnTimeStepsBackWrong)

/-- 'laws.FnExactPackedSize': WHATEVER THE INPUT: true; the input reads as it did. -/
def fnExactPackedSizeSpec : ChangeSpec := { name := "fnExactPackedSize", fn := fun _ => fun
  | [d] => { results := [.lit (.bool true)], args := [d] }
  | _ => none }
def fnExactPackedSizeRow : OpenClaim := { program := "ytcgeagcfhjdpcaa", sum := "bb72f2376117083213bcd64ae021b32dc4df0886e75ceaf45f700bb96a491dfe", func := "loop.example/metricstore/laws.FnExactPackedSize", spec := "fnExactPackedSize", unfollowed := true, recurses := true, apart := false }
def FnExactPackedSizeSaid : Prop := fnExactPackedSizeRow.holds Try.pinned (OpenSpec.ofChange fnExactPackedSizeSpec)

/-- ITS FALSE NEIGHBOUR: 'it returns false'. Refute it at one input. -/
def fnExactPackedSizeWrong : ChangeSpec := { name := "fnExactPackedSize", fn := fun _ => fun
  | [d] => { results := [.lit (.bool false)], args := [d] }
  | _ => none }
def FnExactPackedSizeWrongFalsely : Prop := fnExactPackedSizeRow.holds Try.pinned (OpenSpec.ofChange fnExactPackedSizeWrong)

/-- 'laws.FnPackedSize': WHATEVER THE INPUT: true; the input reads as it did. -/
def fnPackedSizeSpec : ChangeSpec := { name := "fnPackedSize", fn := fun _ => fun
  | [d] => { results := [.lit (.bool true)], args := [d] }
  | _ => none }
def fnPackedSizeRow : OpenClaim := { program := "ytcgeagcfhjdpcaa", sum := "bb72f2376117083213bcd64ae021b32dc4df0886e75ceaf45f700bb96a491dfe", func := "loop.example/metricstore/laws.FnPackedSize", spec := "fnPackedSize", unfollowed := true, recurses := true, apart := false }
def FnPackedSizeSaid : Prop := fnPackedSizeRow.holds Try.pinned (OpenSpec.ofChange fnPackedSizeSpec)

/-- ITS FALSE NEIGHBOUR: 'it returns false'. Refute it at one input. -/
def fnPackedSizeWrong : ChangeSpec := { name := "fnPackedSize", fn := fun _ => fun
  | [d] => { results := [.lit (.bool false)], args := [d] }
  | _ => none }
def FnPackedSizeWrongFalsely : Prop := fnPackedSizeRow.holds Try.pinned (OpenSpec.ofChange fnPackedSizeWrong)

/-- 'laws.FnPackedSizeEven': WHATEVER THE INPUT: true; the input reads as it did. -/
def fnPackedSizeEvenSpec : ChangeSpec := { name := "fnPackedSizeEven", fn := fun _ => fun
  | [d] => { results := [.lit (.bool true)], args := [d] }
  | _ => none }
def fnPackedSizeEvenRow : OpenClaim := { program := "ytcgeagcfhjdpcaa", sum := "bb72f2376117083213bcd64ae021b32dc4df0886e75ceaf45f700bb96a491dfe", func := "loop.example/metricstore/laws.FnPackedSizeEven", spec := "fnPackedSizeEven", unfollowed := true, recurses := true, apart := false }
def FnPackedSizeEvenSaid : Prop := fnPackedSizeEvenRow.holds Try.pinned (OpenSpec.ofChange fnPackedSizeEvenSpec)

/-- ITS FALSE NEIGHBOUR: 'it returns false'. Refute it at one input. -/
def fnPackedSizeEvenWrong : ChangeSpec := { name := "fnPackedSizeEven", fn := fun _ => fun
  | [d] => { results := [.lit (.bool false)], args := [d] }
  | _ => none }
def FnPackedSizeEvenWrongFalsely : Prop := fnPackedSizeEvenRow.holds Try.pinned (OpenSpec.ofChange fnPackedSizeEvenWrong)

/-- 'laws.FnExactUnpackSeries': WHATEVER THE INPUT: true; the input reads as it did. -/
def fnExactUnpackSeriesSpec : ChangeSpec := { name := "fnExactUnpackSeries", fn := fun _ => fun
  | [d] => { results := [.lit (.bool true)], args := [d] }
  | _ => none }
def fnExactUnpackSeriesRow : OpenClaim := { program := "ytcgeagcfhjdpcaa", sum := "bb72f2376117083213bcd64ae021b32dc4df0886e75ceaf45f700bb96a491dfe", func := "loop.example/metricstore/laws.FnExactUnpackSeries", spec := "fnExactUnpackSeries", apart := false }
def FnExactUnpackSeriesSaid : Prop := fnExactUnpackSeriesRow.holds Try.pinned (OpenSpec.ofChange fnExactUnpackSeriesSpec)

/-- ITS FALSE NEIGHBOUR: 'it returns false'. Refute it at one input. -/
def fnExactUnpackSeriesWrong : ChangeSpec := { name := "fnExactUnpackSeries", fn := fun _ => fun
  | [d] => { results := [.lit (.bool false)], args := [d] }
  | _ => none }
def FnExactUnpackSeriesWrongFalsely : Prop := fnExactUnpackSeriesRow.holds Try.pinned (OpenSpec.ofChange fnExactUnpackSeriesWrong)

/-- 'laws.FnPackSeriesPut': WHATEVER THE INPUT: true; the input reads as it did. -/
def fnPackSeriesPutSpec : ChangeSpec := { name := "fnPackSeriesPut", fn := fun _ => fun
  | [d] => { results := [.lit (.bool true)], args := [d] }
  | _ => none }
def fnPackSeriesPutRow : OpenClaim := { program := "ytcgeagcfhjdpcaa", sum := "bb72f2376117083213bcd64ae021b32dc4df0886e75ceaf45f700bb96a491dfe", func := "loop.example/metricstore/laws.FnPackSeriesPut", spec := "fnPackSeriesPut", unfollowed := true, recurses := true, apart := false }
def FnPackSeriesPutSaid : Prop := fnPackSeriesPutRow.holds Try.pinned (OpenSpec.ofChange fnPackSeriesPutSpec)

/-- ITS FALSE NEIGHBOUR: 'it returns false'. Refute it at one input. -/
def fnPackSeriesPutWrong : ChangeSpec := { name := "fnPackSeriesPut", fn := fun _ => fun
  | [d] => { results := [.lit (.bool false)], args := [d] }
  | _ => none }
def FnPackSeriesPutWrongFalsely : Prop := fnPackSeriesPutRow.holds Try.pinned (OpenSpec.ofChange fnPackSeriesPutWrong)

/-- 'laws.FnExactPackSeries': WHATEVER THE INPUT: true; the input reads as it did. -/
def fnExactPackSeriesSpec : ChangeSpec := { name := "fnExactPackSeries", fn := fun _ => fun
  | [d] => { results := [.lit (.bool true)], args := [d] }
  | _ => none }
def fnExactPackSeriesRow : OpenClaim := { program := "ytcgeagcfhjdpcaa", sum := "bb72f2376117083213bcd64ae021b32dc4df0886e75ceaf45f700bb96a491dfe", func := "loop.example/metricstore/laws.FnExactPackSeries", spec := "fnExactPackSeries", unfollowed := true, recurses := true, apart := false }
def FnExactPackSeriesSaid : Prop := fnExactPackSeriesRow.holds Try.pinned (OpenSpec.ofChange fnExactPackSeriesSpec)

/-- ITS FALSE NEIGHBOUR: 'it returns false'. Refute it at one input. -/
def fnExactPackSeriesWrong : ChangeSpec := { name := "fnExactPackSeries", fn := fun _ => fun
  | [d] => { results := [.lit (.bool false)], args := [d] }
  | _ => none }
def FnExactPackSeriesWrongFalsely : Prop := fnExactPackSeriesRow.holds Try.pinned (OpenSpec.ofChange fnExactPackSeriesWrong)

/- THE SECOND FORM. 'bulk': how many values and letters a reading holds, each counted each time it is reached (what is shared counts as often as it is met; a slice's spare places count too). A statement '..UptoSaid' is the law's where the arguments, and the package variables that the reading takes, are together of bulk at most 1048576: NARROWER than '..Said'. Prove '..Said' where nothing that the law and all that it calls make is longer than what came in: it says more and counts as full. Else prove '..UptoSaid'. A law counts once. -/
mutual
def uptoBulk {H : Type} : DataW H → Nat
  | .lit (.string bytes) => bytes.length + 1
  | .lit _ => 1
  | .nil => 1
  | .ptr d => uptoBulk d + 1
  | .slice elems spare => uptoBulkAll elems + uptoBulkAll spare + 1
  | .agg parts => uptoBulkAll parts + 1
  | .iface _ d => uptoBulk d + 1
  | .map entries => uptoBulkEntries entries + 1
  | .held _ => 1
def uptoBulkAll {H : Type} : List (DataW H) → Nat
  | [] => 0
  | d :: r => uptoBulk d + uptoBulkAll r
def uptoBulkEntries {H : Type} : List (Lit × DataW H) → Nat
  | [] => 0
  | x :: r => uptoBulkEntry x + uptoBulkEntries r
def uptoBulkEntry {H : Type} : Lit × DataW H → Nat
  | (.string bytes, d) => bytes.length + uptoBulk d + 1
  | (_, d) => uptoBulk d + 1
 end
def uptoSmall : (H : Type) → List (DataW H) → Bool := fun _ ds => decide (uptoBulkAll ds ≤ 1048576)
def OpenSpec.upto (s : _root_.Go.ChangeSpec) : _root_.Go.OpenSpec := { _root_.Go.OpenSpec.ofChange s with cond := some uptoSmall }

/-- 'laws.FnUnpackSeriesTorn', WHERE WHAT IT READS IS OF BULK AT MOST 1048576: true; the input reads as it did. -/
def fnUnpackSeriesTornUptoRow : OpenClaim := { program := "ytcgeagcfhjdpcaa", sum := "bb72f2376117083213bcd64ae021b32dc4df0886e75ceaf45f700bb96a491dfe", func := "loop.example/metricstore/laws.FnUnpackSeriesTorn", spec := "fnUnpackSeriesTorn", unfollowed := true, recurses := true, apart := false, narrowed := true }
def FnUnpackSeriesTornUptoSaid : Prop := fnUnpackSeriesTornUptoRow.holds Try.pinned (OpenSpec.upto fnUnpackSeriesTornSpec)

/-- 'laws.FnPackSeries', WHERE WHAT IT READS IS OF BULK AT MOST 1048576: true; the input reads as it did. -/
def fnPackSeriesUptoRow : OpenClaim := { program := "ytcgeagcfhjdpcaa", sum := "bb72f2376117083213bcd64ae021b32dc4df0886e75ceaf45f700bb96a491dfe", func := "loop.example/metricstore/laws.FnPackSeries", spec := "fnPackSeries", unfollowed := true, recurses := true, apart := false, narrowed := true }
def FnPackSeriesUptoSaid : Prop := fnPackSeriesUptoRow.holds Try.pinned (OpenSpec.upto fnPackSeriesSpec)

/-- 'laws.FnUnpackSeries', WHERE WHAT IT READS IS OF BULK AT MOST 1048576: true; the input reads as it did. -/
def fnUnpackSeriesUptoRow : OpenClaim := { program := "ytcgeagcfhjdpcaa", sum := "bb72f2376117083213bcd64ae021b32dc4df0886e75ceaf45f700bb96a491dfe", func := "loop.example/metricstore/laws.FnUnpackSeries", spec := "fnUnpackSeries", unfollowed := true, recurses := true, apart := false, narrowed := true }
def FnUnpackSeriesUptoSaid : Prop := fnUnpackSeriesUptoRow.holds Try.pinned (OpenSpec.upto fnUnpackSeriesSpec)

/-- 'laws.FnDeltasOfFirst', WHERE WHAT IT READS IS OF BULK AT MOST 1048576: true; the input reads as it did. -/
def fnDeltasOfFirstUptoRow : OpenClaim := { program := "ytcgeagcfhjdpcaa", sum := "bb72f2376117083213bcd64ae021b32dc4df0886e75ceaf45f700bb96a491dfe", func := "loop.example/metricstore/laws.FnDeltasOfFirst", spec := "fnDeltasOfFirst", unfollowed := true, recurses := true, apart := false, narrowed := true }
def FnDeltasOfFirstUptoSaid : Prop := fnDeltasOfFirstUptoRow.holds Try.pinned (OpenSpec.upto fnDeltasOfFirstSpec)

/-- 'laws.FnDeltasOfMove', WHERE WHAT IT READS IS OF BULK AT MOST 1048576: true; the input reads as it did. -/
def fnDeltasOfMoveUptoRow : OpenClaim := { program := "ytcgeagcfhjdpcaa", sum := "bb72f2376117083213bcd64ae021b32dc4df0886e75ceaf45f700bb96a491dfe", func := "loop.example/metricstore/laws.FnDeltasOfMove", spec := "fnDeltasOfMove", unfollowed := true, recurses := true, apart := false, narrowed := true }
def FnDeltasOfMoveUptoSaid : Prop := fnDeltasOfMoveUptoRow.holds Try.pinned (OpenSpec.upto fnDeltasOfMoveSpec)

/-- 'laws.FnSumsOfEnd', WHERE WHAT IT READS IS OF BULK AT MOST 1048576: true; the input reads as it did. -/
def fnSumsOfEndUptoRow : OpenClaim := { program := "ytcgeagcfhjdpcaa", sum := "bb72f2376117083213bcd64ae021b32dc4df0886e75ceaf45f700bb96a491dfe", func := "loop.example/metricstore/laws.FnSumsOfEnd", spec := "fnSumsOfEnd", unfollowed := true, recurses := true, apart := false, narrowed := true }
def FnSumsOfEndUptoSaid : Prop := fnSumsOfEndUptoRow.holds Try.pinned (OpenSpec.upto fnSumsOfEndSpec)

/-- 'laws.FnTimeSteps', WHERE WHAT IT READS IS OF BULK AT MOST 1048576: true; the input reads as it did. -/
def fnTimeStepsUptoRow : OpenClaim := { program := "ytcgeagcfhjdpcaa", sum := "bb72f2376117083213bcd64ae021b32dc4df0886e75ceaf45f700bb96a491dfe", func := "loop.example/metricstore/laws.FnTimeSteps", spec := "fnTimeSteps", unfollowed := true, recurses := true, apart := false, narrowed := true }
def FnTimeStepsUptoSaid : Prop := fnTimeStepsUptoRow.holds Try.pinned (OpenSpec.upto fnTimeStepsSpec)

/-- 'laws.FnExactTimeSteps', WHERE WHAT IT READS IS OF BULK AT MOST 1048576: true; the input reads as it did. -/
def fnExactTimeStepsUptoRow : OpenClaim := { program := "ytcgeagcfhjdpcaa", sum := "bb72f2376117083213bcd64ae021b32dc4df0886e75ceaf45f700bb96a491dfe", func := "loop.example/metricstore/laws.FnExactTimeSteps", spec := "fnExactTimeSteps", unfollowed := true, recurses := true, apart := false, narrowed := true }
def FnExactTimeStepsUptoSaid : Prop := fnExactTimeStepsUptoRow.holds Try.pinned (OpenSpec.upto fnExactTimeStepsSpec)

/-- 'laws.FnTimeStepsBack', WHERE WHAT IT READS IS OF BULK AT MOST 1048576: true; the input reads as it did. -/
def fnTimeStepsBackUptoRow : OpenClaim := { program := "ytcgeagcfhjdpcaa", sum := "bb72f2376117083213bcd64ae021b32dc4df0886e75ceaf45f700bb96a491dfe", func := "loop.example/metricstore/laws.FnTimeStepsBack", spec := "fnTimeStepsBack", unfollowed := true, recurses := true, apart := false, narrowed := true }
def FnTimeStepsBackUptoSaid : Prop := fnTimeStepsBackUptoRow.holds Try.pinned (OpenSpec.upto fnTimeStepsBackSpec)

/-- 'laws.FnExactPackedSize', WHERE WHAT IT READS IS OF BULK AT MOST 1048576: true; the input reads as it did. -/
def fnExactPackedSizeUptoRow : OpenClaim := { program := "ytcgeagcfhjdpcaa", sum := "bb72f2376117083213bcd64ae021b32dc4df0886e75ceaf45f700bb96a491dfe", func := "loop.example/metricstore/laws.FnExactPackedSize", spec := "fnExactPackedSize", unfollowed := true, recurses := true, apart := false, narrowed := true }
def FnExactPackedSizeUptoSaid : Prop := fnExactPackedSizeUptoRow.holds Try.pinned (OpenSpec.upto fnExactPackedSizeSpec)

/-- 'laws.FnPackedSize', WHERE WHAT IT READS IS OF BULK AT MOST 1048576: true; the input reads as it did. -/
def fnPackedSizeUptoRow : OpenClaim := { program := "ytcgeagcfhjdpcaa", sum := "bb72f2376117083213bcd64ae021b32dc4df0886e75ceaf45f700bb96a491dfe", func := "loop.example/metricstore/laws.FnPackedSize", spec := "fnPackedSize", unfollowed := true, recurses := true, apart := false, narrowed := true }
def FnPackedSizeUptoSaid : Prop := fnPackedSizeUptoRow.holds Try.pinned (OpenSpec.upto fnPackedSizeSpec)

/-- 'laws.FnPackedSizeEven', WHERE WHAT IT READS IS OF BULK AT MOST 1048576: true; the input reads as it did. -/
def fnPackedSizeEvenUptoRow : OpenClaim := { program := "ytcgeagcfhjdpcaa", sum := "bb72f2376117083213bcd64ae021b32dc4df0886e75ceaf45f700bb96a491dfe", func := "loop.example/metricstore/laws.FnPackedSizeEven", spec := "fnPackedSizeEven", unfollowed := true, recurses := true, apart := false, narrowed := true }
def FnPackedSizeEvenUptoSaid : Prop := fnPackedSizeEvenUptoRow.holds Try.pinned (OpenSpec.upto fnPackedSizeEvenSpec)

/-- 'laws.FnExactUnpackSeries', WHERE WHAT IT READS IS OF BULK AT MOST 1048576: true; the input reads as it did. -/
def fnExactUnpackSeriesUptoRow : OpenClaim := { program := "ytcgeagcfhjdpcaa", sum := "bb72f2376117083213bcd64ae021b32dc4df0886e75ceaf45f700bb96a491dfe", func := "loop.example/metricstore/laws.FnExactUnpackSeries", spec := "fnExactUnpackSeries", apart := false, narrowed := true }
def FnExactUnpackSeriesUptoSaid : Prop := fnExactUnpackSeriesUptoRow.holds Try.pinned (OpenSpec.upto fnExactUnpackSeriesSpec)

/-- 'laws.FnPackSeriesPut', WHERE WHAT IT READS IS OF BULK AT MOST 1048576: true; the input reads as it did. -/
def fnPackSeriesPutUptoRow : OpenClaim := { program := "ytcgeagcfhjdpcaa", sum := "bb72f2376117083213bcd64ae021b32dc4df0886e75ceaf45f700bb96a491dfe", func := "loop.example/metricstore/laws.FnPackSeriesPut", spec := "fnPackSeriesPut", unfollowed := true, recurses := true, apart := false, narrowed := true }
def FnPackSeriesPutUptoSaid : Prop := fnPackSeriesPutUptoRow.holds Try.pinned (OpenSpec.upto fnPackSeriesPutSpec)

/-- 'laws.FnExactPackSeries', WHERE WHAT IT READS IS OF BULK AT MOST 1048576: true; the input reads as it did. -/
def fnExactPackSeriesUptoRow : OpenClaim := { program := "ytcgeagcfhjdpcaa", sum := "bb72f2376117083213bcd64ae021b32dc4df0886e75ceaf45f700bb96a491dfe", func := "loop.example/metricstore/laws.FnExactPackSeries", spec := "fnExactPackSeries", unfollowed := true, recurses := true, apart := false, narrowed := true }
def FnExactPackSeriesUptoSaid : Prop := fnExactPackSeriesUptoRow.holds Try.pinned (OpenSpec.upto fnExactPackSeriesSpec)

end Rows
end Go.Proofs.Ytcgeagcfhjdpcaa
