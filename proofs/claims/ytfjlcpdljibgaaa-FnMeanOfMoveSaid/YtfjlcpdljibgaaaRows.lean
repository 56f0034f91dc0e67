/-
  No cell of these rows narrows 'for every input' (looked for: loops, veiled, ifaces, maps, wideKeys, modest, calm, conditions, laid).
  DERIVED. THE GIVEN ROWS OF THIS SEAT. 16 by the template 'for every input the law returns true; each argument reads behind the call as it read before'; 0 by the template 'total and deterministic' (their statements: YtfjlcpdljibgaaaTotals.lean).
  GIVEN WITH THE SEED: the statements are not yours to turn. If you find one false, say at which input.
  Laid BY PROGRAM, IN A SANDBOX (cutbox-rows.mjs): the forced cells as the released guide's own fill.sh prints them over the translation 870129ee79232dba… (all of the seat's roots in one cut). By AI agents, Wed Nov 11 2026. No macro, syntax, notation, axiom, sorry.
-/
import Derived.Test.YtfjlcpdljibgaaaChecked
import GoSem.Claim
import GoSem.ClaimJoined
import GoSem.ClaimMapViews
import Derived.JoinedTies
import Derived.KernelRfl
namespace Go.Proofs.Ytfjlcpdljibgaaa
/- THE CELL 'sum', in the pinned program and in every row, IS THE sha256 OF THE DUMP (.gsa) THAT YtfjlcpdljibgaaaProg.lean LOADS. Nothing in Lean hashes anything: it is a label: what it is worth is what the hold of that sum in a sandbox is worth. -/
noncomputable def Try.pinned : Pinned := { name := "ytfjlcpdljibgaaa", sum := "870129ee79232dba134d3f60a879781e893d0fd52e3a80e0b64d3e4eaaeb31cd", checked := Try.checked }
namespace Rows
def none {H : Type} : Left H := { results := [], args := [] }

/-- 'laws.FnExactConstants': WHATEVER THE INPUT: true; the input reads as it did. -/
def fnExactConstantsSpec : ChangeSpec := { name := "fnExactConstants", fn := fun _ => fun
  | [] => { results := [.lit (.bool true)], args := [] }
  | _ => none }
def fnExactConstantsRow : OpenClaim := { program := "ytfjlcpdljibgaaa", sum := "870129ee79232dba134d3f60a879781e893d0fd52e3a80e0b64d3e4eaaeb31cd", func := "loop.example/metricstore/laws.FnExactConstants", spec := "fnExactConstants", apart := false }
def FnExactConstantsSaid : Prop := fnExactConstantsRow.holds Try.pinned (OpenSpec.ofChange fnExactConstantsSpec)

/-- ITS FALSE NEIGHBOUR: 'it returns false'. Refute it at one input. -/
def fnExactConstantsWrong : ChangeSpec := { name := "fnExactConstants", fn := fun _ => fun
  | [] => { results := [.lit (.bool false)], args := [] }
  | _ => none }
def FnExactConstantsWrongFalsely : Prop := fnExactConstantsRow.holds Try.pinned (OpenSpec.ofChange fnExactConstantsWrong)

/-- 'laws.FnExactZigzagOf': WHATEVER THE INPUT: true; the input reads as it did. -/
def fnExactZigzagOfSpec : ChangeSpec := { name := "fnExactZigzagOf", fn := fun _ => fun
  | [d] => { results := [.lit (.bool true)], args := [d] }
  | _ => none }
def fnExactZigzagOfRow : OpenClaim := { program := "ytfjlcpdljibgaaa", sum := "870129ee79232dba134d3f60a879781e893d0fd52e3a80e0b64d3e4eaaeb31cd", func := "loop.example/metricstore/laws.FnExactZigzagOf", spec := "fnExactZigzagOf", apart := false }
def FnExactZigzagOfSaid : Prop := fnExactZigzagOfRow.holds Try.pinned (OpenSpec.ofChange fnExactZigzagOfSpec)

/-- ITS FALSE NEIGHBOUR: 'it returns false'. Refute it at one input. -/
def fnExactZigzagOfWrong : ChangeSpec := { name := "fnExactZigzagOf", fn := fun _ => fun
  | [d] => { results := [.lit (.bool false)], args := [d] }
  | _ => none }
def FnExactZigzagOfWrongFalsely : Prop := fnExactZigzagOfRow.holds Try.pinned (OpenSpec.ofChange fnExactZigzagOfWrong)

/-- 'laws.FnExactUnzigzagOf': WHATEVER THE INPUT: true; the input reads as it did. -/
def fnExactUnzigzagOfSpec : ChangeSpec := { name := "fnExactUnzigzagOf", fn := fun _ => fun
  | [d] => { results := [.lit (.bool true)], args := [d] }
  | _ => none }
def fnExactUnzigzagOfRow : OpenClaim := { program := "ytfjlcpdljibgaaa", sum := "870129ee79232dba134d3f60a879781e893d0fd52e3a80e0b64d3e4eaaeb31cd", func := "loop.example/metricstore/laws.FnExactUnzigzagOf", spec := "fnExactUnzigzagOf", apart := false }
def FnExactUnzigzagOfSaid : Prop := fnExactUnzigzagOfRow.holds Try.pinned (OpenSpec.ofChange fnExactUnzigzagOfSpec)

/-- ITS FALSE NEIGHBOUR: 'it returns false'. Refute it at one input. -/
def fnExactUnzigzagOfWrong : ChangeSpec := { name := "fnExactUnzigzagOf", fn := fun _ => fun
  | [d] => { results := [.lit (.bool false)], args := [d] }
  | _ => none }
def FnExactUnzigzagOfWrongFalsely : Prop := fnExactUnzigzagOfRow.holds Try.pinned (OpenSpec.ofChange fnExactUnzigzagOfWrong)

/-- 'laws.FnZigzagOfOrder': WHATEVER THE INPUT: true; the input reads as it did. -/
def fnZigzagOfOrderSpec : ChangeSpec := { name := "fnZigzagOfOrder", fn := fun _ => fun
  | [d] => { results := [.lit (.bool true)], args := [d] }
  | _ => none }
def fnZigzagOfOrderRow : OpenClaim := { program := "ytfjlcpdljibgaaa", sum := "870129ee79232dba134d3f60a879781e893d0fd52e3a80e0b64d3e4eaaeb31cd", func := "loop.example/metricstore/laws.FnZigzagOfOrder", spec := "fnZigzagOfOrder", apart := false }
def FnZigzagOfOrderSaid : Prop := fnZigzagOfOrderRow.holds Try.pinned (OpenSpec.ofChange fnZigzagOfOrderSpec)

/-- ITS FALSE NEIGHBOUR: 'it returns false'. Refute it at one input. -/
def fnZigzagOfOrderWrong : ChangeSpec := { name := "fnZigzagOfOrder", fn := fun _ => fun
  | [d] => { results := [.lit (.bool false)], args := [d] }
  | _ => none }
def FnZigzagOfOrderWrongFalsely : Prop := fnZigzagOfOrderRow.holds Try.pinned (OpenSpec.ofChange fnZigzagOfOrderWrong)

/-- 'laws.FnExactPutVar': WHATEVER THE INPUT: true; the input reads as it did. -/
def fnExactPutVarSpec : ChangeSpec := { name := "fnExactPutVar", fn := fun _ => fun
  | [d] => { results := [.lit (.bool true)], args := [d] }
  | _ => none }
def fnExactPutVarRow : OpenClaim := { program := "ytfjlcpdljibgaaa", sum := "870129ee79232dba134d3f60a879781e893d0fd52e3a80e0b64d3e4eaaeb31cd", func := "loop.example/metricstore/laws.FnExactPutVar", spec := "fnExactPutVar", recurses := true, apart := false }
def FnExactPutVarSaid : Prop := fnExactPutVarRow.holds Try.pinned (OpenSpec.ofChange fnExactPutVarSpec)

/-- ITS FALSE NEIGHBOUR: 'it returns false'. Refute it at one input. -/
def fnExactPutVarWrong : ChangeSpec := { name := "fnExactPutVar", fn := fun _ => fun
  | [d] => { results := [.lit (.bool false)], args := [d] }
  | _ => none }
def FnExactPutVarWrongFalsely : Prop := fnExactPutVarRow.holds Try.pinned (OpenSpec.ofChange fnExactPutVarWrong)

/-- 'laws.FnZigzagOf': WHATEVER THE INPUT: true; the input reads as it did. -/
def fnZigzagOfSpec : ChangeSpec := { name := "fnZigzagOf", fn := fun _ => fun
  | [d] => { results := [.lit (.bool true)], args := [d] }
  | _ => none }
def fnZigzagOfRow : OpenClaim := { program := "ytfjlcpdljibgaaa", sum := "870129ee79232dba134d3f60a879781e893d0fd52e3a80e0b64d3e4eaaeb31cd", func := "loop.example/metricstore/laws.FnZigzagOf", spec := "fnZigzagOf", apart := false }
def FnZigzagOfSaid : Prop := fnZigzagOfRow.holds Try.pinned (OpenSpec.ofChange fnZigzagOfSpec)

/-- ITS FALSE NEIGHBOUR: 'it returns false'. Refute it at one input. -/
def fnZigzagOfWrong : ChangeSpec := { name := "fnZigzagOf", fn := fun _ => fun
  | [d] => { results := [.lit (.bool false)], args := [d] }
  | _ => none }
def FnZigzagOfWrongFalsely : Prop := fnZigzagOfRow.holds Try.pinned (OpenSpec.ofChange fnZigzagOfWrong)

/-- 'laws.FnExactGetVar': WHATEVER THE INPUT: true; the input reads as it did. -/
def fnExactGetVarSpec : ChangeSpec := { name := "fnExactGetVar", fn := fun _ => fun
  | [d] => { results := [.lit (.bool true)], args := [d] }
  | _ => none }
def fnExactGetVarRow : OpenClaim := { program := "ytfjlcpdljibgaaa", sum := "870129ee79232dba134d3f60a879781e893d0fd52e3a80e0b64d3e4eaaeb31cd", func := "loop.example/metricstore/laws.FnExactGetVar", spec := "fnExactGetVar", apart := false }
def FnExactGetVarSaid : Prop := fnExactGetVarRow.holds Try.pinned (OpenSpec.ofChange fnExactGetVarSpec)

/-- ITS FALSE NEIGHBOUR: 'it returns false'. Refute it at one input. -/
def fnExactGetVarWrong : ChangeSpec := { name := "fnExactGetVar", fn := fun _ => fun
  | [d] => { results := [.lit (.bool false)], args := [d] }
  | _ => none }
def FnExactGetVarWrongFalsely : Prop := fnExactGetVarRow.holds Try.pinned (OpenSpec.ofChange fnExactGetVarWrong)

/-- 'laws.FnExactMeanOf': WHATEVER THE INPUT: true; the input reads as it did. -/
def fnExactMeanOfSpec : ChangeSpec := { name := "fnExactMeanOf", fn := fun _ => fun
  | [d] => { results := [.lit (.bool true)], args := [d] }
  | _ => none }
def fnExactMeanOfRow : OpenClaim := { program := "ytfjlcpdljibgaaa", sum := "870129ee79232dba134d3f60a879781e893d0fd52e3a80e0b64d3e4eaaeb31cd", func := "loop.example/metricstore/laws.FnExactMeanOf", spec := "fnExactMeanOf", apart := false }
def FnExactMeanOfSaid : Prop := fnExactMeanOfRow.holds Try.pinned (OpenSpec.ofChange fnExactMeanOfSpec)

/-- ITS FALSE NEIGHBOUR: 'it returns false'. Refute it at one input. -/
def fnExactMeanOfWrong : ChangeSpec := { name := "fnExactMeanOf", fn := fun _ => fun
  | [d] => { results := [.lit (.bool false)], args := [d] }
  | _ => none }
def FnExactMeanOfWrongFalsely : Prop := fnExactMeanOfRow.holds Try.pinned (OpenSpec.ofChange fnExactMeanOfWrong)

/-- 'laws.FnUnzigzagOf': WHATEVER THE INPUT: true; the input reads as it did. -/
def fnUnzigzagOfSpec : ChangeSpec := { name := "fnUnzigzagOf", fn := fun _ => fun
  | [d] => { results := [.lit (.bool true)], args := [d] }
  | _ => none }
def fnUnzigzagOfRow : OpenClaim := { program := "ytfjlcpdljibgaaa", sum := "870129ee79232dba134d3f60a879781e893d0fd52e3a80e0b64d3e4eaaeb31cd", func := "loop.example/metricstore/laws.FnUnzigzagOf", spec := "fnUnzigzagOf", apart := false }
def FnUnzigzagOfSaid : Prop := fnUnzigzagOfRow.holds Try.pinned (OpenSpec.ofChange fnUnzigzagOfSpec)

/-- ITS FALSE NEIGHBOUR: 'it returns false'. Refute it at one input. -/
def fnUnzigzagOfWrong : ChangeSpec := { name := "fnUnzigzagOf", fn := fun _ => fun
  | [d] => { results := [.lit (.bool false)], args := [d] }
  | _ => none }
def FnUnzigzagOfWrongFalsely : Prop := fnUnzigzagOfRow.holds Try.pinned (OpenSpec.ofChange fnUnzigzagOfWrong)

/-- 'laws.FnPutVarLength': WHATEVER THE INPUT: true; the input reads as it did. -/
def fnPutVarLengthSpec : ChangeSpec := { name := "fnPutVarLength", fn := fun _ => fun
  | [d] => { results := [.lit (.bool true)], args := [d] }
  | _ => none }
def fnPutVarLengthRow : OpenClaim := { program := "ytfjlcpdljibgaaa", sum := "870129ee79232dba134d3f60a879781e893d0fd52e3a80e0b64d3e4eaaeb31cd", func := "loop.example/metricstore/laws.FnPutVarLength", spec := "fnPutVarLength", recurses := true, apart := false }
def FnPutVarLengthSaid : Prop := fnPutVarLengthRow.holds Try.pinned (OpenSpec.ofChange fnPutVarLengthSpec)

/-- ITS FALSE NEIGHBOUR: 'it returns false'. Refute it at one input. -/
def fnPutVarLengthWrong : ChangeSpec := { name := "fnPutVarLength", fn := fun _ => fun
  | [d] => { results := [.lit (.bool false)], args := [d] }
  | _ => none }
def FnPutVarLengthWrongFalsely : Prop := fnPutVarLengthRow.holds Try.pinned (OpenSpec.ofChange fnPutVarLengthWrong)

/-- 'laws.FnPutVarOrder': WHATEVER THE INPUT: true; the input reads as it did. -/
def fnPutVarOrderSpec : ChangeSpec := { name := "fnPutVarOrder", fn := fun _ => fun
  | [d] => { results := [.lit (.bool true)], args := [d] }
  | _ => none }
def fnPutVarOrderRow : OpenClaim := { program := "ytfjlcpdljibgaaa", sum := "870129ee79232dba134d3f60a879781e893d0fd52e3a80e0b64d3e4eaaeb31cd", func := "loop.example/metricstore/laws.FnPutVarOrder", spec := "fnPutVarOrder", recurses := true, apart := false }
def FnPutVarOrderSaid : Prop := fnPutVarOrderRow.holds Try.pinned (OpenSpec.ofChange fnPutVarOrderSpec)

/-- ITS FALSE NEIGHBOUR: 'it returns false'. Refute it at one input. -/
def fnPutVarOrderWrong : ChangeSpec := { name := "fnPutVarOrder", fn := fun _ => fun
  | [d] => { results := [.lit (.bool false)], args := [d] }
  | _ => none }
def FnPutVarOrderWrongFalsely : Prop := fnPutVarOrderRow.holds Try.pinned (OpenSpec.ofChange fnPutVarOrderWrong)

/-- 'laws.FnGetVarMore': WHATEVER THE INPUT: true; the input reads as it did. -/
def fnGetVarMoreSpec : ChangeSpec := { name := "fnGetVarMore", fn := fun _ => fun
  | [d] => { results := [.lit (.bool true)], args := [d] }
  | _ => none }
def fnGetVarMoreRow : OpenClaim := { program := "ytfjlcpdljibgaaa", sum := "870129ee79232dba134d3f60a879781e893d0fd52e3a80e0b64d3e4eaaeb31cd", func := "loop.example/metricstore/laws.FnGetVarMore", spec := "fnGetVarMore", recurses := true, apart := false }
def FnGetVarMoreSaid : Prop := fnGetVarMoreRow.holds Try.pinned (OpenSpec.ofChange fnGetVarMoreSpec)

/-- ITS FALSE NEIGHBOUR: 'it returns false'. Refute it at one input. -/
def fnGetVarMoreWrong : ChangeSpec := { name := "fnGetVarMore", fn := fun _ => fun
  | [d] => { results := [.lit (.bool false)], args := [d] }
  | _ => none }
def FnGetVarMoreWrongFalsely : Prop := fnGetVarMoreRow.holds Try.pinned (OpenSpec.ofChange fnGetVarMoreWrong)

/-- 'laws.FnPutVar': WHATEVER THE INPUT: true; the input reads as it did. -/
def fnPutVarSpec : ChangeSpec := { name := "fnPutVar", fn := fun _ => fun
  | [d] => { results := [.lit (.bool true)], args := [d] }
  | _ => none }
def fnPutVarRow : OpenClaim := { program := "ytfjlcpdljibgaaa", sum := "870129ee79232dba134d3f60a879781e893d0fd52e3a80e0b64d3e4eaaeb31cd", func := "loop.example/metricstore/laws.FnPutVar", spec := "fnPutVar", recurses := true, apart := false }
def FnPutVarSaid : Prop := fnPutVarRow.holds Try.pinned (OpenSpec.ofChange fnPutVarSpec)

/-- ITS FALSE NEIGHBOUR: 'it returns false'. Refute it at one input. -/
def fnPutVarWrong : ChangeSpec := { name := "fnPutVar", fn := fun _ => fun
  | [d] => { results := [.lit (.bool false)], args := [d] }
  | _ => none }
def FnPutVarWrongFalsely : Prop := fnPutVarRow.holds Try.pinned (OpenSpec.ofChange fnPutVarWrong)

/-- 'laws.FnMeanOf': WHATEVER THE INPUT: true; the input reads as it did. -/
def fnMeanOfSpec : ChangeSpec := { name := "fnMeanOf", fn := fun _ => fun
  | [d] => { results := [.lit (.bool true)], args := [d] }
  | _ => none }
def fnMeanOfRow : OpenClaim := { program := "ytfjlcpdljibgaaa", sum := "870129ee79232dba134d3f60a879781e893d0fd52e3a80e0b64d3e4eaaeb31cd", func := "loop.example/metricstore/laws.FnMeanOf", spec := "fnMeanOf", apart := false }
def FnMeanOfSaid : Prop := fnMeanOfRow.holds Try.pinned (OpenSpec.ofChange fnMeanOfSpec)

/-- ITS FALSE NEIGHBOUR: 'it returns false'. Refute it at one input. -/
def fnMeanOfWrong : ChangeSpec := { name := "fnMeanOf", fn := fun _ => fun
  | [d] => { results := [.lit (.bool false)], args := [d] }
  | _ => none }
def FnMeanOfWrongFalsely : Prop := fnMeanOfRow.holds Try.pinned (OpenSpec.ofChange fnMeanOfWrong)

/-- 'laws.FnMeanOfMove': WHATEVER THE INPUT: true; the input reads as it did. -/
def fnMeanOfMoveSpec : ChangeSpec := { name := "fnMeanOfMove", fn := fun _ => fun
  | [d] => { results := [.lit (.bool true)], args := [d] }
  | _ => none }
def fnMeanOfMoveRow : OpenClaim := { program := "ytfjlcpdljibgaaa", sum := "870129ee79232dba134d3f60a879781e893d0fd52e3a80e0b64d3e4eaaeb31cd", func := "loop.example/metricstore/laws.FnMeanOfMove", spec := "fnMeanOfMove", apart := false }
def FnMeanOfMoveSaid : Prop := fnMeanOfMoveRow.holds Try.pinned (OpenSpec.ofChange fnMeanOfMoveSpec)

/-- ITS FALSE NEIGHBOUR: 'it returns false'. Refute it at one input. -/
def fnMeanOfMoveWrong : ChangeSpec := { name := "fnMeanOfMove", fn := fun _ => fun
  | [d] => { results := [.lit (.bool false)], args := [d] }
  | _ => none }
def FnMeanOfMoveWrongFalsely : Prop := fnMeanOfMoveRow.holds Try.pinned (OpenSpec.ofChange fnMeanOfMoveWrong)

/-- 'laws.FnGetVar': WHATEVER THE INPUT: true; the input reads as it did. -/
def fnGetVarSpec : ChangeSpec := { name := "fnGetVar", fn := fun _ => fun
  | [d] => { results := [.lit (.bool true)], args := [d] }
  | _ => none }
def fnGetVarRow : OpenClaim := { program := "ytfjlcpdljibgaaa", sum := "870129ee79232dba134d3f60a879781e893d0fd52e3a80e0b64d3e4eaaeb31cd", func := "loop.example/metricstore/laws.FnGetVar", spec := "fnGetVar", recurses := true, apart := false }
def FnGetVarSaid : Prop := fnGetVarRow.holds Try.pinned (OpenSpec.ofChange fnGetVarSpec)

/-- ITS FALSE NEIGHBOUR: 'it returns false'. Refute it at one input. -/
def fnGetVarWrong : ChangeSpec := { name := "fnGetVar", fn := fun _ => fun
  | [d] => { results := [.lit (.bool false)], args := [d] }
  | _ => none }
def FnGetVarWrongFalsely : Prop := fnGetVarRow.holds Try.pinned (OpenSpec.ofChange fnGetVarWrong)

/- THE SECOND FORM. 'bulk': how many values and letters a reading holds, each counted each time it is reached (what is shared counts as often as it is met; a slice's spare places count too). A statement '..UptoSaid' is the law's where the arguments, and the package variables that the reading takes, are together of bulk at most 1048576: NARROWER than '..Said'. Prove '..Said' where nothing that the law and all that it calls make is longer than what came in: it says more and counts as full. Else prove '..UptoSaid'. A law counts once. -/
mutual
def uptoBulk {H : Type} : DataW H → Nat
  | .lit (.string bytes) => bytes.length + 1
  | .lit _ => 1
  | .nil => 1
  | .ptr d => uptoBulk d + 1
  | .slice elems spare => uptoBulkAll elems + uptoBulkAll spare + 1
  | .agg parts => uptoBulkAll parts + 1
  | .iface _ d => uptoBulk d + 1
  | .map entries => uptoBulkEntries entries + 1
  | .held _ => 1
def uptoBulkAll {H : Type} : List (DataW H) → Nat
  | [] => 0
  | d :: r => uptoBulk d + uptoBulkAll r
def uptoBulkEntries {H : Type} : List (Lit × DataW H) → Nat
  | [] => 0
  | x :: r => uptoBulkEntry x + uptoBulkEntries r
def uptoBulkEntry {H : Type} : Lit × DataW H → Nat
  | (.string bytes, d) => bytes.length + uptoBulk d + 1
  | (_, d) => uptoBulk d + 1
 end
def uptoSmall : (H : Type) → List (DataW H) → Bool := fun _ ds => decide (uptoBulkAll ds ≤ 1048576)
def OpenSpec.upto (s : _root_.Go.ChangeSpec) : _root_.Go.OpenSpec := { _root_.Go.OpenSpec.ofChange s with cond := some uptoSmall }

/-- 'laws.FnExactConstants', WHERE WHAT IT READS IS OF BULK AT MOST 1048576: true; the input reads as it did. -/
def fnExactConstantsUptoRow : OpenClaim := { program := "ytfjlcpdljibgaaa", sum := "870129ee79232dba134d3f60a879781e893d0fd52e3a80e0b64d3e4eaaeb31cd", func := "loop.example/metricstore/laws.FnExactConstants", spec := "fnExactConstants", apart := false, narrowed := true }
def FnExactConstantsUptoSaid : Prop := fnExactConstantsUptoRow.holds Try.pinned (OpenSpec.upto fnExactConstantsSpec)

/-- 'laws.FnExactZigzagOf', WHERE WHAT IT READS IS OF BULK AT MOST 1048576: true; the input reads as it did. -/
def fnExactZigzagOfUptoRow : OpenClaim := { program := "ytfjlcpdljibgaaa", sum := "870129ee79232dba134d3f60a879781e893d0fd52e3a80e0b64d3e4eaaeb31cd", func := "loop.example/metricstore/laws.FnExactZigzagOf", spec := "fnExactZigzagOf", apart := false, narrowed := true }
def FnExactZigzagOfUptoSaid : Prop := fnExactZigzagOfUptoRow.holds Try.pinned (OpenSpec.upto fnExactZigzagOfSpec)

/-- 'laws.FnExactUnzigzagOf', WHERE WHAT IT READS IS OF BULK AT MOST 1048576: true; the input reads as it did. -/
def fnExactUnzigzagOfUptoRow : OpenClaim := { program := "ytfjlcpdljibgaaa", sum := "870129ee79232dba134d3f60a879781e893d0fd52e3a80e0b64d3e4eaaeb31cd", func := "loop.example/metricstore/laws.FnExactUnzigzagOf", spec := "fnExactUnzigzagOf", apart := false, narrowed := true }
def FnExactUnzigzagOfUptoSaid : Prop := fnExactUnzigzagOfUptoRow.holds Try.pinned (OpenSpec.upto fnExactUnzigzagOfSpec)

/-- 'laws.FnZigzagOfOrder', WHERE WHAT IT READS IS OF BULK AT MOST 1048576: true; the input reads as it did. -/
def fnZigzagOfOrderUptoRow : OpenClaim := { program := "ytfjlcpdljibgaaa", sum := "870129ee79232dba134d3f60a879781e893d0fd52e3a80e0b64d3e4eaaeb31cd", func := "loop.example/metricstore/laws.FnZigzagOfOrder", spec := "fnZigzagOfOrder", apart := false, narrowed := true }
def FnZigzagOfOrderUptoSaid : Prop := fnZigzagOfOrderUptoRow.holds Try.pinned (OpenSpec.upto fnZigzagOfOrderSpec)

/-- 'laws.FnExactPutVar', WHERE WHAT IT READS IS OF BULK AT MOST 1048576: true; the input reads as it did. -/
def fnExactPutVarUptoRow : OpenClaim := { program := "ytfjlcpdljibgaaa", sum := "870129ee79232dba134d3f60a879781e893d0fd52e3a80e0b64d3e4eaaeb31cd", func := "loop.example/metricstore/laws.FnExactPutVar", spec := "fnExactPutVar", recurses := true, apart := false, narrowed := true }
def FnExactPutVarUptoSaid : Prop := fnExactPutVarUptoRow.holds Try.pinned (OpenSpec.upto fnExactPutVarSpec)

/-- 'laws.FnZigzagOf', WHERE WHAT IT READS IS OF BULK AT MOST 1048576: true; the input reads as it did. -/
def fnZigzagOfUptoRow : OpenClaim := { program := "ytfjlcpdljibgaaa", sum := "870129ee79232dba134d3f60a879781e893d0fd52e3a80e0b64d3e4eaaeb31cd", func := "loop.example/metricstore/laws.FnZigzagOf", spec := "fnZigzagOf", apart := false, narrowed := true }
def FnZigzagOfUptoSaid : Prop := fnZigzagOfUptoRow.holds Try.pinned (OpenSpec.upto fnZigzagOfSpec)

/-- 'laws.FnExactGetVar', WHERE WHAT IT READS IS OF BULK AT MOST 1048576: true; the input reads as it did. -/
def fnExactGetVarUptoRow : OpenClaim := { program := "ytfjlcpdljibgaaa", sum := "870129ee79232dba134d3f60a879781e893d0fd52e3a80e0b64d3e4eaaeb31cd", func := "loop.example/metricstore/laws.FnExactGetVar", spec := "fnExactGetVar", apart := false, narrowed := true }
def FnExactGetVarUptoSaid : Prop := fnExactGetVarUptoRow.holds Try.pinned (OpenSpec.upto fnExactGetVarSpec)

/-- 'laws.FnExactMeanOf', WHERE WHAT IT READS IS OF BULK AT MOST 1048576: true; the input reads as it did. -/
def fnExactMeanOfUptoRow : OpenClaim := { program := "ytfjlcpdljibgaaa", sum := "870129ee79232dba134d3f60a879781e893d0fd52e3a80e0b64d3e4eaaeb31cd", func := "loop.example/metricstore/laws.FnExactMeanOf", spec := "fnExactMeanOf", apart := false, narrowed := true }
def FnExactMeanOfUptoSaid : Prop := fnExactMeanOfUptoRow.holds Try.pinned (OpenSpec.upto fnExactMeanOfSpec)

/-- 'laws.FnUnzigzagOf', WHERE WHAT IT READS IS OF BULK AT MOST 1048576: true; the input reads as it did. -/
def fnUnzigzagOfUptoRow : OpenClaim := { program := "ytfjlcpdljibgaaa", sum := "870129ee79232dba134d3f60a879781e893d0fd52e3a80e0b64d3e4eaaeb31cd", func := "loop.example/metricstore/laws.FnUnzigzagOf", spec := "fnUnzigzagOf", apart := false, narrowed := true }
def FnUnzigzagOfUptoSaid : Prop := fnUnzigzagOfUptoRow.holds Try.pinned (OpenSpec.upto fnUnzigzagOfSpec)

/-- 'laws.FnPutVarLength', WHERE WHAT IT READS IS OF BULK AT MOST 1048576: true; the input reads as it did. -/
def fnPutVarLengthUptoRow : OpenClaim := { program := "ytfjlcpdljibgaaa", sum := "870129ee79232dba134d3f60a879781e893d0fd52e3a80e0b64d3e4eaaeb31cd", func := "loop.example/metricstore/laws.FnPutVarLength", spec := "fnPutVarLength", recurses := true, apart := false, narrowed := true }
def FnPutVarLengthUptoSaid : Prop := fnPutVarLengthUptoRow.holds Try.pinned (OpenSpec.upto fnPutVarLengthSpec)

/-- 'laws.FnPutVarOrder', WHERE WHAT IT READS IS OF BULK AT MOST 1048576: true; the input reads as it did. -/
def fnPutVarOrderUptoRow : OpenClaim := { program := "ytfjlcpdljibgaaa", sum := "870129ee79232dba134d3f60a879781e893d0fd52e3a80e0b64d3e4eaaeb31cd", func := "loop.example/metricstore/laws.FnPutVarOrder", spec := "fnPutVarOrder", recurses := true, apart := false, narrowed := true }
def FnPutVarOrderUptoSaid : Prop := fnPutVarOrderUptoRow.holds Try.pinned (OpenSpec.upto fnPutVarOrderSpec)

/-- 'laws.FnGetVarMore', WHERE WHAT IT READS IS OF BULK AT MOST 1048576: true; the input reads as it did. -/
def fnGetVarMoreUptoRow : OpenClaim := { program := "ytfjlcpdljibgaaa", sum := "870129ee79232dba134d3f60a879781e893d0fd52e3a80e0b64d3e4eaaeb31cd", func := "loop.example/metricstore/laws.FnGetVarMore", spec := "fnGetVarMore", recurses := true, apart := false, narrowed := true }
def FnGetVarMoreUptoSaid : Prop := fnGetVarMoreUptoRow.holds Try.pinned (OpenSpec.upto fnGetVarMoreSpec)

/-- 'laws.FnPutVar', WHERE WHAT IT READS IS OF BULK AT MOST 1048576: true; the input reads as it did. -/
def fnPutVarUptoRow : OpenClaim := { program := "ytfjlcpdljibgaaa", sum := "870129ee79232dba134d3f60a879781e893d0fd52e3a80e0b64d3e4eaaeb31cd", func := "loop.example/metricstore/laws.FnPutVar", spec := "fnPutVar", recurses := true, apart := false, narrowed := true }
def FnPutVarUptoSaid : Prop := fnPutVarUptoRow.holds Try.pinned (OpenSpec.upto fnPutVarSpec)

/-- 'laws.FnMeanOf', WHERE WHAT IT READS IS OF BULK AT MOST 1048576: true; the input reads as it did. -/
def fnMeanOfUptoRow : OpenClaim := { program := "ytfjlcpdljibgaaa", sum := "870129ee79232dba134d3f60a879781e893d0fd52e3a80e0b64d3e4eaaeb31cd", func := "loop.example/metricstore/laws.FnMeanOf", spec := "fnMeanOf", apart := false, narrowed := true }
def FnMeanOfUptoSaid : Prop := fnMeanOfUptoRow.holds Try.pinned (OpenSpec.upto fnMeanOfSpec)

/-- 'laws.FnMeanOfMove', WHERE WHAT IT READS IS OF BULK AT MOST 1048576: true; the input reads as it did. -/
def fnMeanOfMoveUptoRow : OpenClaim := { program := "ytfjlcpdljibgaaa", sum := "870129ee79232dba134d3f60a879781e893d0fd52e3a80e0b64d3e4eaaeb31cd", func := "loop.example/metricstore/laws.FnMeanOfMove", spec := "fnMeanOfMove", apart := false, narrowed := true }
def FnMeanOfMoveUptoSaid : Prop := fnMeanOfMoveUptoRow.holds Try.pinned (OpenSpec.upto fnMeanOfMoveSpec)

/-- 'laws.FnGetVar', WHERE WHAT IT READS IS OF BULK AT MOST 1048576: true; the input reads as it did. -/
def fnGetVarUptoRow : OpenClaim := { program := "ytfjlcpdljibgaaa", sum := "870129ee79232dba134d3f60a879781e893d0fd52e3a80e0b64d3e4eaaeb31cd", func := "loop.example/metricstore/laws.FnGetVar", spec := "fnGetVar", recurses := true, apart := false, narrowed := true }
def FnGetVarUptoSaid : Prop := fnGetVarUptoRow.holds Try.pinned (OpenSpec.upto fnGetVarSpec)

end Rows
end Go.Proofs.Ytfjlcpdljibgaaa
