/-
  No cell of these rows narrows 'for every input' (looked for: loops, veiled, ifaces, maps, wideKeys, modest, calm, conditions, laid).
  DERIVED. THE GIVEN ROWS OF THIS SEAT. 10 by the template 'for every input the law returns true; each argument reads behind the call as it read before'; 0 by the template 'total and deterministic' (their statements: YtnobhelpmkmofaaTotals.lean).
  GIVEN WITH THE SEED: the statements are not yours to turn. If you find one false, say at which input.
  Laid BY PROGRAM, IN A SANDBOX (cutbox-rows.mjs): the forced cells as the released guide's own fill.sh prints them over the translation 97dc46474e2e387e… (all of the seat's roots in one cut). By AI agents, Wed Nov 11 2026. No macro, syntax, notation, axiom, sorry.
-/
import Derived.Test.YtnobhelpmkmofaaChecked
import GoSem.Claim
import GoSem.ClaimJoined
import GoSem.ClaimMapViews
import Derived.JoinedTies
import Derived.KernelRfl
namespace Go.Proofs.Ytnobhelpmkmofaa
/- THE CELL 'sum', in the pinned program and in every row, IS THE sha256 OF THE DUMP (.gsa) THAT YtnobhelpmkmofaaProg.lean LOADS. Nothing in Lean hashes anything: it is a label: what it is worth is what the hold of that sum in a sandbox is worth. -/
noncomputable def Try.pinned : Pinned := { name := "ytnobhelpmkmofaa", sum := "97dc46474e2e387e769942ea0d4a83158cffb7b3f76abffaf7a83d0d22355f56", checked := Try.checked }
namespace Rows
def none {H : Type} : Left H := { results := [], args := [] }

/-- 'laws.FnExactSemiJoin': WHATEVER THE INPUT: true; the input reads as it did. -/
def fnExactSemiJoinSpec : ChangeSpec := { name := "fnExactSemiJoin", fn := fun _ => fun
  | [d1, d2, d3] => { results := [.lit (.bool true)], args := [d1, d2, d3] }
  | _ => none }
def fnExactSemiJoinRow : OpenClaim := { program := "ytnobhelpmkmofaa", sum := "97dc46474e2e387e769942ea0d4a83158cffb7b3f76abffaf7a83d0d22355f56", func := "loop.example/g00305/laws.FnExactSemiJoin", spec := "fnExactSemiJoin", unfollowed := true, recurses := true, apart := false }
def FnExactSemiJoinSaid : Prop := fnExactSemiJoinRow.holds Try.pinned (OpenSpec.ofChange fnExactSemiJoinSpec)

/-- ITS FALSE NEIGHBOUR: 'it returns false'. Refute it at one input. -/
def fnExactSemiJoinWrong : ChangeSpec := { name := "fnExactSemiJoin", fn := fun _ => fun
  | [d1, d2, d3] => { results := [.lit (.bool false)], args := [d1, d2, d3] }
  | _ => none }
def FnExactSemiJoinWrongFalsely : Prop := fnExactSemiJoinRow.holds Try.pinned (OpenSpec.ofChange fnExactSemiJoinWrong)

/-- 'laws.FnExactDelayStream': WHATEVER THE INPUT: true; the input reads as it did. -/
def fnExactDelayStreamSpec : ChangeSpec := { name := "fnExactDelayStream", fn := fun _ => fun
  | [d] => { results := [.lit (.bool true)], args := [d] }
  | _ => none }
def fnExactDelayStreamRow : OpenClaim := { program := "ytnobhelpmkmofaa", sum := "97dc46474e2e387e769942ea0d4a83158cffb7b3f76abffaf7a83d0d22355f56", func := "loop.example/g00305/laws.FnExactDelayStream", spec := "fnExactDelayStream", unfollowed := true, recurses := true, apart := false }
def FnExactDelayStreamSaid : Prop := fnExactDelayStreamRow.holds Try.pinned (OpenSpec.ofChange fnExactDelayStreamSpec)

/-- ITS FALSE NEIGHBOUR: 'it returns false'. Refute it at one input. -/
def fnExactDelayStreamWrong : ChangeSpec := { name := "fnExactDelayStream", fn := fun _ => fun
  | [d] => { results := [.lit (.bool false)], args := [d] }
  | _ => none }
def FnExactDelayStreamWrongFalsely : Prop := fnExactDelayStreamRow.holds Try.pinned (OpenSpec.ofChange fnExactDelayStreamWrong)

/-- 'laws.FnExactChaseStep': WHATEVER THE INPUT: true; the input reads as it did. -/
def fnExactChaseStepSpec : ChangeSpec := { name := "fnExactChaseStep", fn := fun _ => fun
  | [d1, d2] => { results := [.lit (.bool true)], args := [d1, d2] }
  | _ => none }
def fnExactChaseStepRow : OpenClaim := { program := "ytnobhelpmkmofaa", sum := "97dc46474e2e387e769942ea0d4a83158cffb7b3f76abffaf7a83d0d22355f56", func := "loop.example/g00305/laws.FnExactChaseStep", spec := "fnExactChaseStep", unfollowed := true, recurses := true, apart := false }
def FnExactChaseStepSaid : Prop := fnExactChaseStepRow.holds Try.pinned (OpenSpec.ofChange fnExactChaseStepSpec)

/-- ITS FALSE NEIGHBOUR: 'it returns false'. Refute it at one input. -/
def fnExactChaseStepWrong : ChangeSpec := { name := "fnExactChaseStep", fn := fun _ => fun
  | [d1, d2] => { results := [.lit (.bool false)], args := [d1, d2] }
  | _ => none }
def FnExactChaseStepWrongFalsely : Prop := fnExactChaseStepRow.holds Try.pinned (OpenSpec.ofChange fnExactChaseStepWrong)

/-- 'laws.FnExactChaseAll': WHATEVER THE INPUT: true; the input reads as it did. -/
def fnExactChaseAllSpec : ChangeSpec := { name := "fnExactChaseAll", fn := fun _ => fun
  | [d1, d2] => { results := [.lit (.bool true)], args := [d1, d2] }
  | _ => none }
def fnExactChaseAllRow : OpenClaim := { program := "ytnobhelpmkmofaa", sum := "97dc46474e2e387e769942ea0d4a83158cffb7b3f76abffaf7a83d0d22355f56", func := "loop.example/g00305/laws.FnExactChaseAll", spec := "fnExactChaseAll", unfollowed := true, recurses := true, apart := false }
def FnExactChaseAllSaid : Prop := fnExactChaseAllRow.holds Try.pinned (OpenSpec.ofChange fnExactChaseAllSpec)

/-- ITS FALSE NEIGHBOUR: 'it returns false'. Refute it at one input. -/
def fnExactChaseAllWrong : ChangeSpec := { name := "fnExactChaseAll", fn := fun _ => fun
  | [d1, d2] => { results := [.lit (.bool false)], args := [d1, d2] }
  | _ => none }
def FnExactChaseAllWrongFalsely : Prop := fnExactChaseAllRow.holds Try.pinned (OpenSpec.ofChange fnExactChaseAllWrong)

/-- 'laws.FnExactTableauTable': WHATEVER THE INPUT: true; the input reads as it did. -/
def fnExactTableauTableSpec : ChangeSpec := { name := "fnExactTableauTable", fn := fun _ => fun
  | [d] => { results := [.lit (.bool true)], args := [d] }
  | _ => none }
def fnExactTableauTableRow : OpenClaim := { program := "ytnobhelpmkmofaa", sum := "97dc46474e2e387e769942ea0d4a83158cffb7b3f76abffaf7a83d0d22355f56", func := "loop.example/g00305/laws.FnExactTableauTable", spec := "fnExactTableauTable", unfollowed := true, recurses := true, apart := false }
def FnExactTableauTableSaid : Prop := fnExactTableauTableRow.holds Try.pinned (OpenSpec.ofChange fnExactTableauTableSpec)

/-- ITS FALSE NEIGHBOUR: 'it returns false'. Refute it at one input. -/
def fnExactTableauTableWrong : ChangeSpec := { name := "fnExactTableauTable", fn := fun _ => fun
  | [d] => { results := [.lit (.bool false)], args := [d] }
  | _ => none }
def FnExactTableauTableWrongFalsely : Prop := fnExactTableauTableRow.holds Try.pinned (OpenSpec.ofChange fnExactTableauTableWrong)

/-- 'laws.FnExactPushDown': WHATEVER THE INPUT: true; the input reads as it did. -/
def fnExactPushDownSpec : ChangeSpec := { name := "fnExactPushDown", fn := fun _ => fun
  | [d] => { results := [.lit (.bool true)], args := [d] }
  | _ => none }
def fnExactPushDownRow : OpenClaim := { program := "ytnobhelpmkmofaa", sum := "97dc46474e2e387e769942ea0d4a83158cffb7b3f76abffaf7a83d0d22355f56", func := "loop.example/g00305/laws.FnExactPushDown", spec := "fnExactPushDown", unfollowed := true, recurses := true, apart := false }
def FnExactPushDownSaid : Prop := fnExactPushDownRow.holds Try.pinned (OpenSpec.ofChange fnExactPushDownSpec)

/-- ITS FALSE NEIGHBOUR: 'it returns false'. Refute it at one input. -/
def fnExactPushDownWrong : ChangeSpec := { name := "fnExactPushDown", fn := fun _ => fun
  | [d] => { results := [.lit (.bool false)], args := [d] }
  | _ => none }
def FnExactPushDownWrongFalsely : Prop := fnExactPushDownRow.holds Try.pinned (OpenSpec.ofChange fnExactPushDownWrong)

/-- 'laws.FnExactDistinctDelta': WHATEVER THE INPUT: true; the input reads as it did. -/
def fnExactDistinctDeltaSpec : ChangeSpec := { name := "fnExactDistinctDelta", fn := fun _ => fun
  | [d1, d2] => { results := [.lit (.bool true)], args := [d1, d2] }
  | _ => none }
def fnExactDistinctDeltaRow : OpenClaim := { program := "ytnobhelpmkmofaa", sum := "97dc46474e2e387e769942ea0d4a83158cffb7b3f76abffaf7a83d0d22355f56", func := "loop.example/g00305/laws.FnExactDistinctDelta", spec := "fnExactDistinctDelta", unfollowed := true, recurses := true, apart := false }
def FnExactDistinctDeltaSaid : Prop := fnExactDistinctDeltaRow.holds Try.pinned (OpenSpec.ofChange fnExactDistinctDeltaSpec)

/-- ITS FALSE NEIGHBOUR: 'it returns false'. Refute it at one input. -/
def fnExactDistinctDeltaWrong : ChangeSpec := { name := "fnExactDistinctDelta", fn := fun _ => fun
  | [d1, d2] => { results := [.lit (.bool false)], args := [d1, d2] }
  | _ => none }
def FnExactDistinctDeltaWrongFalsely : Prop := fnExactDistinctDeltaRow.holds Try.pinned (OpenSpec.ofChange fnExactDistinctDeltaWrong)

/-- 'laws.FnExactIntegrate': WHATEVER THE INPUT: true; the input reads as it did. -/
def fnExactIntegrateSpec : ChangeSpec := { name := "fnExactIntegrate", fn := fun _ => fun
  | [d] => { results := [.lit (.bool true)], args := [d] }
  | _ => none }
def fnExactIntegrateRow : OpenClaim := { program := "ytnobhelpmkmofaa", sum := "97dc46474e2e387e769942ea0d4a83158cffb7b3f76abffaf7a83d0d22355f56", func := "loop.example/g00305/laws.FnExactIntegrate", spec := "fnExactIntegrate", unfollowed := true, recurses := true, apart := false }
def FnExactIntegrateSaid : Prop := fnExactIntegrateRow.holds Try.pinned (OpenSpec.ofChange fnExactIntegrateSpec)

/-- ITS FALSE NEIGHBOUR: 'it returns false'. Refute it at one input. -/
def fnExactIntegrateWrong : ChangeSpec := { name := "fnExactIntegrate", fn := fun _ => fun
  | [d] => { results := [.lit (.bool false)], args := [d] }
  | _ => none }
def FnExactIntegrateWrongFalsely : Prop := fnExactIntegrateRow.holds Try.pinned (OpenSpec.ofChange fnExactIntegrateWrong)

/-- 'laws.FnExactDifferentiate': WHATEVER THE INPUT: true; the input reads as it did. -/
def fnExactDifferentiateSpec : ChangeSpec := { name := "fnExactDifferentiate", fn := fun _ => fun
  | [d] => { results := [.lit (.bool true)], args := [d] }
  | _ => none }
def fnExactDifferentiateRow : OpenClaim := { program := "ytnobhelpmkmofaa", sum := "97dc46474e2e387e769942ea0d4a83158cffb7b3f76abffaf7a83d0d22355f56", func := "loop.example/g00305/laws.FnExactDifferentiate", spec := "fnExactDifferentiate", unfollowed := true, recurses := true, apart := false }
def FnExactDifferentiateSaid : Prop := fnExactDifferentiateRow.holds Try.pinned (OpenSpec.ofChange fnExactDifferentiateSpec)

/-- ITS FALSE NEIGHBOUR: 'it returns false'. Refute it at one input. -/
def fnExactDifferentiateWrong : ChangeSpec := { name := "fnExactDifferentiate", fn := fun _ => fun
  | [d] => { results := [.lit (.bool false)], args := [d] }
  | _ => none }
def FnExactDifferentiateWrongFalsely : Prop := fnExactDifferentiateRow.holds Try.pinned (OpenSpec.ofChange fnExactDifferentiateWrong)

/-- 'laws.FnExactPartTables': WHATEVER THE INPUT: true; the input reads as it did. -/
def fnExactPartTablesSpec : ChangeSpec := { name := "fnExactPartTables", fn := fun _ => fun
  | [d1, d2] => { results := [.lit (.bool true)], args := [d1, d2] }
  | _ => none }
def fnExactPartTablesRow : OpenClaim := { program := "ytnobhelpmkmofaa", sum := "97dc46474e2e387e769942ea0d4a83158cffb7b3f76abffaf7a83d0d22355f56", func := "loop.example/g00305/laws.FnExactPartTables", spec := "fnExactPartTables", unfollowed := true, recurses := true, apart := false }
def FnExactPartTablesSaid : Prop := fnExactPartTablesRow.holds Try.pinned (OpenSpec.ofChange fnExactPartTablesSpec)

/-- ITS FALSE NEIGHBOUR: 'it returns false'. Refute it at one input. -/
def fnExactPartTablesWrong : ChangeSpec := { name := "fnExactPartTables", fn := fun _ => fun
  | [d1, d2] => { results := [.lit (.bool false)], args := [d1, d2] }
  | _ => none }
def FnExactPartTablesWrongFalsely : Prop := fnExactPartTablesRow.holds Try.pinned (OpenSpec.ofChange fnExactPartTablesWrong)

/- THE SECOND FORM. 'bulk': how many values and letters a reading holds, each counted each time it is reached (what is shared counts as often as it is met; a slice's spare places count too). A statement '..UptoSaid' is the law's where the arguments, and the package variables that the reading takes, are together of bulk at most 1048576: NARROWER than '..Said'. Prove '..Said' where nothing that the law and all that it calls make is longer than what came in: it says more and counts as full. Else prove '..UptoSaid'. A law counts once. -/
mutual
def uptoBulk {H : Type} : DataW H → Nat
  | .lit (.string bytes) => bytes.length + 1
  | .lit _ => 1
  | .nil => 1
  | .ptr d => uptoBulk d + 1
  | .slice elems spare => uptoBulkAll elems + uptoBulkAll spare + 1
  | .agg parts => uptoBulkAll parts + 1
  | .iface _ d => uptoBulk d + 1
  | .map entries => uptoBulkEntries entries + 1
  | .held _ => 1
def uptoBulkAll {H : Type} : List (DataW H) → Nat
  | [] => 0
  | d :: r => uptoBulk d + uptoBulkAll r
def uptoBulkEntries {H : Type} : List (Lit × DataW H) → Nat
  | [] => 0
  | x :: r => uptoBulkEntry x + uptoBulkEntries r
def uptoBulkEntry {H : Type} : Lit × DataW H → Nat
  | (.string bytes, d) => bytes.length + uptoBulk d + 1
  | (_, d) => uptoBulk d + 1
 end
def uptoSmall : (H : Type) → List (DataW H) → Bool := fun _ ds => decide (uptoBulkAll ds ≤ 1048576)
def OpenSpec.upto (s : _root_.Go.ChangeSpec) : _root_.Go.OpenSpec := { _root_.Go.OpenSpec.ofChange s with cond := some uptoSmall }

/-- 'laws.FnExactSemiJoin', WHERE WHAT IT READS IS OF BULK AT MOST 1048576: true; the input reads as it did. -/
def fnExactSemiJoinUptoRow : OpenClaim := { program := "ytnobhelpmkmofaa", sum := "97dc46474e2e387e769942ea0d4a83158cffb7b3f76abffaf7a83d0d22355f56", func := "loop.example/g00305/laws.FnExactSemiJoin", spec := "fnExactSemiJoin", unfollowed := true, recurses := true, apart := false, narrowed := true }
def FnExactSemiJoinUptoSaid : Prop := fnExactSemiJoinUptoRow.holds Try.pinned (OpenSpec.upto fnExactSemiJoinSpec)

/-- 'laws.FnExactDelayStream', WHERE WHAT IT READS IS OF BULK AT MOST 1048576: true; the input reads as it did. -/
def fnExactDelayStreamUptoRow : OpenClaim := { program := "ytnobhelpmkmofaa", sum := "97dc46474e2e387e769942ea0d4a83158cffb7b3f76abffaf7a83d0d22355f56", func := "loop.example/g00305/laws.FnExactDelayStream", spec := "fnExactDelayStream", unfollowed := true, recurses := true, apart := false, narrowed := true }
def FnExactDelayStreamUptoSaid : Prop := fnExactDelayStreamUptoRow.holds Try.pinned (OpenSpec.upto fnExactDelayStreamSpec)

/-- 'laws.FnExactChaseStep', WHERE WHAT IT READS IS OF BULK AT MOST 1048576: true; the input reads as it did. -/
def fnExactChaseStepUptoRow : OpenClaim := { program := "ytnobhelpmkmofaa", sum := "97dc46474e2e387e769942ea0d4a83158cffb7b3f76abffaf7a83d0d22355f56", func := "loop.example/g00305/laws.FnExactChaseStep", spec := "fnExactChaseStep", unfollowed := true, recurses := true, apart := false, narrowed := true }
def FnExactChaseStepUptoSaid : Prop := fnExactChaseStepUptoRow.holds Try.pinned (OpenSpec.upto fnExactChaseStepSpec)

/-- 'laws.FnExactChaseAll', WHERE WHAT IT READS IS OF BULK AT MOST 1048576: true; the input reads as it did. -/
def fnExactChaseAllUptoRow : OpenClaim := { program := "ytnobhelpmkmofaa", sum := "97dc46474e2e387e769942ea0d4a83158cffb7b3f76abffaf7a83d0d22355f56", func := "loop.example/g00305/laws.FnExactChaseAll", spec := "fnExactChaseAll", unfollowed := true, recurses := true, apart := false, narrowed := true }
def FnExactChaseAllUptoSaid : Prop := fnExactChaseAllUptoRow.holds Try.pinned (OpenSpec.upto fnExactChaseAllSpec)

/-- 'laws.FnExactTableauTable', WHERE WHAT IT READS IS OF BULK AT MOST 1048576: true; the input reads as it did. -/
def fnExactTableauTableUptoRow : OpenClaim := { program := "ytnobhelpmkmofaa", sum := "97dc46474e2e387e769942ea0d4a83158cffb7b3f76abffaf7a83d0d22355f56", func := "loop.example/g00305/laws.FnExactTableauTable", spec := "fnExactTableauTable", unfollowed := true, recurses := true, apart := false, narrowed := true }
def FnExactTableauTableUptoSaid : Prop := fnExactTableauTableUptoRow.holds Try.pinned (OpenSpec.upto fnExactTableauTableSpec)

/-- 'laws.FnExactPushDown', WHERE WHAT IT READS IS OF BULK AT MOST 1048576: true; the input reads as it did. -/
def fnExactPushDownUptoRow : OpenClaim := { program := "ytnobhelpmkmofaa", sum := "97dc46474e2e387e769942ea0d4a83158cffb7b3f76abffaf7a83d0d22355f56", func := "loop.example/g00305/laws.FnExactPushDown", spec := "fnExactPushDown", unfollowed := true, recurses := true, apart := false, narrowed := true }
def FnExactPushDownUptoSaid : Prop := fnExactPushDownUptoRow.holds Try.pinned (OpenSpec.upto fnExactPushDownSpec)

/-- 'laws.FnExactDistinctDelta', WHERE WHAT IT READS IS OF BULK AT MOST 1048576: true; the input reads as it did. -/
def fnExactDistinctDeltaUptoRow : OpenClaim := { program := "ytnobhelpmkmofaa", sum := "97dc46474e2e387e769942ea0d4a83158cffb7b3f76abffaf7a83d0d22355f56", func := "loop.example/g00305/laws.FnExactDistinctDelta", spec := "fnExactDistinctDelta", unfollowed := true, recurses := true, apart := false, narrowed := true }
def FnExactDistinctDeltaUptoSaid : Prop := fnExactDistinctDeltaUptoRow.holds Try.pinned (OpenSpec.upto fnExactDistinctDeltaSpec)

/-- 'laws.FnExactIntegrate', WHERE WHAT IT READS IS OF BULK AT MOST 1048576: true; the input reads as it did. -/
def fnExactIntegrateUptoRow : OpenClaim := { program := "ytnobhelpmkmofaa", sum := "97dc46474e2e387e769942ea0d4a83158cffb7b3f76abffaf7a83d0d22355f56", func := "loop.example/g00305/laws.FnExactIntegrate", spec := "fnExactIntegrate", unfollowed := true, recurses := true, apart := false, narrowed := true }
def FnExactIntegrateUptoSaid : Prop := fnExactIntegrateUptoRow.holds Try.pinned (OpenSpec.upto fnExactIntegrateSpec)

/-- 'laws.FnExactDifferentiate', WHERE WHAT IT READS IS OF BULK AT MOST 1048576: true; the input reads as it did. -/
def fnExactDifferentiateUptoRow : OpenClaim := { program := "ytnobhelpmkmofaa", sum := "97dc46474e2e387e769942ea0d4a83158cffb7b3f76abffaf7a83d0d22355f56", func := "loop.example/g00305/laws.FnExactDifferentiate", spec := "fnExactDifferentiate", unfollowed := true, recurses := true, apart := false, narrowed := true }
def FnExactDifferentiateUptoSaid : Prop := fnExactDifferentiateUptoRow.holds Try.pinned (OpenSpec.upto fnExactDifferentiateSpec)

/-- 'laws.FnExactPartTables', WHERE WHAT IT READS IS OF BULK AT MOST 1048576: true; the input reads as it did. -/
def fnExactPartTablesUptoRow : OpenClaim := { program := "ytnobhelpmkmofaa", sum := "97dc46474e2e387e769942ea0d4a83158cffb7b3f76abffaf7a83d0d22355f56", func := "loop.example/g00305/laws.FnExactPartTables", spec := "fnExactPartTables", unfollowed := true, recurses := true, apart := false, narrowed := true }
def FnExactPartTablesUptoSaid : Prop := fnExactPartTablesUptoRow.holds Try.pinned (OpenSpec.upto fnExactPartTablesSpec)

end Rows
end Go.Proofs.Ytnobhelpmkmofaa
