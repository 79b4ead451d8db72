/-
  No cell of these rows narrows 'for every input' (looked for: loops, veiled, ifaces, maps, wideKeys, modest, calm, conditions, laid).
  DERIVED. THE GIVEN ROWS OF THIS SEAT. 12 by the template 'for every input the law returns true; each argument reads behind the call as it read before'; 0 by the template 'total and deterministic' (their statements: YtgblilbjpjidfaaTotals.lean).
  GIVEN WITH THE SEED: the statements are not yours to turn. If you find one false, say at which input.
  Laid BY PROGRAM, IN A SANDBOX (cutbox-rows.mjs): the forced cells as the released guide's own fill.sh prints them over the translation 3a51564c5a8a8c05… (all of the seat's roots in one cut). By AI agents, Wed Nov 11 2026. No macro, syntax, notation, axiom, sorry.
-/
import Derived.Test.YtgblilbjpjidfaaChecked
import GoSem.Claim
import GoSem.ClaimJoined
import GoSem.ClaimMapViews
import Derived.JoinedTies
import Derived.KernelRfl
namespace Go.Proofs.Ytgblilbjpjidfaa
/- THE CELL 'sum', in the pinned program and in every row, IS THE sha256 OF THE DUMP (.gsa) THAT YtgblilbjpjidfaaProg.lean LOADS. Nothing in Lean hashes anything: it is a label: what it is worth is what the hold of that sum in a sandbox is worth. -/
noncomputable def Try.pinned : Pinned := { name := "ytgblilbjpjidfaa", sum := "3a51564c5a8a8c052994d107ceb15dde8e1dd4de04dfc3a949f3b00abf1503d9", checked := Try.checked }
namespace Rows
def none {H : Type} : Left H := { results := [], args := [] }

/-- 'laws.FnExactNegateTable': WHATEVER THE INPUT: true; the input reads as it did. -/
def fnExactNegateTableSpec : ChangeSpec := { name := "fnExactNegateTable", fn := fun _ => fun
  | [d] => { results := [.lit (.bool true)], args := [d] }
  | _ => none }
def fnExactNegateTableRow : OpenClaim := { program := "ytgblilbjpjidfaa", sum := "3a51564c5a8a8c052994d107ceb15dde8e1dd4de04dfc3a949f3b00abf1503d9", func := "loop.example/g00305/laws.FnExactNegateTable", spec := "fnExactNegateTable", unfollowed := true, recurses := true, apart := false }
def FnExactNegateTableSaid : Prop := fnExactNegateTableRow.holds Try.pinned (OpenSpec.ofChange fnExactNegateTableSpec)

/-- ITS FALSE NEIGHBOUR: 'it returns false'. Refute it at one input. -/
def fnExactNegateTableWrong : ChangeSpec := { name := "fnExactNegateTable", fn := fun _ => fun
  | [d] => { results := [.lit (.bool false)], args := [d] }
  | _ => none }
def FnExactNegateTableWrongFalsely : Prop := fnExactNegateTableRow.holds Try.pinned (OpenSpec.ofChange fnExactNegateTableWrong)

/-- 'laws.FnExactScaleTable': WHATEVER THE INPUT: true; the input reads as it did. -/
def fnExactScaleTableSpec : ChangeSpec := { name := "fnExactScaleTable", fn := fun _ => fun
  | [d1, d2] => { results := [.lit (.bool true)], args := [d1, d2] }
  | _ => none }
def fnExactScaleTableRow : OpenClaim := { program := "ytgblilbjpjidfaa", sum := "3a51564c5a8a8c052994d107ceb15dde8e1dd4de04dfc3a949f3b00abf1503d9", func := "loop.example/g00305/laws.FnExactScaleTable", spec := "fnExactScaleTable", unfollowed := true, recurses := true, apart := false }
def FnExactScaleTableSaid : Prop := fnExactScaleTableRow.holds Try.pinned (OpenSpec.ofChange fnExactScaleTableSpec)

/-- ITS FALSE NEIGHBOUR: 'it returns false'. Refute it at one input. -/
def fnExactScaleTableWrong : ChangeSpec := { name := "fnExactScaleTable", fn := fun _ => fun
  | [d1, d2] => { results := [.lit (.bool false)], args := [d1, d2] }
  | _ => none }
def FnExactScaleTableWrongFalsely : Prop := fnExactScaleTableRow.holds Try.pinned (OpenSpec.ofChange fnExactScaleTableWrong)

/-- 'laws.FnExactDistinctTable': WHATEVER THE INPUT: true; the input reads as it did. -/
def fnExactDistinctTableSpec : ChangeSpec := { name := "fnExactDistinctTable", fn := fun _ => fun
  | [d] => { results := [.lit (.bool true)], args := [d] }
  | _ => none }
def fnExactDistinctTableRow : OpenClaim := { program := "ytgblilbjpjidfaa", sum := "3a51564c5a8a8c052994d107ceb15dde8e1dd4de04dfc3a949f3b00abf1503d9", func := "loop.example/g00305/laws.FnExactDistinctTable", spec := "fnExactDistinctTable", unfollowed := true, recurses := true, apart := false }
def FnExactDistinctTableSaid : Prop := fnExactDistinctTableRow.holds Try.pinned (OpenSpec.ofChange fnExactDistinctTableSpec)

/-- ITS FALSE NEIGHBOUR: 'it returns false'. Refute it at one input. -/
def fnExactDistinctTableWrong : ChangeSpec := { name := "fnExactDistinctTable", fn := fun _ => fun
  | [d] => { results := [.lit (.bool false)], args := [d] }
  | _ => none }
def FnExactDistinctTableWrongFalsely : Prop := fnExactDistinctTableRow.holds Try.pinned (OpenSpec.ofChange fnExactDistinctTableWrong)

/-- 'laws.FnExactExceptTables': WHATEVER THE INPUT: true; the input reads as it did. -/
def fnExactExceptTablesSpec : ChangeSpec := { name := "fnExactExceptTables", fn := fun _ => fun
  | [d1, d2] => { results := [.lit (.bool true)], args := [d1, d2] }
  | _ => none }
def fnExactExceptTablesRow : OpenClaim := { program := "ytgblilbjpjidfaa", sum := "3a51564c5a8a8c052994d107ceb15dde8e1dd4de04dfc3a949f3b00abf1503d9", func := "loop.example/g00305/laws.FnExactExceptTables", spec := "fnExactExceptTables", unfollowed := true, recurses := true, apart := false }
def FnExactExceptTablesSaid : Prop := fnExactExceptTablesRow.holds Try.pinned (OpenSpec.ofChange fnExactExceptTablesSpec)

/-- ITS FALSE NEIGHBOUR: 'it returns false'. Refute it at one input. -/
def fnExactExceptTablesWrong : ChangeSpec := { name := "fnExactExceptTables", fn := fun _ => fun
  | [d1, d2] => { results := [.lit (.bool false)], args := [d1, d2] }
  | _ => none }
def FnExactExceptTablesWrongFalsely : Prop := fnExactExceptTablesRow.holds Try.pinned (OpenSpec.ofChange fnExactExceptTablesWrong)

/-- 'laws.FnExactIntersectTables': WHATEVER THE INPUT: true; the input reads as it did. -/
def fnExactIntersectTablesSpec : ChangeSpec := { name := "fnExactIntersectTables", fn := fun _ => fun
  | [d1, d2] => { results := [.lit (.bool true)], args := [d1, d2] }
  | _ => none }
def fnExactIntersectTablesRow : OpenClaim := { program := "ytgblilbjpjidfaa", sum := "3a51564c5a8a8c052994d107ceb15dde8e1dd4de04dfc3a949f3b00abf1503d9", func := "loop.example/g00305/laws.FnExactIntersectTables", spec := "fnExactIntersectTables", unfollowed := true, recurses := true, apart := false }
def FnExactIntersectTablesSaid : Prop := fnExactIntersectTablesRow.holds Try.pinned (OpenSpec.ofChange fnExactIntersectTablesSpec)

/-- ITS FALSE NEIGHBOUR: 'it returns false'. Refute it at one input. -/
def fnExactIntersectTablesWrong : ChangeSpec := { name := "fnExactIntersectTables", fn := fun _ => fun
  | [d1, d2] => { results := [.lit (.bool false)], args := [d1, d2] }
  | _ => none }
def FnExactIntersectTablesWrongFalsely : Prop := fnExactIntersectTablesRow.holds Try.pinned (OpenSpec.ofChange fnExactIntersectTablesWrong)

/-- 'laws.FnExactSelectRows': WHATEVER THE INPUT: true; the input reads as it did. -/
def fnExactSelectRowsSpec : ChangeSpec := { name := "fnExactSelectRows", fn := fun _ => fun
  | [d1, d2] => { results := [.lit (.bool true)], args := [d1, d2] }
  | _ => none }
def fnExactSelectRowsRow : OpenClaim := { program := "ytgblilbjpjidfaa", sum := "3a51564c5a8a8c052994d107ceb15dde8e1dd4de04dfc3a949f3b00abf1503d9", func := "loop.example/g00305/laws.FnExactSelectRows", spec := "fnExactSelectRows", unfollowed := true, recurses := true, apart := false }
def FnExactSelectRowsSaid : Prop := fnExactSelectRowsRow.holds Try.pinned (OpenSpec.ofChange fnExactSelectRowsSpec)

/-- ITS FALSE NEIGHBOUR: 'it returns false'. Refute it at one input. -/
def fnExactSelectRowsWrong : ChangeSpec := { name := "fnExactSelectRows", fn := fun _ => fun
  | [d1, d2] => { results := [.lit (.bool false)], args := [d1, d2] }
  | _ => none }
def FnExactSelectRowsWrongFalsely : Prop := fnExactSelectRowsRow.holds Try.pinned (OpenSpec.ofChange fnExactSelectRowsWrong)

/-- 'laws.FnExactNewTable': WHATEVER THE INPUT: true; the input reads as it did. -/
def fnExactNewTableSpec : ChangeSpec := { name := "fnExactNewTable", fn := fun _ => fun
  | [d1, d2] => { results := [.lit (.bool true)], args := [d1, d2] }
  | _ => none }
def fnExactNewTableRow : OpenClaim := { program := "ytgblilbjpjidfaa", sum := "3a51564c5a8a8c052994d107ceb15dde8e1dd4de04dfc3a949f3b00abf1503d9", func := "loop.example/g00305/laws.FnExactNewTable", spec := "fnExactNewTable", unfollowed := true, recurses := true, apart := false }
def FnExactNewTableSaid : Prop := fnExactNewTableRow.holds Try.pinned (OpenSpec.ofChange fnExactNewTableSpec)

/-- ITS FALSE NEIGHBOUR: 'it returns false'. Refute it at one input. -/
def fnExactNewTableWrong : ChangeSpec := { name := "fnExactNewTable", fn := fun _ => fun
  | [d1, d2] => { results := [.lit (.bool false)], args := [d1, d2] }
  | _ => none }
def FnExactNewTableWrongFalsely : Prop := fnExactNewTableRow.holds Try.pinned (OpenSpec.ofChange fnExactNewTableWrong)

/-- 'laws.FnExactAddTables': WHATEVER THE INPUT: true; the input reads as it did. -/
def fnExactAddTablesSpec : ChangeSpec := { name := "fnExactAddTables", fn := fun _ => fun
  | [d1, d2] => { results := [.lit (.bool true)], args := [d1, d2] }
  | _ => none }
def fnExactAddTablesRow : OpenClaim := { program := "ytgblilbjpjidfaa", sum := "3a51564c5a8a8c052994d107ceb15dde8e1dd4de04dfc3a949f3b00abf1503d9", func := "loop.example/g00305/laws.FnExactAddTables", spec := "fnExactAddTables", unfollowed := true, recurses := true, apart := false }
def FnExactAddTablesSaid : Prop := fnExactAddTablesRow.holds Try.pinned (OpenSpec.ofChange fnExactAddTablesSpec)

/-- ITS FALSE NEIGHBOUR: 'it returns false'. Refute it at one input. -/
def fnExactAddTablesWrong : ChangeSpec := { name := "fnExactAddTables", fn := fun _ => fun
  | [d1, d2] => { results := [.lit (.bool false)], args := [d1, d2] }
  | _ => none }
def FnExactAddTablesWrongFalsely : Prop := fnExactAddTablesRow.holds Try.pinned (OpenSpec.ofChange fnExactAddTablesWrong)

/-- 'laws.FnExactProjectTable': WHATEVER THE INPUT: true; the input reads as it did. -/
def fnExactProjectTableSpec : ChangeSpec := { name := "fnExactProjectTable", fn := fun _ => fun
  | [d1, d2] => { results := [.lit (.bool true)], args := [d1, d2] }
  | _ => none }
def fnExactProjectTableRow : OpenClaim := { program := "ytgblilbjpjidfaa", sum := "3a51564c5a8a8c052994d107ceb15dde8e1dd4de04dfc3a949f3b00abf1503d9", func := "loop.example/g00305/laws.FnExactProjectTable", spec := "fnExactProjectTable", unfollowed := true, recurses := true, apart := false }
def FnExactProjectTableSaid : Prop := fnExactProjectTableRow.holds Try.pinned (OpenSpec.ofChange fnExactProjectTableSpec)

/-- ITS FALSE NEIGHBOUR: 'it returns false'. Refute it at one input. -/
def fnExactProjectTableWrong : ChangeSpec := { name := "fnExactProjectTable", fn := fun _ => fun
  | [d1, d2] => { results := [.lit (.bool false)], args := [d1, d2] }
  | _ => none }
def FnExactProjectTableWrongFalsely : Prop := fnExactProjectTableRow.holds Try.pinned (OpenSpec.ofChange fnExactProjectTableWrong)

/-- 'laws.FnExactProjectDelta': WHATEVER THE INPUT: true; the input reads as it did. -/
def fnExactProjectDeltaSpec : ChangeSpec := { name := "fnExactProjectDelta", fn := fun _ => fun
  | [d1, d2] => { results := [.lit (.bool true)], args := [d1, d2] }
  | _ => none }
def fnExactProjectDeltaRow : OpenClaim := { program := "ytgblilbjpjidfaa", sum := "3a51564c5a8a8c052994d107ceb15dde8e1dd4de04dfc3a949f3b00abf1503d9", func := "loop.example/g00305/laws.FnExactProjectDelta", spec := "fnExactProjectDelta", unfollowed := true, recurses := true, apart := false }
def FnExactProjectDeltaSaid : Prop := fnExactProjectDeltaRow.holds Try.pinned (OpenSpec.ofChange fnExactProjectDeltaSpec)

/-- ITS FALSE NEIGHBOUR: 'it returns false'. Refute it at one input. -/
def fnExactProjectDeltaWrong : ChangeSpec := { name := "fnExactProjectDelta", fn := fun _ => fun
  | [d1, d2] => { results := [.lit (.bool false)], args := [d1, d2] }
  | _ => none }
def FnExactProjectDeltaWrongFalsely : Prop := fnExactProjectDeltaRow.holds Try.pinned (OpenSpec.ofChange fnExactProjectDeltaWrong)

/-- 'laws.FnExactCrossTables': WHATEVER THE INPUT: true; the input reads as it did. -/
def fnExactCrossTablesSpec : ChangeSpec := { name := "fnExactCrossTables", fn := fun _ => fun
  | [d1, d2] => { results := [.lit (.bool true)], args := [d1, d2] }
  | _ => none }
def fnExactCrossTablesRow : OpenClaim := { program := "ytgblilbjpjidfaa", sum := "3a51564c5a8a8c052994d107ceb15dde8e1dd4de04dfc3a949f3b00abf1503d9", func := "loop.example/g00305/laws.FnExactCrossTables", spec := "fnExactCrossTables", unfollowed := true, recurses := true, apart := false }
def FnExactCrossTablesSaid : Prop := fnExactCrossTablesRow.holds Try.pinned (OpenSpec.ofChange fnExactCrossTablesSpec)

/-- ITS FALSE NEIGHBOUR: 'it returns false'. Refute it at one input. -/
def fnExactCrossTablesWrong : ChangeSpec := { name := "fnExactCrossTables", fn := fun _ => fun
  | [d1, d2] => { results := [.lit (.bool false)], args := [d1, d2] }
  | _ => none }
def FnExactCrossTablesWrongFalsely : Prop := fnExactCrossTablesRow.holds Try.pinned (OpenSpec.ofChange fnExactCrossTablesWrong)

/-- 'laws.FnExactJoinTables': WHATEVER THE INPUT: true; the input reads as it did. -/
def fnExactJoinTablesSpec : ChangeSpec := { name := "fnExactJoinTables", fn := fun _ => fun
  | [d1, d2, d3] => { results := [.lit (.bool true)], args := [d1, d2, d3] }
  | _ => none }
def fnExactJoinTablesRow : OpenClaim := { program := "ytgblilbjpjidfaa", sum := "3a51564c5a8a8c052994d107ceb15dde8e1dd4de04dfc3a949f3b00abf1503d9", func := "loop.example/g00305/laws.FnExactJoinTables", spec := "fnExactJoinTables", unfollowed := true, recurses := true, apart := false }
def FnExactJoinTablesSaid : Prop := fnExactJoinTablesRow.holds Try.pinned (OpenSpec.ofChange fnExactJoinTablesSpec)

/-- ITS FALSE NEIGHBOUR: 'it returns false'. Refute it at one input. -/
def fnExactJoinTablesWrong : ChangeSpec := { name := "fnExactJoinTables", fn := fun _ => fun
  | [d1, d2, d3] => { results := [.lit (.bool false)], args := [d1, d2, d3] }
  | _ => none }
def FnExactJoinTablesWrongFalsely : Prop := fnExactJoinTablesRow.holds Try.pinned (OpenSpec.ofChange fnExactJoinTablesWrong)

/- THE SECOND FORM. 'bulk': how many values and letters a reading holds, each counted each time it is reached (what is shared counts as often as it is met; a slice's spare places count too). A statement '..UptoSaid' is the law's where the arguments, and the package variables that the reading takes, are together of bulk at most 1048576: NARROWER than '..Said'. Prove '..Said' where nothing that the law and all that it calls make is longer than what came in: it says more and counts as full. Else prove '..UptoSaid'. A law counts once. -/
mutual
def uptoBulk {H : Type} : DataW H → Nat
  | .lit (.string bytes) => bytes.length + 1
  | .lit _ => 1
  | .nil => 1
  | .ptr d => uptoBulk d + 1
  | .slice elems spare => uptoBulkAll elems + uptoBulkAll spare + 1
  | .agg parts => uptoBulkAll parts + 1
  | .iface _ d => uptoBulk d + 1
  | .map entries => uptoBulkEntries entries + 1
  | .held _ => 1
def uptoBulkAll {H : Type} : List (DataW H) → Nat
  | [] => 0
  | d :: r => uptoBulk d + uptoBulkAll r
def uptoBulkEntries {H : Type} : List (Lit × DataW H) → Nat
  | [] => 0
  | x :: r => uptoBulkEntry x + uptoBulkEntries r
def uptoBulkEntry {H : Type} : Lit × DataW H → Nat
  | (.string bytes, d) => bytes.length + uptoBulk d + 1
  | (_, d) => uptoBulk d + 1
 end
def uptoSmall : (H : Type) → List (DataW H) → Bool := fun _ ds => decide (uptoBulkAll ds ≤ 1048576)
def OpenSpec.upto (s : _root_.Go.ChangeSpec) : _root_.Go.OpenSpec := { _root_.Go.OpenSpec.ofChange s with cond := some uptoSmall }

/-- 'laws.FnExactNegateTable', WHERE WHAT IT READS IS OF BULK AT MOST 1048576: true; the input reads as it did. -/
def fnExactNegateTableUptoRow : OpenClaim := { program := "ytgblilbjpjidfaa", sum := "3a51564c5a8a8c052994d107ceb15dde8e1dd4de04dfc3a949f3b00abf1503d9", func := "loop.example/g00305/laws.FnExactNegateTable", spec := "fnExactNegateTable", unfollowed := true, recurses := true, apart := false, narrowed := true }
def FnExactNegateTableUptoSaid : Prop := fnExactNegateTableUptoRow.holds Try.pinned (OpenSpec.upto fnExactNegateTableSpec)

/-- 'laws.FnExactScaleTable', WHERE WHAT IT READS IS OF BULK AT MOST 1048576: true; the input reads as it did. -/
def fnExactScaleTableUptoRow : OpenClaim := { program := "ytgblilbjpjidfaa", sum := "3a51564c5a8a8c052994d107ceb15dde8e1dd4de04dfc3a949f3b00abf1503d9", func := "loop.example/g00305/laws.FnExactScaleTable", spec := "fnExactScaleTable", unfollowed := true, recurses := true, apart := false, narrowed := true }
def FnExactScaleTableUptoSaid : Prop := fnExactScaleTableUptoRow.holds Try.pinned (OpenSpec.upto fnExactScaleTableSpec)

/-- 'laws.FnExactDistinctTable', WHERE WHAT IT READS IS OF BULK AT MOST 1048576: true; the input reads as it did. -/
def fnExactDistinctTableUptoRow : OpenClaim := { program := "ytgblilbjpjidfaa", sum := "3a51564c5a8a8c052994d107ceb15dde8e1dd4de04dfc3a949f3b00abf1503d9", func := "loop.example/g00305/laws.FnExactDistinctTable", spec := "fnExactDistinctTable", unfollowed := true, recurses := true, apart := false, narrowed := true }
def FnExactDistinctTableUptoSaid : Prop := fnExactDistinctTableUptoRow.holds Try.pinned (OpenSpec.upto fnExactDistinctTableSpec)

/-- 'laws.FnExactExceptTables', WHERE WHAT IT READS IS OF BULK AT MOST 1048576: true; the input reads as it did. -/
def fnExactExceptTablesUptoRow : OpenClaim := { program := "ytgblilbjpjidfaa", sum := "3a51564c5a8a8c052994d107ceb15dde8e1dd4de04dfc3a949f3b00abf1503d9", func := "loop.example/g00305/laws.FnExactExceptTables", spec := "fnExactExceptTables", unfollowed := true, recurses := true, apart := false, narrowed := true }
def FnExactExceptTablesUptoSaid : Prop := fnExactExceptTablesUptoRow.holds Try.pinned (OpenSpec.upto fnExactExceptTablesSpec)

/-- 'laws.FnExactIntersectTables', WHERE WHAT IT READS IS OF BULK AT MOST 1048576: true; the input reads as it did. -/
def fnExactIntersectTablesUptoRow : OpenClaim := { program := "ytgblilbjpjidfaa", sum := "3a51564c5a8a8c052994d107ceb15dde8e1dd4de04dfc3a949f3b00abf1503d9", func := "loop.example/g00305/laws.FnExactIntersectTables", spec := "fnExactIntersectTables", unfollowed := true, recurses := true, apart := false, narrowed := true }
def FnExactIntersectTablesUptoSaid : Prop := fnExactIntersectTablesUptoRow.holds Try.pinned (OpenSpec.upto fnExactIntersectTablesSpec)

/-- 'laws.FnExactSelectRows', WHERE WHAT IT READS IS OF BULK AT MOST 1048576: true; the input reads as it did. -/
def fnExactSelectRowsUptoRow : OpenClaim := { program := "ytgblilbjpjidfaa", sum := "3a51564c5a8a8c052994d107ceb15dde8e1dd4de04dfc3a949f3b00abf1503d9", func := "loop.example/g00305/laws.FnExactSelectRows", spec := "fnExactSelectRows", unfollowed := true, recurses := true, apart := false, narrowed := true }
def FnExactSelectRowsUptoSaid : Prop := fnExactSelectRowsUptoRow.holds Try.pinned (OpenSpec.upto fnExactSelectRowsSpec)

/-- 'laws.FnExactNewTable', WHERE WHAT IT READS IS OF BULK AT MOST 1048576: true; the input reads as it did. -/
def fnExactNewTableUptoRow : OpenClaim := { program := "ytgblilbjpjidfaa", sum := "3a51564c5a8a8c052994d107ceb15dde8e1dd4de04dfc3a949f3b00abf1503d9", func := "loop.example/g00305/laws.FnExactNewTable", spec := "fnExactNewTable", unfollowed := true, recurses := true, apart := false, narrowed := true }
def FnExactNewTableUptoSaid : Prop := fnExactNewTableUptoRow.holds Try.pinned (OpenSpec.upto fnExactNewTableSpec)

/-- 'laws.FnExactAddTables', WHERE WHAT IT READS IS OF BULK AT MOST 1048576: true; the input reads as it did. -/
def fnExactAddTablesUptoRow : OpenClaim := { program := "ytgblilbjpjidfaa", sum := "3a51564c5a8a8c052994d107ceb15dde8e1dd4de04dfc3a949f3b00abf1503d9", func := "loop.example/g00305/laws.FnExactAddTables", spec := "fnExactAddTables", unfollowed := true, recurses := true, apart := false, narrowed := true }
def FnExactAddTablesUptoSaid : Prop := fnExactAddTablesUptoRow.holds Try.pinned (OpenSpec.upto fnExactAddTablesSpec)

/-- 'laws.FnExactProjectTable', WHERE WHAT IT READS IS OF BULK AT MOST 1048576: true; the input reads as it did. -/
def fnExactProjectTableUptoRow : OpenClaim := { program := "ytgblilbjpjidfaa", sum := "3a51564c5a8a8c052994d107ceb15dde8e1dd4de04dfc3a949f3b00abf1503d9", func := "loop.example/g00305/laws.FnExactProjectTable", spec := "fnExactProjectTable", unfollowed := true, recurses := true, apart := false, narrowed := true }
def FnExactProjectTableUptoSaid : Prop := fnExactProjectTableUptoRow.holds Try.pinned (OpenSpec.upto fnExactProjectTableSpec)

/-- 'laws.FnExactProjectDelta', WHERE WHAT IT READS IS OF BULK AT MOST 1048576: true; the input reads as it did. -/
def fnExactProjectDeltaUptoRow : OpenClaim := { program := "ytgblilbjpjidfaa", sum := "3a51564c5a8a8c052994d107ceb15dde8e1dd4de04dfc3a949f3b00abf1503d9", func := "loop.example/g00305/laws.FnExactProjectDelta", spec := "fnExactProjectDelta", unfollowed := true, recurses := true, apart := false, narrowed := true }
def FnExactProjectDeltaUptoSaid : Prop := fnExactProjectDeltaUptoRow.holds Try.pinned (OpenSpec.upto fnExactProjectDeltaSpec)

/-- 'laws.FnExactCrossTables', WHERE WHAT IT READS IS OF BULK AT MOST 1048576: true; the input reads as it did. -/
def fnExactCrossTablesUptoRow : OpenClaim := { program := "ytgblilbjpjidfaa", sum := "3a51564c5a8a8c052994d107ceb15dde8e1dd4de04dfc3a949f3b00abf1503d9", func := "loop.example/g00305/laws.FnExactCrossTables", spec := "fnExactCrossTables", unfollowed := true, recurses := true, apart := false, narrowed := true }
def FnExactCrossTablesUptoSaid : Prop := fnExactCrossTablesUptoRow.holds Try.pinned (OpenSpec.upto fnExactCrossTablesSpec)

/-- 'laws.FnExactJoinTables', WHERE WHAT IT READS IS OF BULK AT MOST 1048576: true; the input reads as it did. -/
def fnExactJoinTablesUptoRow : OpenClaim := { program := "ytgblilbjpjidfaa", sum := "3a51564c5a8a8c052994d107ceb15dde8e1dd4de04dfc3a949f3b00abf1503d9", func := "loop.example/g00305/laws.FnExactJoinTables", spec := "fnExactJoinTables", unfollowed := true, recurses := true, apart := false, narrowed := true }
def FnExactJoinTablesUptoSaid : Prop := fnExactJoinTablesUptoRow.holds Try.pinned (OpenSpec.upto fnExactJoinTablesSpec)

end Rows
end Go.Proofs.Ytgblilbjpjidfaa
