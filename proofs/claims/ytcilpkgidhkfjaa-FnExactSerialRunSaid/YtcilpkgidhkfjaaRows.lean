/-
  No cell of these rows narrows 'for every input' (looked for: loops, veiled, ifaces, maps, wideKeys, modest, calm, conditions, laid).
  DERIVED. THE GIVEN ROWS OF THIS SEAT. 6 by the template 'for every input the law returns true; each argument reads behind the call as it read before'; 0 by the template 'total and deterministic' (their statements: YtcilpkgidhkfjaaTotals.lean).
  GIVEN WITH THE SEED: the statements are not yours to turn. If you find one false, say at which input.
  Laid BY PROGRAM, IN A SANDBOX (cutbox-rows.mjs): the forced cells as the released guide's own fill.sh prints them over the translation f5e68c5ab490952a… (all of the seat's roots in one cut). By AI agents, Wed Nov 11 2026. No macro, syntax, notation, axiom, sorry.
-/
import Derived.Test.YtcilpkgidhkfjaaChecked
import GoSem.Claim
import GoSem.ClaimJoined
import GoSem.ClaimMapViews
import Derived.JoinedTies
import Derived.KernelRfl
namespace Go.Proofs.Ytcilpkgidhkfjaa
/- THE CELL 'sum', in the pinned program and in every row, IS THE sha256 OF THE DUMP (.gsa) THAT YtcilpkgidhkfjaaProg.lean LOADS. Nothing in Lean hashes anything: it is a label: what it is worth is what the hold of that sum in a sandbox is worth. -/
noncomputable def Try.pinned : Pinned := { name := "ytcilpkgidhkfjaa", sum := "f5e68c5ab490952a88ed7d3f54bbadc01233bfa366c75d5302c055cc74bb5de6", checked := Try.checked }
namespace Rows
def none {H : Type} : Left H := { results := [], args := [] }

/-- 'laws.FnExactSizeOf': WHATEVER THE INPUT: true; the input reads as it did. -/
def fnExactSizeOfSpec : ChangeSpec := { name := "fnExactSizeOf", fn := fun _ => fun
  | [d1, d2] => { results := [.lit (.bool true)], args := [d1, d2] }
  | _ => none }
def fnExactSizeOfRow : OpenClaim := { program := "ytcilpkgidhkfjaa", sum := "f5e68c5ab490952a88ed7d3f54bbadc01233bfa366c75d5302c055cc74bb5de6", func := "loop.example/g00305/laws.FnExactSizeOf", spec := "fnExactSizeOf", unfollowed := true, recurses := true, apart := false }
def FnExactSizeOfSaid : Prop := fnExactSizeOfRow.holds Try.pinned (OpenSpec.ofChange fnExactSizeOfSpec)

/-- ITS FALSE NEIGHBOUR: 'it returns false'. Refute it at one input. -/
def fnExactSizeOfWrong : ChangeSpec := { name := "fnExactSizeOf", fn := fun _ => fun
  | [d1, d2] => { results := [.lit (.bool false)], args := [d1, d2] }
  | _ => none }
def FnExactSizeOfWrongFalsely : Prop := fnExactSizeOfRow.holds Try.pinned (OpenSpec.ofChange fnExactSizeOfWrong)

/-- 'laws.FnExactConflictsOf': WHATEVER THE INPUT: true; the input reads as it did. -/
def fnExactConflictsOfSpec : ChangeSpec := { name := "fnExactConflictsOf", fn := fun _ => fun
  | [d] => { results := [.lit (.bool true)], args := [d] }
  | _ => none }
def fnExactConflictsOfRow : OpenClaim := { program := "ytcilpkgidhkfjaa", sum := "f5e68c5ab490952a88ed7d3f54bbadc01233bfa366c75d5302c055cc74bb5de6", func := "loop.example/g00305/laws.FnExactConflictsOf", spec := "fnExactConflictsOf", unfollowed := true, recurses := true, apart := false }
def FnExactConflictsOfSaid : Prop := fnExactConflictsOfRow.holds Try.pinned (OpenSpec.ofChange fnExactConflictsOfSpec)

/-- ITS FALSE NEIGHBOUR: 'it returns false'. Refute it at one input. -/
def fnExactConflictsOfWrong : ChangeSpec := { name := "fnExactConflictsOf", fn := fun _ => fun
  | [d] => { results := [.lit (.bool false)], args := [d] }
  | _ => none }
def FnExactConflictsOfWrongFalsely : Prop := fnExactConflictsOfRow.holds Try.pinned (OpenSpec.ofChange fnExactConflictsOfWrong)

/-- 'laws.FnExactVarsIn': WHATEVER THE INPUT: true; the input reads as it did. -/
def fnExactVarsInSpec : ChangeSpec := { name := "fnExactVarsIn", fn := fun _ => fun
  | [d] => { results := [.lit (.bool true)], args := [d] }
  | _ => none }
def fnExactVarsInRow : OpenClaim := { program := "ytcilpkgidhkfjaa", sum := "f5e68c5ab490952a88ed7d3f54bbadc01233bfa366c75d5302c055cc74bb5de6", func := "loop.example/g00305/laws.FnExactVarsIn", spec := "fnExactVarsIn", unfollowed := true, recurses := true, apart := false }
def FnExactVarsInSaid : Prop := fnExactVarsInRow.holds Try.pinned (OpenSpec.ofChange fnExactVarsInSpec)

/-- ITS FALSE NEIGHBOUR: 'it returns false'. Refute it at one input. -/
def fnExactVarsInWrong : ChangeSpec := { name := "fnExactVarsIn", fn := fun _ => fun
  | [d] => { results := [.lit (.bool false)], args := [d] }
  | _ => none }
def FnExactVarsInWrongFalsely : Prop := fnExactVarsInRow.holds Try.pinned (OpenSpec.ofChange fnExactVarsInWrong)

/-- 'laws.FnExactGoodQuery': WHATEVER THE INPUT: true; the input reads as it did. -/
def fnExactGoodQuerySpec : ChangeSpec := { name := "fnExactGoodQuery", fn := fun _ => fun
  | [d1, d2] => { results := [.lit (.bool true)], args := [d1, d2] }
  | _ => none }
def fnExactGoodQueryRow : OpenClaim := { program := "ytcilpkgidhkfjaa", sum := "f5e68c5ab490952a88ed7d3f54bbadc01233bfa366c75d5302c055cc74bb5de6", func := "loop.example/g00305/laws.FnExactGoodQuery", spec := "fnExactGoodQuery", unfollowed := true, recurses := true, apart := false }
def FnExactGoodQuerySaid : Prop := fnExactGoodQueryRow.holds Try.pinned (OpenSpec.ofChange fnExactGoodQuerySpec)

/-- ITS FALSE NEIGHBOUR: 'it returns false'. Refute it at one input. -/
def fnExactGoodQueryWrong : ChangeSpec := { name := "fnExactGoodQuery", fn := fun _ => fun
  | [d1, d2] => { results := [.lit (.bool false)], args := [d1, d2] }
  | _ => none }
def FnExactGoodQueryWrongFalsely : Prop := fnExactGoodQueryRow.holds Try.pinned (OpenSpec.ofChange fnExactGoodQueryWrong)

/-- 'laws.FnExactSerialRun': WHATEVER THE INPUT: true; the input reads as it did. -/
def fnExactSerialRunSpec : ChangeSpec := { name := "fnExactSerialRun", fn := fun _ => fun
  | [d1, d2] => { results := [.lit (.bool true)], args := [d1, d2] }
  | _ => none }
def fnExactSerialRunRow : OpenClaim := { program := "ytcilpkgidhkfjaa", sum := "f5e68c5ab490952a88ed7d3f54bbadc01233bfa366c75d5302c055cc74bb5de6", func := "loop.example/g00305/laws.FnExactSerialRun", spec := "fnExactSerialRun", unfollowed := true, recurses := true, apart := false }
def FnExactSerialRunSaid : Prop := fnExactSerialRunRow.holds Try.pinned (OpenSpec.ofChange fnExactSerialRunSpec)

/-- ITS FALSE NEIGHBOUR: 'it returns false'. Refute it at one input. -/
def fnExactSerialRunWrong : ChangeSpec := { name := "fnExactSerialRun", fn := fun _ => fun
  | [d1, d2] => { results := [.lit (.bool false)], args := [d1, d2] }
  | _ => none }
def FnExactSerialRunWrongFalsely : Prop := fnExactSerialRunRow.holds Try.pinned (OpenSpec.ofChange fnExactSerialRunWrong)

/-- 'laws.FnExactCostOf': WHATEVER THE INPUT: true; the input reads as it did. -/
def fnExactCostOfSpec : ChangeSpec := { name := "fnExactCostOf", fn := fun _ => fun
  | [d1, d2] => { results := [.lit (.bool true)], args := [d1, d2] }
  | _ => none }
def fnExactCostOfRow : OpenClaim := { program := "ytcilpkgidhkfjaa", sum := "f5e68c5ab490952a88ed7d3f54bbadc01233bfa366c75d5302c055cc74bb5de6", func := "loop.example/g00305/laws.FnExactCostOf", spec := "fnExactCostOf", unfollowed := true, recurses := true, apart := false }
def FnExactCostOfSaid : Prop := fnExactCostOfRow.holds Try.pinned (OpenSpec.ofChange fnExactCostOfSpec)

/-- ITS FALSE NEIGHBOUR: 'it returns false'. Refute it at one input. -/
def fnExactCostOfWrong : ChangeSpec := { name := "fnExactCostOf", fn := fun _ => fun
  | [d1, d2] => { results := [.lit (.bool false)], args := [d1, d2] }
  | _ => none }
def FnExactCostOfWrongFalsely : Prop := fnExactCostOfRow.holds Try.pinned (OpenSpec.ofChange fnExactCostOfWrong)

/- THE SECOND FORM. 'bulk': how many values and letters a reading holds, each counted each time it is reached (what is shared counts as often as it is met; a slice's spare places count too). A statement '..UptoSaid' is the law's where the arguments, and the package variables that the reading takes, are together of bulk at most 1048576: NARROWER than '..Said'. Prove '..Said' where nothing that the law and all that it calls make is longer than what came in: it says more and counts as full. Else prove '..UptoSaid'. A law counts once. -/
mutual
def uptoBulk {H : Type} : DataW H → Nat
  | .lit (.string bytes) => bytes.length + 1
  | .lit _ => 1
  | .nil => 1
  | .ptr d => uptoBulk d + 1
  | .slice elems spare => uptoBulkAll elems + uptoBulkAll spare + 1
  | .agg parts => uptoBulkAll parts + 1
  | .iface _ d => uptoBulk d + 1
  | .map entries => uptoBulkEntries entries + 1
  | .held _ => 1
def uptoBulkAll {H : Type} : List (DataW H) → Nat
  | [] => 0
  | d :: r => uptoBulk d + uptoBulkAll r
def uptoBulkEntries {H : Type} : List (Lit × DataW H) → Nat
  | [] => 0
  | x :: r => uptoBulkEntry x + uptoBulkEntries r
def uptoBulkEntry {H : Type} : Lit × DataW H → Nat
  | (.string bytes, d) => bytes.length + uptoBulk d + 1
  | (_, d) => uptoBulk d + 1
 end
def uptoSmall : (H : Type) → List (DataW H) → Bool := fun _ ds => decide (uptoBulkAll ds ≤ 1048576)
def OpenSpec.upto (s : _root_.Go.ChangeSpec) : _root_.Go.OpenSpec := { _root_.Go.OpenSpec.ofChange s with cond := some uptoSmall }

/-- 'laws.FnExactSizeOf', WHERE WHAT IT READS IS OF BULK AT MOST 1048576: true; the input reads as it did. -/
def fnExactSizeOfUptoRow : OpenClaim := { program := "ytcilpkgidhkfjaa", sum := "f5e68c5ab490952a88ed7d3f54bbadc01233bfa366c75d5302c055cc74bb5de6", func := "loop.example/g00305/laws.FnExactSizeOf", spec := "fnExactSizeOf", unfollowed := true, recurses := true, apart := false, narrowed := true }
def FnExactSizeOfUptoSaid : Prop := fnExactSizeOfUptoRow.holds Try.pinned (OpenSpec.upto fnExactSizeOfSpec)

/-- 'laws.FnExactConflictsOf', WHERE WHAT IT READS IS OF BULK AT MOST 1048576: true; the input reads as it did. -/
def fnExactConflictsOfUptoRow : OpenClaim := { program := "ytcilpkgidhkfjaa", sum := "f5e68c5ab490952a88ed7d3f54bbadc01233bfa366c75d5302c055cc74bb5de6", func := "loop.example/g00305/laws.FnExactConflictsOf", spec := "fnExactConflictsOf", unfollowed := true, recurses := true, apart := false, narrowed := true }
def FnExactConflictsOfUptoSaid : Prop := fnExactConflictsOfUptoRow.holds Try.pinned (OpenSpec.upto fnExactConflictsOfSpec)

/-- 'laws.FnExactVarsIn', WHERE WHAT IT READS IS OF BULK AT MOST 1048576: true; the input reads as it did. -/
def fnExactVarsInUptoRow : OpenClaim := { program := "ytcilpkgidhkfjaa", sum := "f5e68c5ab490952a88ed7d3f54bbadc01233bfa366c75d5302c055cc74bb5de6", func := "loop.example/g00305/laws.FnExactVarsIn", spec := "fnExactVarsIn", unfollowed := true, recurses := true, apart := false, narrowed := true }
def FnExactVarsInUptoSaid : Prop := fnExactVarsInUptoRow.holds Try.pinned (OpenSpec.upto fnExactVarsInSpec)

/-- 'laws.FnExactGoodQuery', WHERE WHAT IT READS IS OF BULK AT MOST 1048576: true; the input reads as it did. -/
def fnExactGoodQueryUptoRow : OpenClaim := { program := "ytcilpkgidhkfjaa", sum := "f5e68c5ab490952a88ed7d3f54bbadc01233bfa366c75d5302c055cc74bb5de6", func := "loop.example/g00305/laws.FnExactGoodQuery", spec := "fnExactGoodQuery", unfollowed := true, recurses := true, apart := false, narrowed := true }
def FnExactGoodQueryUptoSaid : Prop := fnExactGoodQueryUptoRow.holds Try.pinned (OpenSpec.upto fnExactGoodQuerySpec)

/-- 'laws.FnExactSerialRun', WHERE WHAT IT READS IS OF BULK AT MOST 1048576: true; the input reads as it did. -/
def fnExactSerialRunUptoRow : OpenClaim := { program := "ytcilpkgidhkfjaa", sum := "f5e68c5ab490952a88ed7d3f54bbadc01233bfa366c75d5302c055cc74bb5de6", func := "loop.example/g00305/laws.FnExactSerialRun", spec := "fnExactSerialRun", unfollowed := true, recurses := true, apart := false, narrowed := true }
def FnExactSerialRunUptoSaid : Prop := fnExactSerialRunUptoRow.holds Try.pinned (OpenSpec.upto fnExactSerialRunSpec)

/-- 'laws.FnExactCostOf', WHERE WHAT IT READS IS OF BULK AT MOST 1048576: true; the input reads as it did. -/
def fnExactCostOfUptoRow : OpenClaim := { program := "ytcilpkgidhkfjaa", sum := "f5e68c5ab490952a88ed7d3f54bbadc01233bfa366c75d5302c055cc74bb5de6", func := "loop.example/g00305/laws.FnExactCostOf", spec := "fnExactCostOf", unfollowed := true, recurses := true, apart := false, narrowed := true }
def FnExactCostOfUptoSaid : Prop := fnExactCostOfUptoRow.holds Try.pinned (OpenSpec.upto fnExactCostOfSpec)

end Rows
end Go.Proofs.Ytcilpkgidhkfjaa
