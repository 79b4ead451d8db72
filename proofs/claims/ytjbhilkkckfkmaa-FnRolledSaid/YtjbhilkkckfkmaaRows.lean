/-
  No cell of these rows narrows 'for every input' (looked for: loops, veiled, ifaces, maps, wideKeys, modest, calm, conditions, laid).
  DERIVED. THE GIVEN ROWS OF THIS SEAT. 4 by the template 'for every input the law returns true; each argument reads behind the call as it read before'; 0 by the template 'total and deterministic' (their statements: YtjbhilkkckfkmaaTotals.lean).
  GIVEN WITH THE SEED: the statements are not yours to turn. If you find one false, say at which input.
  Laid BY PROGRAM, IN A SANDBOX (cutbox-rows.mjs): the forced cells as the released guide's own fill.sh prints them over the translation cd95d99e55101a7a… (all of the seat's roots in one cut). By AI agents, Wed Nov 11 2026. No macro, syntax, notation, axiom, sorry.
-/
import Derived.Test.YtjbhilkkckfkmaaChecked
import GoSem.Claim
import GoSem.ClaimJoined
import GoSem.ClaimMapViews
import Derived.JoinedTies
import Derived.KernelRfl
namespace Go.Proofs.Ytjbhilkkckfkmaa
/- THE CELL 'sum', in the pinned program and in every row, IS THE sha256 OF THE DUMP (.gsa) THAT YtjbhilkkckfkmaaProg.lean LOADS. Nothing in Lean hashes anything: it is a label: what it is worth is what the hold of that sum in a sandbox is worth. -/
noncomputable def Try.pinned : Pinned := { name := "ytjbhilkkckfkmaa", sum := "cd95d99e55101a7aa992a5f4ad9fd1ef328d37d5862e6033b5fd0787745e8575", checked := Try.checked }
namespace Rows
def none {H : Type} : Left H := { results := [], args := [] }

/-- 'laws.FnExactMergeGroups': WHATEVER THE INPUT: true; the input reads as it did. -/
def fnExactMergeGroupsSpec : ChangeSpec := { name := "fnExactMergeGroups", fn := fun _ => fun
  | [d1, d2] => { results := [.lit (.bool true)], args := [d1, d2] }
  | _ => none }
def fnExactMergeGroupsRow : OpenClaim := { program := "ytjbhilkkckfkmaa", sum := "cd95d99e55101a7aa992a5f4ad9fd1ef328d37d5862e6033b5fd0787745e8575", func := "loop.example/g00305/laws.FnExactMergeGroups", spec := "fnExactMergeGroups", unfollowed := true, recurses := true, apart := false }
def FnExactMergeGroupsSaid : Prop := fnExactMergeGroupsRow.holds Try.pinned (OpenSpec.ofChange fnExactMergeGroupsSpec)

/-- ITS FALSE NEIGHBOUR: 'it returns false'. Refute it at one input. -/
def fnExactMergeGroupsWrong : ChangeSpec := { name := "fnExactMergeGroups", fn := fun _ => fun
  | [d1, d2] => { results := [.lit (.bool false)], args := [d1, d2] }
  | _ => none }
def FnExactMergeGroupsWrongFalsely : Prop := fnExactMergeGroupsRow.holds Try.pinned (OpenSpec.ofChange fnExactMergeGroupsWrong)

/-- 'laws.FnExactRollUp': WHATEVER THE INPUT: true; the input reads as it did. -/
def fnExactRollUpSpec : ChangeSpec := { name := "fnExactRollUp", fn := fun _ => fun
  | [d1, d2] => { results := [.lit (.bool true)], args := [d1, d2] }
  | _ => none }
def fnExactRollUpRow : OpenClaim := { program := "ytjbhilkkckfkmaa", sum := "cd95d99e55101a7aa992a5f4ad9fd1ef328d37d5862e6033b5fd0787745e8575", func := "loop.example/g00305/laws.FnExactRollUp", spec := "fnExactRollUp", unfollowed := true, recurses := true, apart := false }
def FnExactRollUpSaid : Prop := fnExactRollUpRow.holds Try.pinned (OpenSpec.ofChange fnExactRollUpSpec)

/-- ITS FALSE NEIGHBOUR: 'it returns false'. Refute it at one input. -/
def fnExactRollUpWrong : ChangeSpec := { name := "fnExactRollUp", fn := fun _ => fun
  | [d1, d2] => { results := [.lit (.bool false)], args := [d1, d2] }
  | _ => none }
def FnExactRollUpWrongFalsely : Prop := fnExactRollUpRow.holds Try.pinned (OpenSpec.ofChange fnExactRollUpWrong)

/-- 'laws.FnExactGroupTable': WHATEVER THE INPUT: true; the input reads as it did. -/
def fnExactGroupTableSpec : ChangeSpec := { name := "fnExactGroupTable", fn := fun _ => fun
  | [d1, d2, d3] => { results := [.lit (.bool true)], args := [d1, d2, d3] }
  | _ => none }
def fnExactGroupTableRow : OpenClaim := { program := "ytjbhilkkckfkmaa", sum := "cd95d99e55101a7aa992a5f4ad9fd1ef328d37d5862e6033b5fd0787745e8575", func := "loop.example/g00305/laws.FnExactGroupTable", spec := "fnExactGroupTable", unfollowed := true, recurses := true, apart := false }
def FnExactGroupTableSaid : Prop := fnExactGroupTableRow.holds Try.pinned (OpenSpec.ofChange fnExactGroupTableSpec)

/-- ITS FALSE NEIGHBOUR: 'it returns false'. Refute it at one input. -/
def fnExactGroupTableWrong : ChangeSpec := { name := "fnExactGroupTable", fn := fun _ => fun
  | [d1, d2, d3] => { results := [.lit (.bool false)], args := [d1, d2, d3] }
  | _ => none }
def FnExactGroupTableWrongFalsely : Prop := fnExactGroupTableRow.holds Try.pinned (OpenSpec.ofChange fnExactGroupTableWrong)

/-- 'laws.FnRolled': WHATEVER THE INPUT: true; the input reads as it did. -/
def fnRolledSpec : ChangeSpec := { name := "fnRolled", fn := fun _ => fun
  | [d1, d2] => { results := [.lit (.bool true)], args := [d1, d2] }
  | _ => none }
def fnRolledRow : OpenClaim := { program := "ytjbhilkkckfkmaa", sum := "cd95d99e55101a7aa992a5f4ad9fd1ef328d37d5862e6033b5fd0787745e8575", func := "loop.example/g00305/laws.FnRolled", spec := "fnRolled", unfollowed := true, recurses := true, apart := false }
def FnRolledSaid : Prop := fnRolledRow.holds Try.pinned (OpenSpec.ofChange fnRolledSpec)

/-- ITS FALSE NEIGHBOUR: 'it returns false'. Refute it at one input. -/
def fnRolledWrong : ChangeSpec := { name := "fnRolled", fn := fun _ => fun
  | [d1, d2] => { results := [.lit (.bool false)], args := [d1, d2] }
  | _ => none }
def FnRolledWrongFalsely : Prop := fnRolledRow.holds Try.pinned (OpenSpec.ofChange fnRolledWrong)

/- THE SECOND FORM. 'bulk': how many values and letters a reading holds, each counted each time it is reached (what is shared counts as often as it is met; a slice's spare places count too). A statement '..UptoSaid' is the law's where the arguments, and the package variables that the reading takes, are together of bulk at most 1048576: NARROWER than '..Said'. Prove '..Said' where nothing that the law and all that it calls make is longer than what came in: it says more and counts as full. Else prove '..UptoSaid'. A law counts once. -/
mutual
def uptoBulk {H : Type} : DataW H → Nat
  | .lit (.string bytes) => bytes.length + 1
  | .lit _ => 1
  | .nil => 1
  | .ptr d => uptoBulk d + 1
  | .slice elems spare => uptoBulkAll elems + uptoBulkAll spare + 1
  | .agg parts => uptoBulkAll parts + 1
  | .iface _ d => uptoBulk d + 1
  | .map entries => uptoBulkEntries entries + 1
  | .held _ => 1
def uptoBulkAll {H : Type} : List (DataW H) → Nat
  | [] => 0
  | d :: r => uptoBulk d + uptoBulkAll r
def uptoBulkEntries {H : Type} : List (Lit × DataW H) → Nat
  | [] => 0
  | x :: r => uptoBulkEntry x + uptoBulkEntries r
def uptoBulkEntry {H : Type} : Lit × DataW H → Nat
  | (.string bytes, d) => bytes.length + uptoBulk d + 1
  | (_, d) => uptoBulk d + 1
 end
def uptoSmall : (H : Type) → List (DataW H) → Bool := fun _ ds => decide (uptoBulkAll ds ≤ 1048576)
def OpenSpec.upto (s : _root_.Go.ChangeSpec) : _root_.Go.OpenSpec := { _root_.Go.OpenSpec.ofChange s with cond := some uptoSmall }

/-- 'laws.FnExactMergeGroups', WHERE WHAT IT READS IS OF BULK AT MOST 1048576: true; the input reads as it did. -/
def fnExactMergeGroupsUptoRow : OpenClaim := { program := "ytjbhilkkckfkmaa", sum := "cd95d99e55101a7aa992a5f4ad9fd1ef328d37d5862e6033b5fd0787745e8575", func := "loop.example/g00305/laws.FnExactMergeGroups", spec := "fnExactMergeGroups", unfollowed := true, recurses := true, apart := false, narrowed := true }
def FnExactMergeGroupsUptoSaid : Prop := fnExactMergeGroupsUptoRow.holds Try.pinned (OpenSpec.upto fnExactMergeGroupsSpec)

/-- 'laws.FnExactRollUp', WHERE WHAT IT READS IS OF BULK AT MOST 1048576: true; the input reads as it did. -/
def fnExactRollUpUptoRow : OpenClaim := { program := "ytjbhilkkckfkmaa", sum := "cd95d99e55101a7aa992a5f4ad9fd1ef328d37d5862e6033b5fd0787745e8575", func := "loop.example/g00305/laws.FnExactRollUp", spec := "fnExactRollUp", unfollowed := true, recurses := true, apart := false, narrowed := true }
def FnExactRollUpUptoSaid : Prop := fnExactRollUpUptoRow.holds Try.pinned (OpenSpec.upto fnExactRollUpSpec)

/-- 'laws.FnExactGroupTable', WHERE WHAT IT READS IS OF BULK AT MOST 1048576: true; the input reads as it did. -/
def fnExactGroupTableUptoRow : OpenClaim := { program := "ytjbhilkkckfkmaa", sum := "cd95d99e55101a7aa992a5f4ad9fd1ef328d37d5862e6033b5fd0787745e8575", func := "loop.example/g00305/laws.FnExactGroupTable", spec := "fnExactGroupTable", unfollowed := true, recurses := true, apart := false, narrowed := true }
def FnExactGroupTableUptoSaid : Prop := fnExactGroupTableUptoRow.holds Try.pinned (OpenSpec.upto fnExactGroupTableSpec)

/-- 'laws.FnRolled', WHERE WHAT IT READS IS OF BULK AT MOST 1048576: true; the input reads as it did. -/
def fnRolledUptoRow : OpenClaim := { program := "ytjbhilkkckfkmaa", sum := "cd95d99e55101a7aa992a5f4ad9fd1ef328d37d5862e6033b5fd0787745e8575", func := "loop.example/g00305/laws.FnRolled", spec := "fnRolled", unfollowed := true, recurses := true, apart := false, narrowed := true }
def FnRolledUptoSaid : Prop := fnRolledUptoRow.holds Try.pinned (OpenSpec.upto fnRolledSpec)

end Rows
end Go.Proofs.Ytjbhilkkckfkmaa
