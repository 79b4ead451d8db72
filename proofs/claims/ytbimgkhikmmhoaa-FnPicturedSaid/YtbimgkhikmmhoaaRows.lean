/-
  No cell of these rows narrows 'for every input' (looked for: loops, veiled, ifaces, maps, wideKeys, modest, calm, conditions, laid).
  DERIVED. THE GIVEN ROWS OF THIS SEAT. 5 by the template 'for every input the law returns true; each argument reads behind the call as it read before'; 0 by the template 'total and deterministic' (their statements: YtbimgkhikmmhoaaTotals.lean).
  GIVEN WITH THE SEED: the statements are not yours to turn. If you find one false, say at which input.
  Laid BY PROGRAM, IN A SANDBOX (cutbox-rows.mjs): the forced cells as the released guide's own fill.sh prints them over the translation 998f7df7067b1419… (all of the seat's roots in one cut). By AI agents, Wed Nov 11 2026. No macro, syntax, notation, axiom, sorry.
-/
import Derived.Test.YtbimgkhikmmhoaaChecked
import GoSem.Claim
import GoSem.ClaimJoined
import GoSem.ClaimMapViews
import Derived.JoinedTies
import Derived.KernelRfl
namespace Go.Proofs.Ytbimgkhikmmhoaa
/- THE CELL 'sum', in the pinned program and in every row, IS THE sha256 OF THE DUMP (.gsa) THAT YtbimgkhikmmhoaaProg.lean LOADS. Nothing in Lean hashes anything: it is a label: what it is worth is what the hold of that sum in a sandbox is worth. -/
noncomputable def Try.pinned : Pinned := { name := "ytbimgkhikmmhoaa", sum := "998f7df7067b14198118566a7cab9b52906b84eb0c7ed4c6d4a3bb96f54040ca", checked := Try.checked }
namespace Rows
def none {H : Type} : Left H := { results := [], args := [] }

/-- 'laws.FnExactStepSnap': WHATEVER THE INPUT: true; the input reads as it did. -/
def fnExactStepSnapSpec : ChangeSpec := { name := "fnExactStepSnap", fn := fun _ => fun
  | [d1, d2] => { results := [.lit (.bool true)], args := [d1, d2] }
  | _ => none }
def fnExactStepSnapRow : OpenClaim := { program := "ytbimgkhikmmhoaa", sum := "998f7df7067b14198118566a7cab9b52906b84eb0c7ed4c6d4a3bb96f54040ca", func := "loop.example/g00305/laws.FnExactStepSnap", spec := "fnExactStepSnap", unfollowed := true, recurses := true, apart := false }
def FnExactStepSnapSaid : Prop := fnExactStepSnapRow.holds Try.pinned (OpenSpec.ofChange fnExactStepSnapSpec)

/-- ITS FALSE NEIGHBOUR: 'it returns false'. Refute it at one input. -/
def fnExactStepSnapWrong : ChangeSpec := { name := "fnExactStepSnap", fn := fun _ => fun
  | [d1, d2] => { results := [.lit (.bool false)], args := [d1, d2] }
  | _ => none }
def FnExactStepSnapWrongFalsely : Prop := fnExactStepSnapRow.holds Try.pinned (OpenSpec.ofChange fnExactStepSnapWrong)

/-- 'laws.FnExactFinishSnap': WHATEVER THE INPUT: true; the input reads as it did. -/
def fnExactFinishSnapSpec : ChangeSpec := { name := "fnExactFinishSnap", fn := fun _ => fun
  | [d] => { results := [.lit (.bool true)], args := [d] }
  | _ => none }
def fnExactFinishSnapRow : OpenClaim := { program := "ytbimgkhikmmhoaa", sum := "998f7df7067b14198118566a7cab9b52906b84eb0c7ed4c6d4a3bb96f54040ca", func := "loop.example/g00305/laws.FnExactFinishSnap", spec := "fnExactFinishSnap", unfollowed := true, recurses := true, apart := false }
def FnExactFinishSnapSaid : Prop := fnExactFinishSnapRow.holds Try.pinned (OpenSpec.ofChange fnExactFinishSnapSpec)

/-- ITS FALSE NEIGHBOUR: 'it returns false'. Refute it at one input. -/
def fnExactFinishSnapWrong : ChangeSpec := { name := "fnExactFinishSnap", fn := fun _ => fun
  | [d] => { results := [.lit (.bool false)], args := [d] }
  | _ => none }
def FnExactFinishSnapWrongFalsely : Prop := fnExactFinishSnapRow.holds Try.pinned (OpenSpec.ofChange fnExactFinishSnapWrong)

/-- 'laws.FnExactPlaySnap': WHATEVER THE INPUT: true; the input reads as it did. -/
def fnExactPlaySnapSpec : ChangeSpec := { name := "fnExactPlaySnap", fn := fun _ => fun
  | [d1, d2] => { results := [.lit (.bool true)], args := [d1, d2] }
  | _ => none }
def fnExactPlaySnapRow : OpenClaim := { program := "ytbimgkhikmmhoaa", sum := "998f7df7067b14198118566a7cab9b52906b84eb0c7ed4c6d4a3bb96f54040ca", func := "loop.example/g00305/laws.FnExactPlaySnap", spec := "fnExactPlaySnap", unfollowed := true, recurses := true, apart := false }
def FnExactPlaySnapSaid : Prop := fnExactPlaySnapRow.holds Try.pinned (OpenSpec.ofChange fnExactPlaySnapSpec)

/-- ITS FALSE NEIGHBOUR: 'it returns false'. Refute it at one input. -/
def fnExactPlaySnapWrong : ChangeSpec := { name := "fnExactPlaySnap", fn := fun _ => fun
  | [d1, d2] => { results := [.lit (.bool false)], args := [d1, d2] }
  | _ => none }
def FnExactPlaySnapWrongFalsely : Prop := fnExactPlaySnapRow.holds Try.pinned (OpenSpec.ofChange fnExactPlaySnapWrong)

/-- 'laws.FnPictured': WHATEVER THE INPUT: true; the input reads as it did. -/
def fnPicturedSpec : ChangeSpec := { name := "fnPictured", fn := fun _ => fun
  | [d] => { results := [.lit (.bool true)], args := [d] }
  | _ => none }
def fnPicturedRow : OpenClaim := { program := "ytbimgkhikmmhoaa", sum := "998f7df7067b14198118566a7cab9b52906b84eb0c7ed4c6d4a3bb96f54040ca", func := "loop.example/g00305/laws.FnPictured", spec := "fnPictured", unfollowed := true, recurses := true, apart := false }
def FnPicturedSaid : Prop := fnPicturedRow.holds Try.pinned (OpenSpec.ofChange fnPicturedSpec)

/-- ITS FALSE NEIGHBOUR: 'it returns false'. Refute it at one input. -/
def fnPicturedWrong : ChangeSpec := { name := "fnPictured", fn := fun _ => fun
  | [d] => { results := [.lit (.bool false)], args := [d] }
  | _ => none }
def FnPicturedWrongFalsely : Prop := fnPicturedRow.holds Try.pinned (OpenSpec.ofChange fnPicturedWrong)

/-- 'laws.FnKeptUp': WHATEVER THE INPUT: true; the input reads as it did. -/
def fnKeptUpSpec : ChangeSpec := { name := "fnKeptUp", fn := fun _ => fun
  | [d1, d2] => { results := [.lit (.bool true)], args := [d1, d2] }
  | _ => none }
def fnKeptUpRow : OpenClaim := { program := "ytbimgkhikmmhoaa", sum := "998f7df7067b14198118566a7cab9b52906b84eb0c7ed4c6d4a3bb96f54040ca", func := "loop.example/g00305/laws.FnKeptUp", spec := "fnKeptUp", unfollowed := true, recurses := true, apart := false }
def FnKeptUpSaid : Prop := fnKeptUpRow.holds Try.pinned (OpenSpec.ofChange fnKeptUpSpec)

/-- ITS FALSE NEIGHBOUR: 'it returns false'. Refute it at one input. -/
def fnKeptUpWrong : ChangeSpec := { name := "fnKeptUp", fn := fun _ => fun
  | [d1, d2] => { results := [.lit (.bool false)], args := [d1, d2] }
  | _ => none }
def FnKeptUpWrongFalsely : Prop := fnKeptUpRow.holds Try.pinned (OpenSpec.ofChange fnKeptUpWrong)

/- THE SECOND FORM. 'bulk': how many values and letters a reading holds, each counted each time it is reached (what is shared counts as often as it is met; a slice's spare places count too). A statement '..UptoSaid' is the law's where the arguments, and the package variables that the reading takes, are together of bulk at most 1048576: NARROWER than '..Said'. Prove '..Said' where nothing that the law and all that it calls make is longer than what came in: it says more and counts as full. Else prove '..UptoSaid'. A law counts once. -/
mutual
def uptoBulk {H : Type} : DataW H → Nat
  | .lit (.string bytes) => bytes.length + 1
  | .lit _ => 1
  | .nil => 1
  | .ptr d => uptoBulk d + 1
  | .slice elems spare => uptoBulkAll elems + uptoBulkAll spare + 1
  | .agg parts => uptoBulkAll parts + 1
  | .iface _ d => uptoBulk d + 1
  | .map entries => uptoBulkEntries entries + 1
  | .held _ => 1
def uptoBulkAll {H : Type} : List (DataW H) → Nat
  | [] => 0
  | d :: r => uptoBulk d + uptoBulkAll r
def uptoBulkEntries {H : Type} : List (Lit × DataW H) → Nat
  | [] => 0
  | x :: r => uptoBulkEntry x + uptoBulkEntries r
def uptoBulkEntry {H : Type} : Lit × DataW H → Nat
  | (.string bytes, d) => bytes.length + uptoBulk d + 1
  | (_, d) => uptoBulk d + 1
 end
def uptoSmall : (H : Type) → List (DataW H) → Bool := fun _ ds => decide (uptoBulkAll ds ≤ 1048576)
def OpenSpec.upto (s : _root_.Go.ChangeSpec) : _root_.Go.OpenSpec := { _root_.Go.OpenSpec.ofChange s with cond := some uptoSmall }

/-- 'laws.FnExactStepSnap', WHERE WHAT IT READS IS OF BULK AT MOST 1048576: true; the input reads as it did. -/
def fnExactStepSnapUptoRow : OpenClaim := { program := "ytbimgkhikmmhoaa", sum := "998f7df7067b14198118566a7cab9b52906b84eb0c7ed4c6d4a3bb96f54040ca", func := "loop.example/g00305/laws.FnExactStepSnap", spec := "fnExactStepSnap", unfollowed := true, recurses := true, apart := false, narrowed := true }
def FnExactStepSnapUptoSaid : Prop := fnExactStepSnapUptoRow.holds Try.pinned (OpenSpec.upto fnExactStepSnapSpec)

/-- 'laws.FnExactFinishSnap', WHERE WHAT IT READS IS OF BULK AT MOST 1048576: true; the input reads as it did. -/
def fnExactFinishSnapUptoRow : OpenClaim := { program := "ytbimgkhikmmhoaa", sum := "998f7df7067b14198118566a7cab9b52906b84eb0c7ed4c6d4a3bb96f54040ca", func := "loop.example/g00305/laws.FnExactFinishSnap", spec := "fnExactFinishSnap", unfollowed := true, recurses := true, apart := false, narrowed := true }
def FnExactFinishSnapUptoSaid : Prop := fnExactFinishSnapUptoRow.holds Try.pinned (OpenSpec.upto fnExactFinishSnapSpec)

/-- 'laws.FnExactPlaySnap', WHERE WHAT IT READS IS OF BULK AT MOST 1048576: true; the input reads as it did. -/
def fnExactPlaySnapUptoRow : OpenClaim := { program := "ytbimgkhikmmhoaa", sum := "998f7df7067b14198118566a7cab9b52906b84eb0c7ed4c6d4a3bb96f54040ca", func := "loop.example/g00305/laws.FnExactPlaySnap", spec := "fnExactPlaySnap", unfollowed := true, recurses := true, apart := false, narrowed := true }
def FnExactPlaySnapUptoSaid : Prop := fnExactPlaySnapUptoRow.holds Try.pinned (OpenSpec.upto fnExactPlaySnapSpec)

/-- 'laws.FnPictured', WHERE WHAT IT READS IS OF BULK AT MOST 1048576: true; the input reads as it did. -/
def fnPicturedUptoRow : OpenClaim := { program := "ytbimgkhikmmhoaa", sum := "998f7df7067b14198118566a7cab9b52906b84eb0c7ed4c6d4a3bb96f54040ca", func := "loop.example/g00305/laws.FnPictured", spec := "fnPictured", unfollowed := true, recurses := true, apart := false, narrowed := true }
def FnPicturedUptoSaid : Prop := fnPicturedUptoRow.holds Try.pinned (OpenSpec.upto fnPicturedSpec)

/-- 'laws.FnKeptUp', WHERE WHAT IT READS IS OF BULK AT MOST 1048576: true; the input reads as it did. -/
def fnKeptUpUptoRow : OpenClaim := { program := "ytbimgkhikmmhoaa", sum := "998f7df7067b14198118566a7cab9b52906b84eb0c7ed4c6d4a3bb96f54040ca", func := "loop.example/g00305/laws.FnKeptUp", spec := "fnKeptUp", unfollowed := true, recurses := true, apart := false, narrowed := true }
def FnKeptUpUptoSaid : Prop := fnKeptUpUptoRow.holds Try.pinned (OpenSpec.upto fnKeptUpSpec)

end Rows
end Go.Proofs.Ytbimgkhikmmhoaa
