/-
  No cell of these rows narrows 'for every input' (looked for: loops, veiled, ifaces, maps, wideKeys, modest, calm, conditions, laid).
  DERIVED. THE GIVEN ROWS OF THIS SEAT. 3 by the template 'for every input the law returns true; each argument reads behind the call as it read before'; 0 by the template 'total and deterministic' (their statements: YtbnefjocjecifaaGreatTotals.lean).
  GIVEN WITH THE SEED: the statements are not yours to turn. If you find one false, say at which input.
  Laid BY PROGRAM, IN A SANDBOX (cutbox-rows.mjs): the forced cells as the released guide's own fill.sh prints them over the translation 8f9c97218770e19c… (all of the seat's roots in one cut). By AI agents, Wed Nov 11 2026. No macro, syntax, notation, axiom, sorry.
-/
import Derived.Test.YtbnefjocjecifaaGreatChecked
import GoSem.Claim
import GoSem.ClaimJoined
import GoSem.ClaimMapViews
import Derived.JoinedTies
import Derived.KernelRfl
namespace Go.Proofs.YtbnefjocjecifaaGreat
/- THE CELL 'sum', in the pinned program and in every row, IS THE sha256 OF THE DUMP (.gsa) THAT YtbnefjocjecifaaGreatProg.lean LOADS. Nothing in Lean hashes anything: it is a label: what it is worth is what the hold of that sum in a sandbox is worth. -/
noncomputable def Tryz.pinned : Pinned := { name := "ytbnefjocjecifaagreat", sum := "8f9c97218770e19ca857d78c429b0d29e6166dac9af2a31b9664101598013fd6", checked := Tryz.checked }
namespace Rows
def none {H : Type} : Left H := { results := [], args := [] }

/-- 'laws.FnExactRunAll': WHATEVER THE INPUT: true; the input reads as it did. -/
def fnExactRunAllSpec : ChangeSpec := { name := "fnExactRunAll", fn := fun _ => fun
  | [d1, d2] => { results := [.lit (.bool true)], args := [d1, d2] }
  | _ => none }
def fnExactRunAllRow : OpenClaim := { program := "ytbnefjocjecifaagreat", sum := "8f9c97218770e19ca857d78c429b0d29e6166dac9af2a31b9664101598013fd6", func := "loop.example/g00305/laws.FnExactRunAll", spec := "fnExactRunAll", unfollowed := true, recurses := true, apart := false }
def FnExactRunAllSaid : Prop := fnExactRunAllRow.holds Tryz.pinned (OpenSpec.ofChange fnExactRunAllSpec)

/-- ITS FALSE NEIGHBOUR: 'it returns false'. Refute it at one input. -/
def fnExactRunAllWrong : ChangeSpec := { name := "fnExactRunAll", fn := fun _ => fun
  | [d1, d2] => { results := [.lit (.bool false)], args := [d1, d2] }
  | _ => none }
def FnExactRunAllWrongFalsely : Prop := fnExactRunAllRow.holds Tryz.pinned (OpenSpec.ofChange fnExactRunAllWrong)

/-- 'laws.FnExactRunView': WHATEVER THE INPUT: true; the input reads as it did. -/
def fnExactRunViewSpec : ChangeSpec := { name := "fnExactRunView", fn := fun _ => fun
  | [d1, d2] => { results := [.lit (.bool true)], args := [d1, d2] }
  | _ => none }
def fnExactRunViewRow : OpenClaim := { program := "ytbnefjocjecifaagreat", sum := "8f9c97218770e19ca857d78c429b0d29e6166dac9af2a31b9664101598013fd6", func := "loop.example/g00305/laws.FnExactRunView", spec := "fnExactRunView", unfollowed := true, recurses := true, apart := false }
def FnExactRunViewSaid : Prop := fnExactRunViewRow.holds Tryz.pinned (OpenSpec.ofChange fnExactRunViewSpec)

/-- ITS FALSE NEIGHBOUR: 'it returns false'. Refute it at one input. -/
def fnExactRunViewWrong : ChangeSpec := { name := "fnExactRunView", fn := fun _ => fun
  | [d1, d2] => { results := [.lit (.bool false)], args := [d1, d2] }
  | _ => none }
def FnExactRunViewWrongFalsely : Prop := fnExactRunViewRow.holds Tryz.pinned (OpenSpec.ofChange fnExactRunViewWrong)

/-- 'laws.FnExactRunDelta': WHATEVER THE INPUT: true; the input reads as it did. -/
def fnExactRunDeltaSpec : ChangeSpec := { name := "fnExactRunDelta", fn := fun _ => fun
  | [d1, d2, d3] => { results := [.lit (.bool true)], args := [d1, d2, d3] }
  | _ => none }
def fnExactRunDeltaRow : OpenClaim := { program := "ytbnefjocjecifaagreat", sum := "8f9c97218770e19ca857d78c429b0d29e6166dac9af2a31b9664101598013fd6", func := "loop.example/g00305/laws.FnExactRunDelta", spec := "fnExactRunDelta", unfollowed := true, recurses := true, apart := false }
def FnExactRunDeltaSaid : Prop := fnExactRunDeltaRow.holds Tryz.pinned (OpenSpec.ofChange fnExactRunDeltaSpec)

/-- ITS FALSE NEIGHBOUR: 'it returns false'. Refute it at one input. -/
def fnExactRunDeltaWrong : ChangeSpec := { name := "fnExactRunDelta", fn := fun _ => fun
  | [d1, d2, d3] => { results := [.lit (.bool false)], args := [d1, d2, d3] }
  | _ => none }
def FnExactRunDeltaWrongFalsely : Prop := fnExactRunDeltaRow.holds Tryz.pinned (OpenSpec.ofChange fnExactRunDeltaWrong)

/- THE SECOND FORM. 'bulk': how many values and letters a reading holds, each counted each time it is reached (what is shared counts as often as it is met; a slice's spare places count too). A statement '..UptoSaid' is the law's where the arguments, and the package variables that the reading takes, are together of bulk at most 1048576: NARROWER than '..Said'. Prove '..Said' where nothing that the law and all that it calls make is longer than what came in: it says more and counts as full. Else prove '..UptoSaid'. A law counts once. -/
mutual
def uptoBulk {H : Type} : DataW H → Nat
  | .lit (.string bytes) => bytes.length + 1
  | .lit _ => 1
  | .nil => 1
  | .ptr d => uptoBulk d + 1
  | .slice elems spare => uptoBulkAll elems + uptoBulkAll spare + 1
  | .agg parts => uptoBulkAll parts + 1
  | .iface _ d => uptoBulk d + 1
  | .map entries => uptoBulkEntries entries + 1
  | .held _ => 1
def uptoBulkAll {H : Type} : List (DataW H) → Nat
  | [] => 0
  | d :: r => uptoBulk d + uptoBulkAll r
def uptoBulkEntries {H : Type} : List (Lit × DataW H) → Nat
  | [] => 0
  | x :: r => uptoBulkEntry x + uptoBulkEntries r
def uptoBulkEntry {H : Type} : Lit × DataW H → Nat
  | (.string bytes, d) => bytes.length + uptoBulk d + 1
  | (_, d) => uptoBulk d + 1
 end
def uptoSmall : (H : Type) → List (DataW H) → Bool := fun _ ds => decide (uptoBulkAll ds ≤ 1048576)
def OpenSpec.upto (s : _root_.Go.ChangeSpec) : _root_.Go.OpenSpec := { _root_.Go.OpenSpec.ofChange s with cond := some uptoSmall }

/-- 'laws.FnExactRunAll', WHERE WHAT IT READS IS OF BULK AT MOST 1048576: true; the input reads as it did. -/
def fnExactRunAllUptoRow : OpenClaim := { program := "ytbnefjocjecifaagreat", sum := "8f9c97218770e19ca857d78c429b0d29e6166dac9af2a31b9664101598013fd6", func := "loop.example/g00305/laws.FnExactRunAll", spec := "fnExactRunAll", unfollowed := true, recurses := true, apart := false, narrowed := true }
def FnExactRunAllUptoSaid : Prop := fnExactRunAllUptoRow.holds Tryz.pinned (OpenSpec.upto fnExactRunAllSpec)

/-- 'laws.FnExactRunView', WHERE WHAT IT READS IS OF BULK AT MOST 1048576: true; the input reads as it did. -/
def fnExactRunViewUptoRow : OpenClaim := { program := "ytbnefjocjecifaagreat", sum := "8f9c97218770e19ca857d78c429b0d29e6166dac9af2a31b9664101598013fd6", func := "loop.example/g00305/laws.FnExactRunView", spec := "fnExactRunView", unfollowed := true, recurses := true, apart := false, narrowed := true }
def FnExactRunViewUptoSaid : Prop := fnExactRunViewUptoRow.holds Tryz.pinned (OpenSpec.upto fnExactRunViewSpec)

/-- 'laws.FnExactRunDelta', WHERE WHAT IT READS IS OF BULK AT MOST 1048576: true; the input reads as it did. -/
def fnExactRunDeltaUptoRow : OpenClaim := { program := "ytbnefjocjecifaagreat", sum := "8f9c97218770e19ca857d78c429b0d29e6166dac9af2a31b9664101598013fd6", func := "loop.example/g00305/laws.FnExactRunDelta", spec := "fnExactRunDelta", unfollowed := true, recurses := true, apart := false, narrowed := true }
def FnExactRunDeltaUptoSaid : Prop := fnExactRunDeltaUptoRow.holds Tryz.pinned (OpenSpec.upto fnExactRunDeltaSpec)

end Rows
end Go.Proofs.YtbnefjocjecifaaGreat
