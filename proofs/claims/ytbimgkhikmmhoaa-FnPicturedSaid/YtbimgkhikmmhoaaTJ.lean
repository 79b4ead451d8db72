/- A part of the proof of FnPictured: an interpreter of the model over plain data, its soundness, and what it makes of the functions that the statement reaches. Conditions: none beyond what the given statement itself says. -/
import Derived.Test.YtbimgkhikmmhoaaTI
set_option linter.unusedVariables false
set_option linter.unusedSimpArgs false
set_option linter.unnecessarySimpa false
set_option linter.unusedSectionVars false
/- Equations of functions and of loops, told at once. -/
namespace GoV
open Go
def rR {β:Type} (mk:β→R):β→Option R:=fun b => some (mk b)
section
variable {β:Type} {mk:β→R} {un:R→β} (hu:∀ b,un (mk b)=b) {E:Env} {call:CallT} {f:FuncId}
theorem eqF (hu:∀ b,un (mk b)=b) (fn:Func) (hc:CallLe E call) (hext:E.ext f=none) (hfn:E.fns f=some fn) (hb:fn.body.isSome=true) {cells:List Cell} (x':Option R) {x:Option β} {b:β} (hk:topL E call f fn cells=x') (hs:Sub mk x x') (h:x=some b):tOf mk (vlim E f cells)=some b :=
 tOf_intro un hu (vlim_fn hc hext hfn hb (hk.trans (hs b h)))
theorem eqL (hu:∀ b,un (mk b)=b) {fn:Func} {np:Nat} {p:List Dir} {st:St} (x':Option R) {x:Option β} {b:β} (hk:roundL E call f fn np p st=x') (hs:Sub mk x x') (h:x=some b):tOf mk (loopAtL E call f fn np p st)=some b :=
 tOf_intro un hu (loopAtL_step (hk.trans (hs b h)))
end
section
variable {α β γ:Type} {mk:β→α}
theorem sR {b:β}:Sub mk (some b) (some (mk b)):=.ret
theorem sN {o:Option α}:Sub mk .none o:=.none
theorem sL {o:Option α}:Sub mk (tOf mk o) o:=.loop
theorem sC {c:Bool} {x y:Option β} {x' y':Option α} (h:Sub mk x x') (h':Sub mk y y'):Sub mk (bif c then x else y) (bif c then x' else y'):=.cond h h'
theorem sB {o:Option γ} {k:γ→Option β} {k':γ→Option α} (h:∀ x,Sub mk (k x) (k' x)):Sub mk (o.bind k) (o.bind k'):=.bind h
end
end GoV
