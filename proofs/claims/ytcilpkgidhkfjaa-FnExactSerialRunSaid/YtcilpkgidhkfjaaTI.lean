/- A part of the proof of FnExactSerialRun: an interpreter of the model over plain data, its soundness, and what it makes of the functions that the statement reaches. Conditions: none beyond what the given statement itself says. -/
import Derived.Test.YtcilpkgidhkfjaaTH
set_option linter.unusedVariables false
set_option linter.unusedSimpArgs false
set_option linter.unnecessarySimpa false
set_option linter.unusedSectionVars false
/- The functions of the program, each told by what it answers in the end (printed by wip/tools/emit.py). -/
namespace GoV
open Go Go.Proofs
set_option maxRecDepth 100000

def laws_FnExactSerialRun.c (v0 : List (Int × Int × Int)) (v1 : List Int) : List Cell := vc (.d .fro (.sl (.pair (.int .i64) (.pair (.int .i64) (.int .i64)))) v0) :: vc (.d .fro (.sl (.int .i64)) v1) :: []
def laws_FnExactSerialRun.mk (b : Bool) : R := (⟨.one, [bL b]⟩, nn 2 ([]))
def laws_FnExactSerialRun.un (r : R) : Bool := ((leafR r 0).dat .bool)
noncomputable def laws_FnExactSerialRun (v0 : List (Int × Int × Int)) (v1 : List Int) : Option (Bool) := tOf laws_FnExactSerialRun.mk (vlim E 7 (laws_FnExactSerialRun.c v0 v1))
def laws_szStepS.c (v0 : List (Int × Int × Int)) (v1 : Int) : List Cell := vc (.d .fro (.sl (.pair (.int .i64) (.pair (.int .i64) (.int .i64)))) v0) :: vc (iL v1) :: []
def laws_szStepS.mk (b : Int) : R := (⟨.one, [iL b]⟩, nn 2 ([]))
def laws_szStepS.un (r : R) : Int := ((leafR r 0).dat (.int .i64))
noncomputable def laws_szStepS (v0 : List (Int × Int × Int)) (v1 : Int) : Option (Int) := tOf laws_szStepS.mk (vlim E 16 (laws_szStepS.c v0 v1))
def laws_toStepS.c (v0 : List (Int × Int × Int)) : List Cell := vc (.d .fro (.sl (.pair (.int .i64) (.pair (.int .i64) (.int .i64)))) v0) :: []
def laws_toStepS.mk (b : (List (Int × Int × Int))) : R := (⟨.one, [.d .deep (.sl (.pair (.int .i64) (.pair (.int .i64) (.int .i64)))) b]⟩, nn 1 ([]))
def laws_toStepS.un (r : R) : (List (Int × Int × Int)) := ((leafR r 0).dat (.sl (.pair (.int .i64) (.pair (.int .i64) (.int .i64)))))
noncomputable def laws_toStepS (v0 : List (Int × Int × Int)) : Option ((List (Int × Int × Int))) := tOf laws_toStepS.mk (vlim E 18 (laws_toStepS.c v0))
def laws_toStep.c (v0 : Int) (v1 : Int) (v2 : Int) : List Cell := ac [iL v0, iL v1, iL v2] :: []
def laws_toStep.mk (b : Int × Int × Int) : R := (⟨.agg, [iL b.1, iL b.2.1, iL b.2.2]⟩, nn 1 ([]))
def laws_toStep.un (r : R) : Int × Int × Int := ((leafR r 0).dat (.int .i64), (leafR r 1).dat (.int .i64), (leafR r 2).dat (.int .i64))
noncomputable def laws_toStep (v0 : Int) (v1 : Int) (v2 : Int) : Option (Int × Int × Int) := tOf laws_toStep.mk (vlim E 52 (laws_toStep.c v0 v1 v2))
def laws_toIntS.c (v0 : List Int) : List Cell := vc (.d .fro (.sl (.int .i64)) v0) :: []
def laws_toIntS.mk (b : (List Int)) : R := (⟨.one, [.d .deep (.sl (.int .i64)) b]⟩, nn 1 ([]))
def laws_toIntS.un (r : R) : (List Int) := ((leafR r 0).dat (.sl (.int .i64)))
noncomputable def laws_toIntS (v0 : List Int) : Option ((List Int)) := tOf laws_toIntS.mk (vlim E 12 (laws_toIntS.c v0))
def spec_SerialRun.c (v0 : List (Int × Int × Int)) (v1 : List Int) : List Cell := vc (.d .fro (.sl (.pair (.int .i64) (.pair (.int .i64) (.int .i64)))) v0) :: vc (.d .fro (.sl (.int .i64)) v1) :: []
def spec_SerialRun.mk (b : (List (Int × Int × Int)) × Bool) : R := (⟨(.tup [none, none]), [.d .deep (.sl (.pair (.int .i64) (.pair (.int .i64) (.int .i64)))) b.1, bL b.2]⟩, nn 2 ([]))
def spec_SerialRun.un (r : R) : (List (Int × Int × Int)) × Bool := ((leafR r 0).dat (.sl (.pair (.int .i64) (.pair (.int .i64) (.int .i64)))), (leafR r 1).dat .bool)
noncomputable def spec_SerialRun (v0 : List (Int × Int × Int)) (v1 : List Int) : Option ((List (Int × Int × Int)) × Bool) := tOf spec_SerialRun.mk (vlim E 35 (spec_SerialRun.c v0 v1))
def spec_GoodSteps.c (v0 : List (Int × Int × Int)) : List Cell := vc (.d .fro (.sl (.pair (.int .i64) (.pair (.int .i64) (.int .i64)))) v0) :: []
def spec_GoodSteps.mk (b : Bool) : R := (⟨.one, [bL b]⟩, nn 1 ([]))
def spec_GoodSteps.un (r : R) : Bool := ((leafR r 0).dat .bool)
noncomputable def spec_GoodSteps (v0 : List (Int × Int × Int)) : Option (Bool) := tOf spec_GoodSteps.mk (vlim E 50 (spec_GoodSteps.c v0))
def spec_l1In.c (v0 : Int) (v1 : Int) (v2 : Int) : List Cell := vc (iL v0) :: vc (iL v1) :: vc (iL v2) :: []
def spec_l1In.mk (b : Bool) : R := (⟨.one, [bL b]⟩, nn 3 ([]))
def spec_l1In.un (r : R) : Bool := ((leafR r 0).dat .bool)
noncomputable def spec_l1In (v0 : Int) (v1 : Int) (v2 : Int) : Option (Bool) := tOf spec_l1In.mk (vlim E 69 (spec_l1In.c v0 v1 v2))
def spec_l1Has.c (v0 : List Int) (v1 : Int) : List Cell := vc (.d .fro (.sl (.int .i64)) v0) :: vc (iL v1) :: []
def spec_l1Has.mk (b : Bool) : R := (⟨.one, [bL b]⟩, nn 2 ([]))
def spec_l1Has.un (r : R) : Bool := ((leafR r 0).dat .bool)
noncomputable def spec_l1Has (v0 : List Int) (v1 : Int) : Option (Bool) := tOf spec_l1Has.mk (vlim E 73 (spec_l1Has.c v0 v1))
def spec_l13Txns.c (v0 : List (Int × Int × Int)) : List Cell := vc (.d .fro (.sl (.pair (.int .i64) (.pair (.int .i64) (.int .i64)))) v0) :: []
def spec_l13Txns.mk (b : (List Int)) : R := (⟨.one, [.d .fro (.sl (.int .i64)) b]⟩, nn 1 ([]))
def spec_l13Txns.un (r : R) : (List Int) := ((leafR r 0).dat (.sl (.int .i64)))
noncomputable def spec_l13Txns (v0 : List (Int × Int × Int)) : Option ((List Int)) := tOf spec_l13Txns.mk (vlim E 74 (spec_l13Txns.c v0))
def spec_l7Put.c (v0 : List Int) (v1 : Int) : List Cell := vc (.d .fro (.sl (.int .i64)) v0) :: vc (iL v1) :: []
def spec_l7Put.mk (b : (List Int)) : R := (⟨.one, [.d .fro (.sl (.int .i64)) b]⟩, nn 2 ([]))
def spec_l7Put.un (r : R) : (List Int) := ((leafR r 0).dat (.sl (.int .i64)))
noncomputable def spec_l7Put (v0 : List Int) (v1 : Int) : Option ((List Int)) := tOf spec_l7Put.mk (vlim E 86 (spec_l7Put.c v0 v1))
def impl_SerialRun.c (v0 : List (Int × Int × Int)) (v1 : List Int) : List Cell := vc (.d .fro (.sl (.pair (.int .i64) (.pair (.int .i64) (.int .i64)))) v0) :: vc (.d .fro (.sl (.int .i64)) v1) :: []
def impl_SerialRun.mk (b : (List (Int × Int × Int)) × Bool) : R := (⟨(.tup [none, none]), [.d .deep (.sl (.pair (.int .i64) (.pair (.int .i64) (.int .i64)))) b.1, bL b.2]⟩, nn 2 ([]))
def impl_SerialRun.un (r : R) : (List (Int × Int × Int)) × Bool := ((leafR r 0).dat (.sl (.pair (.int .i64) (.pair (.int .i64) (.int .i64)))), (leafR r 1).dat .bool)
noncomputable def impl_SerialRun (v0 : List (Int × Int × Int)) (v1 : List Int) : Option ((List (Int × Int × Int)) × Bool) := tOf impl_SerialRun.mk (vlim E 36 (impl_SerialRun.c v0 v1))
def impl_GoodSteps.c (v0 : List (Int × Int × Int)) : List Cell := vc (.d .fro (.sl (.pair (.int .i64) (.pair (.int .i64) (.int .i64)))) v0) :: []
def impl_GoodSteps.mk (b : Bool) : R := (⟨.one, [bL b]⟩, nn 1 ([]))
def impl_GoodSteps.un (r : R) : Bool := ((leafR r 0).dat .bool)
noncomputable def impl_GoodSteps (v0 : List (Int × Int × Int)) : Option (Bool) := tOf impl_GoodSteps.mk (vlim E 53 (impl_GoodSteps.c v0))
def impl_areAll_impl_Step_impl_isStep.c (v0 : List (Int × Int × Int)) : List Cell := vc (.d .fro (.sl (.pair (.int .i64) (.pair (.int .i64) (.int .i64)))) v0) :: vc (.fn 88 []) :: []
def impl_areAll_impl_Step_impl_isStep.mk (b : Bool) : R := (⟨.one, [bL b]⟩, nn 2 ([]))
def impl_areAll_impl_Step_impl_isStep.un (r : R) : Bool := ((leafR r 0).dat .bool)
noncomputable def impl_areAll_impl_Step_impl_isStep (v0 : List (Int × Int × Int)) : Option (Bool) := tOf impl_areAll_impl_Step_impl_isStep.mk (vlim E 87 (impl_areAll_impl_Step_impl_isStep.c v0))
def slices_ContainsFunc_impl_Step_impl_Step_impl_areAll_impl_Step_1_impl_isStep.c (v0 : List (Int × Int × Int)) : List Cell := vc (.d .fro (.sl (.pair (.int .i64) (.pair (.int .i64) (.int .i64)))) v0) :: vc (.fn 106 [.rp [.fn 88 []] 0]) :: []
def slices_ContainsFunc_impl_Step_impl_Step_impl_areAll_impl_Step_1_impl_isStep.mk (b : Bool) : R := (⟨.one, [bL b]⟩, nn 2 ([]))
def slices_ContainsFunc_impl_Step_impl_Step_impl_areAll_impl_Step_1_impl_isStep.un (r : R) : Bool := ((leafR r 0).dat .bool)
noncomputable def slices_ContainsFunc_impl_Step_impl_Step_impl_areAll_impl_Step_1_impl_isStep (v0 : List (Int × Int × Int)) : Option (Bool) := tOf slices_ContainsFunc_impl_Step_impl_Step_impl_areAll_impl_Step_1_impl_isStep.mk (vlim E 105 (slices_ContainsFunc_impl_Step_impl_Step_impl_areAll_impl_Step_1_impl_isStep.c v0))
def slices_IndexFunc_impl_Step_impl_Step_impl_areAll_impl_Step_1_impl_isStep.c (v0 : List (Int × Int × Int)) : List Cell := vc (.d .fro (.sl (.pair (.int .i64) (.pair (.int .i64) (.int .i64)))) v0) :: vc (.fn 106 [.rp [.fn 88 []] 0]) :: []
def slices_IndexFunc_impl_Step_impl_Step_impl_areAll_impl_Step_1_impl_isStep.mk (b : Int) : R := (⟨.one, [iL b]⟩, nn 2 ([]))
def slices_IndexFunc_impl_Step_impl_Step_impl_areAll_impl_Step_1_impl_isStep.un (r : R) : Int := ((leafR r 0).dat (.int .i64))
noncomputable def slices_IndexFunc_impl_Step_impl_Step_impl_areAll_impl_Step_1_impl_isStep (v0 : List (Int × Int × Int)) : Option (Int) := tOf slices_IndexFunc_impl_Step_impl_Step_impl_areAll_impl_Step_1_impl_isStep.mk (vlim E 111 (slices_IndexFunc_impl_Step_impl_Step_impl_areAll_impl_Step_1_impl_isStep.c v0))
def impl_areAll_impl_Step_1_impl_isStep.c (v0 : Int) (v1 : Int) (v2 : Int) : List Cell := ac [iL v0, iL v1, iL v2] :: vc (.rp [.fn 88 []] 0) :: []
def impl_areAll_impl_Step_1_impl_isStep.mk (b : Bool) : R := (⟨.one, [bL b]⟩, nn 2 ([]))
def impl_areAll_impl_Step_1_impl_isStep.un (r : R) : Bool := ((leafR r 0).dat .bool)
noncomputable def impl_areAll_impl_Step_1_impl_isStep (v0 : Int) (v1 : Int) (v2 : Int) : Option (Bool) := tOf impl_areAll_impl_Step_1_impl_isStep.mk (vlim E 106 (impl_areAll_impl_Step_1_impl_isStep.c v0 v1 v2))
def impl_isStep.c (v0 : Int) (v1 : Int) (v2 : Int) : List Cell := ac [iL v0, iL v1, iL v2] :: []
def impl_isStep.mk (b : Bool) : R := (⟨.one, [bL b]⟩, nn 1 ([]))
def impl_isStep.un (r : R) : Bool := ((leafR r 0).dat .bool)
noncomputable def impl_isStep (v0 : Int) (v1 : Int) (v2 : Int) : Option (Bool) := tOf impl_isStep.mk (vlim E 88 (impl_isStep.c v0 v1 v2))
def impl_isTxn.c (v0 : Int) : List Cell := vc (iL v0) :: []
def impl_isTxn.mk (b : Bool) : R := (⟨.one, [bL b]⟩, nn 1 ([]))
def impl_isTxn.un (r : R) : Bool := ((leafR r 0).dat .bool)
noncomputable def impl_isTxn (v0 : Int) : Option (Bool) := tOf impl_isTxn.mk (vlim E 75 (impl_isTxn.c v0))
def impl_within.c (v0 : Int) (v1 : Int) (v2 : Int) : List Cell := vc (iL v0) :: vc (iL v1) :: vc (iL v2) :: []
def impl_within.mk (b : Bool) : R := (⟨.one, [bL b]⟩, nn 3 ([]))
def impl_within.un (r : R) : Bool := ((leafR r 0).dat .bool)
noncomputable def impl_within (v0 : Int) (v1 : Int) (v2 : Int) : Option (Bool) := tOf impl_within.mk (vlim E 81 (impl_within.c v0 v1 v2))
def impl_areAll_int_impl_isTxn.c (v0 : List Int) : List Cell := vc (.d .fro (.sl (.int .i64)) v0) :: vc (.fn 75 []) :: []
def impl_areAll_int_impl_isTxn.mk (b : Bool) : R := (⟨.one, [bL b]⟩, nn 2 ([]))
def impl_areAll_int_impl_isTxn.un (r : R) : Bool := ((leafR r 0).dat .bool)
noncomputable def impl_areAll_int_impl_isTxn (v0 : List Int) : Option (Bool) := tOf impl_areAll_int_impl_isTxn.mk (vlim E 63 (impl_areAll_int_impl_isTxn.c v0))
def slices_ContainsFunc_int_int_impl_areAll_int_1_impl_isTxn.c (v0 : List Int) : List Cell := vc (.d .fro (.sl (.int .i64)) v0) :: vc (.fn 95 [.rp [.fn 75 []] 0]) :: []
def slices_ContainsFunc_int_int_impl_areAll_int_1_impl_isTxn.mk (b : Bool) : R := (⟨.one, [bL b]⟩, nn 2 ([]))
def slices_ContainsFunc_int_int_impl_areAll_int_1_impl_isTxn.un (r : R) : Bool := ((leafR r 0).dat .bool)
noncomputable def slices_ContainsFunc_int_int_impl_areAll_int_1_impl_isTxn (v0 : List Int) : Option (Bool) := tOf slices_ContainsFunc_int_int_impl_areAll_int_1_impl_isTxn.mk (vlim E 94 (slices_ContainsFunc_int_int_impl_areAll_int_1_impl_isTxn.c v0))
def slices_IndexFunc_int_int_impl_areAll_int_1_impl_isTxn.c (v0 : List Int) : List Cell := vc (.d .fro (.sl (.int .i64)) v0) :: vc (.fn 95 [.rp [.fn 75 []] 0]) :: []
def slices_IndexFunc_int_int_impl_areAll_int_1_impl_isTxn.mk (b : Int) : R := (⟨.one, [iL b]⟩, nn 2 ([]))
def slices_IndexFunc_int_int_impl_areAll_int_1_impl_isTxn.un (r : R) : Int := ((leafR r 0).dat (.int .i64))
noncomputable def slices_IndexFunc_int_int_impl_areAll_int_1_impl_isTxn (v0 : List Int) : Option (Int) := tOf slices_IndexFunc_int_int_impl_areAll_int_1_impl_isTxn.mk (vlim E 108 (slices_IndexFunc_int_int_impl_areAll_int_1_impl_isTxn.c v0))
def impl_areAll_int_1_impl_isTxn.c (v0 : Int) : List Cell := vc (iL v0) :: vc (.rp [.fn 75 []] 0) :: []
def impl_areAll_int_1_impl_isTxn.mk (b : Bool) : R := (⟨.one, [bL b]⟩, nn 2 ([]))
def impl_areAll_int_1_impl_isTxn.un (r : R) : Bool := ((leafR r 0).dat .bool)
noncomputable def impl_areAll_int_1_impl_isTxn (v0 : Int) : Option (Bool) := tOf impl_areAll_int_1_impl_isTxn.mk (vlim E 95 (impl_areAll_int_1_impl_isTxn.c v0))
def impl_setOf.c (v0 : List Int) : List Cell := vc (.d .fro (.sl (.int .i64)) v0) :: []
def impl_setOf.mk (b : Int) : R := (⟨.one, [iL b]⟩, nn 1 ([]))
def impl_setOf.un (r : R) : Int := ((leafR r 0).dat (.int .i64))
noncomputable def impl_setOf (v0 : List Int) : Option (Int) := tOf impl_setOf.mk (vlim E 49 (impl_setOf.c v0))
def impl_txnsOf.c (v0 : List (Int × Int × Int)) : List Cell := vc (.d .fro (.sl (.pair (.int .i64) (.pair (.int .i64) (.int .i64)))) v0) :: []
def impl_txnsOf.mk (b : Int) : R := (⟨.one, [iL b]⟩, nn 1 ([]))
def impl_txnsOf.un (r : R) : Int := ((leafR r 0).dat (.int .i64))
noncomputable def impl_txnsOf (v0 : List (Int × Int × Int)) : Option (Int) := tOf impl_txnsOf.mk (vlim E 76 (impl_txnsOf.c v0))
def impl_set_list.c (v0 : Int) : List Cell := vc (iL v0) :: []
def impl_set_list.mk (b : (List Int)) : R := (⟨.one, [.d .deep (.sl (.int .i64)) b]⟩, nn 1 ([]))
def impl_set_list.un (r : R) : (List Int) := ((leafR r 0).dat (.sl (.int .i64)))
noncomputable def impl_set_list (v0 : Int) : Option ((List Int)) := tOf impl_set_list.mk (vlim E 55 (impl_set_list.c v0))
def impl_stepsOf.c (v0 : List (Int × Int × Int)) (v1 : Int) : List Cell := vc (.d .fro (.sl (.pair (.int .i64) (.pair (.int .i64) (.int .i64)))) v0) :: vc (iL v1) :: []
def impl_stepsOf.mk (b : (List (Int × Int × Int))) : R := (⟨.one, [.d .sha (.sl (.pair (.int .i64) (.pair (.int .i64) (.int .i64)))) b]⟩, nn 2 ([]))
def impl_stepsOf.un (r : R) : (List (Int × Int × Int)) := ((leafR r 0).dat (.sl (.pair (.int .i64) (.pair (.int .i64) (.int .i64)))))
noncomputable def impl_stepsOf (v0 : List (Int × Int × Int)) (v1 : Int) : Option ((List (Int × Int × Int))) := tOf impl_stepsOf.mk (vlim E 77 (impl_stepsOf.c v0 v1))
def slices_Clone_impl_Step_impl_Step.c (v0 : List (Int × Int × Int)) : List Cell := vc (.d .fro (.sl (.pair (.int .i64) (.pair (.int .i64) (.int .i64)))) v0) :: []
def slices_Clone_impl_Step_impl_Step.mk (b : (List (Int × Int × Int))) : R := (⟨.one, [.d .deep (.sl (.pair (.int .i64) (.pair (.int .i64) (.int .i64)))) b]⟩, nn 1 ([]))
def slices_Clone_impl_Step_impl_Step.un (r : R) : (List (Int × Int × Int)) := ((leafR r 0).dat (.sl (.pair (.int .i64) (.pair (.int .i64) (.int .i64)))))
noncomputable def slices_Clone_impl_Step_impl_Step (v0 : List (Int × Int × Int)) : Option ((List (Int × Int × Int))) := tOf slices_Clone_impl_Step_impl_Step.mk (vlim E 101 (slices_Clone_impl_Step_impl_Step.c v0))
def slices_DeleteFunc_impl_Step_impl_Step_impl_stepsOf_1_b77.c (v0 : List (Int × Int × Int)) (v1 : Int) : List Cell := vc (.d .sha (.sl (.pair (.int .i64) (.pair (.int .i64) (.int .i64)))) v0) :: vc (.fn 102 [.rp [iL v1] 0]) :: []
def slices_DeleteFunc_impl_Step_impl_Step_impl_stepsOf_1_b77.mk (b : (List (Int × Int × Int))) : R := (⟨.one, [.d .sha (.sl (.pair (.int .i64) (.pair (.int .i64) (.int .i64)))) b]⟩, nn 2 ([]))
def slices_DeleteFunc_impl_Step_impl_Step_impl_stepsOf_1_b77.un (r : R) : (List (Int × Int × Int)) := ((leafR r 0).dat (.sl (.pair (.int .i64) (.pair (.int .i64) (.int .i64)))))
noncomputable def slices_DeleteFunc_impl_Step_impl_Step_impl_stepsOf_1_b77 (v0 : List (Int × Int × Int)) (v1 : Int) : Option ((List (Int × Int × Int))) := tOf slices_DeleteFunc_impl_Step_impl_Step_impl_stepsOf_1_b77.mk (vlim E 100 (slices_DeleteFunc_impl_Step_impl_Step_impl_stepsOf_1_b77.c v0 v1))
def slices_IndexFunc_impl_Step_impl_Step_impl_stepsOf_1.c (v0 : List (Int × Int × Int)) (v1 : Int) : List Cell := vc (.d .fro (.sl (.pair (.int .i64) (.pair (.int .i64) (.int .i64)))) v0) :: vc (.fn 102 [.rp [iL v1] 0]) :: []
def slices_IndexFunc_impl_Step_impl_Step_impl_stepsOf_1.mk (b : Int) : R := (⟨.one, [iL b]⟩, nn 2 ([]))
def slices_IndexFunc_impl_Step_impl_Step_impl_stepsOf_1.un (r : R) : Int := ((leafR r 0).dat (.int .i64))
noncomputable def slices_IndexFunc_impl_Step_impl_Step_impl_stepsOf_1 (v0 : List (Int × Int × Int)) (v1 : Int) : Option (Int) := tOf slices_IndexFunc_impl_Step_impl_Step_impl_stepsOf_1.mk (vlim E 111 (slices_IndexFunc_impl_Step_impl_Step_impl_stepsOf_1.c v0 v1))
def impl_stepsOf_1.c (v0 : Int) (v1 : Int) (v2 : Int) (v3 : Int) : List Cell := ac [iL v0, iL v1, iL v2] :: vc (.rp [iL v3] 0) :: []
def impl_stepsOf_1.mk (b : Bool) : R := (⟨.one, [bL b]⟩, nn 2 ([]))
def impl_stepsOf_1.un (r : R) : Bool := ((leafR r 0).dat .bool)
noncomputable def impl_stepsOf_1 (v0 : Int) (v1 : Int) (v2 : Int) (v3 : Int) : Option (Bool) := tOf impl_stepsOf_1.mk (vlim E 102 (impl_stepsOf_1.c v0 v1 v2 v3))
def laws_eqStepS.c (v0 : List (Int × Int × Int)) (v1 : List (Int × Int × Int)) : List Cell := vc (.d .fro (.sl (.pair (.int .i64) (.pair (.int .i64) (.int .i64)))) v0) :: vc (.d .fro (.sl (.pair (.int .i64) (.pair (.int .i64) (.int .i64)))) v1) :: []
def laws_eqStepS.mk (b : Bool) : R := (⟨.one, [bL b]⟩, nn 2 ([]))
def laws_eqStepS.un (r : R) : Bool := ((leafR r 0).dat .bool)
noncomputable def laws_eqStepS (v0 : List (Int × Int × Int)) (v1 : List (Int × Int × Int)) : Option (Bool) := tOf laws_eqStepS.mk (vlim E 21 (laws_eqStepS.c v0 v1))
def laws_eqStep.c (v0 : Int) (v1 : Int) (v2 : Int) (v3 : Int) (v4 : Int) (v5 : Int) : List Cell := ac [iL v0, iL v1, iL v2] :: ac [iL v3, iL v4, iL v5] :: []
def laws_eqStep.mk (b : Bool) : R := (⟨.one, [bL b]⟩, nn 2 ([]))
def laws_eqStep.un (r : R) : Bool := ((leafR r 0).dat .bool)
noncomputable def laws_eqStep (v0 : Int) (v1 : Int) (v2 : Int) (v3 : Int) (v4 : Int) (v5 : Int) : Option (Bool) := tOf laws_eqStep.mk (vlim E 56 (laws_eqStep.c v0 v1 v2 v3 v4 v5))
def laws_eqIntS.c (v0 : List Int) (v1 : List Int) : List Cell := vc (.d .fro (.sl (.int .i64)) v0) :: vc (.d .fro (.sl (.int .i64)) v1) :: []
def laws_eqIntS.mk (b : Bool) : R := (⟨.one, [bL b]⟩, nn 2 ([]))
def laws_eqIntS.un (r : R) : Bool := ((leafR r 0).dat .bool)
noncomputable def laws_eqIntS (v0 : List Int) (v1 : List Int) : Option (Bool) := tOf laws_eqIntS.mk (vlim E 15 (laws_eqIntS.c v0 v1))
def laws_markStepS_5b1.c (v0 : List (Int × Int × Int)) (v1 : Int) : List Cell := ⟨(.val .one), [.d .deep (.sl (.pair (.int .i64) (.pair (.int .i64) (.int .i64)))) v0], true, false, false, 0, 0⟩ :: vc (iL v1) :: []
def laws_markStepS_5b1.mk (b : Int × (List (Int × Int × Int))) : R := (⟨.one, [iL b.1]⟩, ⟨(.val .one), [.d .deep (.sl (.pair (.int .i64) (.pair (.int .i64) (.int .i64)))) b.2], true, false, false, 0, 0⟩ :: nn 1 ([]))
def laws_markStepS_5b1.un (r : R) : Int × (List (Int × Int × Int)) := ((leafR r 0).dat (.int .i64), (leafF r 0 0).dat (.sl (.pair (.int .i64) (.pair (.int .i64) (.int .i64)))))
noncomputable def laws_markStepS_5b1 (v0 : List (Int × Int × Int)) (v1 : Int) : Option (Int × (List (Int × Int × Int))) := tOf laws_markStepS_5b1.mk (vlim E 22 (laws_markStepS_5b1.c v0 v1))
def laws_markIntS_83f.c (v0 : List Int) (v1 : Int) : List Cell := ⟨(.val .one), [.d .deep (.sl (.int .i64)) v0], true, false, false, 0, 0⟩ :: vc (iL v1) :: []
def laws_markIntS_83f.mk (b : Int × (List Int)) : R := (⟨.one, [iL b.1]⟩, ⟨(.val .one), [.d .deep (.sl (.int .i64)) b.2], true, false, false, 0, 0⟩ :: nn 1 ([]))
def laws_markIntS_83f.un (r : R) : Int × (List Int) := ((leafR r 0).dat (.int .i64), (leafF r 0 0).dat (.sl (.int .i64)))
noncomputable def laws_markIntS_83f (v0 : List Int) (v1 : Int) : Option (Int × (List Int)) := tOf laws_markIntS_83f.mk (vlim E 31 (laws_markIntS_83f.c v0 v1))
def laws_heldStepS.c (v0 : List (Int × Int × Int)) (v1 : Int) : List Cell := vc (.d .fro (.sl (.pair (.int .i64) (.pair (.int .i64) (.int .i64)))) v0) :: vc (iL v1) :: []
def laws_heldStepS.mk (b : Int) : R := (⟨.one, [iL b]⟩, nn 2 ([]))
def laws_heldStepS.un (r : R) : Int := ((leafR r 0).dat (.int .i64))
noncomputable def laws_heldStepS (v0 : List (Int × Int × Int)) (v1 : Int) : Option (Int) := tOf laws_heldStepS.mk (vlim E 37 (laws_heldStepS.c v0 v1))
def tabT : List (Nat × List (List Cell × Tb)) := [
  (7, [(laws_FnExactSerialRun.c [] [], ⟨Bool, laws_FnExactSerialRun.mk⟩)]),
  (12, [(laws_toIntS.c [], ⟨(List Int), laws_toIntS.mk⟩)]),
  (15, [(laws_eqIntS.c [] [], ⟨Bool, laws_eqIntS.mk⟩)]),
  (16, [(laws_szStepS.c [] 0, ⟨Int, laws_szStepS.mk⟩)]),
  (18, [(laws_toStepS.c [], ⟨(List (Int × Int × Int)), laws_toStepS.mk⟩)]),
  (21, [(laws_eqStepS.c [] [], ⟨Bool, laws_eqStepS.mk⟩)]),
  (22, [(laws_markStepS_5b1.c [] 0, ⟨Int × (List (Int × Int × Int)), laws_markStepS_5b1.mk⟩)]),
  (31, [(laws_markIntS_83f.c [] 0, ⟨Int × (List Int), laws_markIntS_83f.mk⟩)]),
  (35, [(spec_SerialRun.c [] [], ⟨(List (Int × Int × Int)) × Bool, spec_SerialRun.mk⟩)]),
  (36, [(impl_SerialRun.c [] [], ⟨(List (Int × Int × Int)) × Bool, impl_SerialRun.mk⟩)]),
  (37, [(laws_heldStepS.c [] 0, ⟨Int, laws_heldStepS.mk⟩)]),
  (49, [(impl_setOf.c [], ⟨Int, impl_setOf.mk⟩)]),
  (50, [(spec_GoodSteps.c [], ⟨Bool, spec_GoodSteps.mk⟩)]),
  (52, [(laws_toStep.c 0 0 0, ⟨Int × Int × Int, laws_toStep.mk⟩)]),
  (53, [(impl_GoodSteps.c [], ⟨Bool, impl_GoodSteps.mk⟩)]),
  (55, [(impl_set_list.c 0, ⟨(List Int), impl_set_list.mk⟩)]),
  (56, [(laws_eqStep.c 0 0 0 0 0 0, ⟨Bool, laws_eqStep.mk⟩)]),
  (63, [(impl_areAll_int_impl_isTxn.c [], ⟨Bool, impl_areAll_int_impl_isTxn.mk⟩)]),
  (69, [(spec_l1In.c 0 0 0, ⟨Bool, spec_l1In.mk⟩)]),
  (73, [(spec_l1Has.c [] 0, ⟨Bool, spec_l1Has.mk⟩)]),
  (74, [(spec_l13Txns.c [], ⟨(List Int), spec_l13Txns.mk⟩)]),
  (75, [(impl_isTxn.c 0, ⟨Bool, impl_isTxn.mk⟩)]),
  (76, [(impl_txnsOf.c [], ⟨Int, impl_txnsOf.mk⟩)]),
  (77, [(impl_stepsOf.c [] 0, ⟨(List (Int × Int × Int)), impl_stepsOf.mk⟩)]),
  (81, [(impl_within.c 0 0 0, ⟨Bool, impl_within.mk⟩)]),
  (86, [(spec_l7Put.c [] 0, ⟨(List Int), spec_l7Put.mk⟩)]),
  (87, [(impl_areAll_impl_Step_impl_isStep.c [], ⟨Bool, impl_areAll_impl_Step_impl_isStep.mk⟩)]),
  (88, [(impl_isStep.c 0 0 0, ⟨Bool, impl_isStep.mk⟩)]),
  (94, [(slices_ContainsFunc_int_int_impl_areAll_int_1_impl_isTxn.c [], ⟨Bool, slices_ContainsFunc_int_int_impl_areAll_int_1_impl_isTxn.mk⟩)]),
  (95, [(impl_areAll_int_1_impl_isTxn.c 0, ⟨Bool, impl_areAll_int_1_impl_isTxn.mk⟩)]),
  (100, [(slices_DeleteFunc_impl_Step_impl_Step_impl_stepsOf_1_b77.c [] 0, ⟨(List (Int × Int × Int)), slices_DeleteFunc_impl_Step_impl_Step_impl_stepsOf_1_b77.mk⟩)]),
  (101, [(slices_Clone_impl_Step_impl_Step.c [], ⟨(List (Int × Int × Int)), slices_Clone_impl_Step_impl_Step.mk⟩)]),
  (102, [(impl_stepsOf_1.c 0 0 0 0, ⟨Bool, impl_stepsOf_1.mk⟩)]),
  (105, [(slices_ContainsFunc_impl_Step_impl_Step_impl_areAll_impl_Step_1_impl_isStep.c [], ⟨Bool, slices_ContainsFunc_impl_Step_impl_Step_impl_areAll_impl_Step_1_impl_isStep.mk⟩)]),
  (106, [(impl_areAll_impl_Step_1_impl_isStep.c 0 0 0, ⟨Bool, impl_areAll_impl_Step_1_impl_isStep.mk⟩)]),
  (108, [(slices_IndexFunc_int_int_impl_areAll_int_1_impl_isTxn.c [], ⟨Int, slices_IndexFunc_int_int_impl_areAll_int_1_impl_isTxn.mk⟩)]),
  (111, [(slices_IndexFunc_impl_Step_impl_Step_impl_areAll_impl_Step_1_impl_isStep.c [], ⟨Int, slices_IndexFunc_impl_Step_impl_Step_impl_areAll_impl_Step_1_impl_isStep.mk⟩), (slices_IndexFunc_impl_Step_impl_Step_impl_stepsOf_1.c [] 0, ⟨Int, slices_IndexFunc_impl_Step_impl_Step_impl_stepsOf_1.mk⟩)])]
def tab : FuncId → List Cell → Tb := fun g cs => match assoc tabT g with | some l => pickT l cs | none => ⟨Unit, fun _ => (⟨.one, []⟩, [])⟩
end GoV

/- Equations of the program's functions (printed by wip/tools/emit.py). -/
namespace GoV
open Go Go.Proofs
set_option maxRecDepth 100000

noncomputable def laws_FnExactSerialRun.t {γ : Type} (ret : (Bool) → Option γ) (v0 : List (Int × Int × Int)) (v1 : List Int) : Option γ :=
  bif Decidable.decide ((↑v1.length : Int) > (1048576 : Int)) then
    ret (Bool.true)
  else
    (laws_szStepS (v0) ((1048576 : Int))).bind fun (r0 : Int) =>
    bif Decidable.decide (r0 < (0 : Int)) then
      ret (Bool.true)
    else
      (laws_toStepS (v0)).bind fun (r1 : (List (Int × Int × Int))) =>
      (laws_toIntS (v1)).bind fun (r2 : (List Int)) =>
      (spec_SerialRun (r1) (r2)).bind fun (r3 : (List (Int × Int × Int)) × Bool) =>
      (laws_toStepS (v0)).bind fun (r4 : (List (Int × Int × Int))) =>
      (laws_toIntS (v1)).bind fun (r5 : (List Int)) =>
      (impl_SerialRun (r4) (r5)).bind fun (r6 : (List (Int × Int × Int)) × Bool) =>
      (laws_eqStepS (r6.fst) (r3.fst)).bind fun (r7 : Bool) =>
      bif !r7 then
        ret (Bool.false)
      else
        bif !r6.snd == r3.snd then
          ret (Bool.false)
        else
          (laws_toStepS (v0)).bind fun (r8 : (List (Int × Int × Int))) =>
          (laws_eqStepS (r4) (r8)).bind fun (r9 : Bool) =>
          bif !r9 then
            ret (Bool.false)
          else
            (laws_toIntS (v1)).bind fun (r10 : (List Int)) =>
            (laws_eqIntS (r5) (r10)).bind fun (r11 : Bool) =>
            bif !r11 then
              ret (Bool.false)
            else
              (laws_markStepS_5b1 (r4) ((1 : Int))).bind fun (r12 : Int × (List (Int × Int × Int))) =>
              (laws_markIntS_83f (r5) (r12.fst)).bind fun (r13 : Int × (List Int)) =>
              bif Decidable.decide (r13.fst < (0 : Int)) then
                ret (Bool.false)
              else
                (laws_eqStepS (r6.fst) (r3.fst)).bind fun (r14 : Bool) =>
                bif !r14 then
                  ret (Bool.false)
                else
                  bif !r6.snd == r3.snd then
                    ret (Bool.false)
                  else
                    (laws_markStepS_5b1 (r6.fst) ((1 : Int))).bind fun (r15 : Int × (List (Int × Int × Int))) =>
                    (laws_heldStepS (r15.snd) ((1 : Int))).bind fun (r16 : Int) =>
                    bif Decidable.decide (r16 < (0 : Int)) then
                      ret (Bool.false)
                    else
                      bif r16 != r15.fst then
                        ret (Bool.false)
                      else
                        (laws_toStepS (v0)).bind fun (r17 : (List (Int × Int × Int))) =>
                        (laws_toIntS (v1)).bind fun (r18 : (List Int)) =>
                        (impl_SerialRun (r17) (r18)).bind fun (r19 : (List (Int × Int × Int)) × Bool) =>
                        (laws_eqStepS (r19.fst) (r3.fst)).bind fun (r20 : Bool) =>
                        bif !r20 then
                          ret (Bool.false)
                        else
                          bif !r19.snd == r3.snd then
                            ret (Bool.false)
                          else
                            (laws_heldStepS (r15.snd) ((1 : Int))).bind fun (r21 : Int) =>
                            bif Decidable.decide (r21 < (0 : Int)) then
                              ret (Bool.false)
                            else
                              bif r21 != r15.fst then
                                ret (Bool.false)
                              else
                                ret (Bool.true)
theorem laws_FnExactSerialRun.k (v0 : List (Int × Int × Int)) (v1 : List Int) : topL E (callT E tab) 7 Try.f7 (laws_FnExactSerialRun.c v0 v1) = laws_FnExactSerialRun.t (fun b => some (laws_FnExactSerialRun.mk b)) v0 v1 := by kernel_rfl
theorem laws_FnExactSerialRun.s (v0 : List (Int × Int × Int)) (v1 : List Int) : Sub laws_FnExactSerialRun.mk (laws_FnExactSerialRun.t some v0 v1) (laws_FnExactSerialRun.t (fun b => some (laws_FnExactSerialRun.mk b)) v0 v1) := by
  unfold laws_FnExactSerialRun.t
  repeat' first | exact Sub.ret | exact Sub.none | exact Sub.loop | apply Sub.cond | (apply Sub.bind; intro _)
theorem laws_FnExactSerialRun.eq (v0 : List (Int × Int × Int)) (v1 : List Int) {b : Bool} (h : laws_FnExactSerialRun.t some v0 v1 = some b) : laws_FnExactSerialRun v0 v1 = some b := tOf_intro laws_FnExactSerialRun.un (fun _ => by kernel_rfl) (vlim_fn (callT_le E tab) rfl rfl rfl ((laws_FnExactSerialRun.k v0 v1).trans (laws_FnExactSerialRun.s v0 v1 b h)))
noncomputable def laws_szStepS.t {γ : Type} (ret : (Int) → Option γ) (v0 : List (Int × Int × Int)) (v1 : Int) : Option γ :=
  bif Decidable.decide (Go.IntKind.i64.wrap (v1 - (↑v0.length : Int)) < (0 : Int)) then
    ret ((-1 : Int))
  else
    ret (Go.IntKind.i64.wrap (v1 - (↑v0.length : Int)))
theorem laws_szStepS.k (v0 : List (Int × Int × Int)) (v1 : Int) : topL E (callT E tab) 16 Try.f16 (laws_szStepS.c v0 v1) = laws_szStepS.t (fun b => some (laws_szStepS.mk b)) v0 v1 := by kernel_rfl
theorem laws_szStepS.s (v0 : List (Int × Int × Int)) (v1 : Int) : Sub laws_szStepS.mk (laws_szStepS.t some v0 v1) (laws_szStepS.t (fun b => some (laws_szStepS.mk b)) v0 v1) := by
  unfold laws_szStepS.t
  repeat' first | exact Sub.ret | exact Sub.none | exact Sub.loop | apply Sub.cond | (apply Sub.bind; intro _)
theorem laws_szStepS.eq (v0 : List (Int × Int × Int)) (v1 : Int) {b : Int} (h : laws_szStepS.t some v0 v1 = some b) : laws_szStepS v0 v1 = some b := tOf_intro laws_szStepS.un (fun _ => by kernel_rfl) (vlim_fn (callT_le E tab) rfl rfl rfl ((laws_szStepS.k v0 v1).trans (laws_szStepS.s v0 v1 b h)))
noncomputable def laws_toStepS.q3 (v0 : List (Int × Int × Int)) (v1 : List (Int × Int × Int)) (v2 : Int) : Option R := loopAtL E (callT E tab) 18 Try.f18 1 [.r, .r, .l, .r, .b] (vc (.d .fro (.sl (.pair (.int .i64) (.pair (.int .i64) (.int .i64)))) v0) :: nn 2 (vc (.d .deep (.sl (.pair (.int .i64) (.pair (.int .i64) (.int .i64)))) v1) :: vc (iL v2) :: nn 18 ([])))
noncomputable def laws_toStepS.l3 (v0 : List (Int × Int × Int)) (v1 : List (Int × Int × Int)) (v2 : Int) : Option ((List (Int × Int × Int))) := tOf laws_toStepS.mk (laws_toStepS.q3 v0 v1 v2)
noncomputable def laws_toStepS.t {γ : Type} (ret : ((List (Int × Int × Int))) → Option γ) (lp3 : (List (Int × Int × Int)) → (List (Int × Int × Int)) → Int → Option γ) (v0 : List (Int × Int × Int)) : Option γ :=
  bif Decidable.decide ((↑v0.length : Int) = (↑v0.length : Int)) then
    bif Decidable.decide ((↑v0.length : Int) ≤ (↑(4294967296 : Nat) : Int)) then
      lp3 (v0) (List.replicate (↑v0.length : Int).toNat ((0 : Int), (0 : Int), (0 : Int))) ((0 : Int))
    else
      none
  else
    none
noncomputable def laws_toStepS.t3 {γ : Type} (ret : ((List (Int × Int × Int))) → Option γ) (lp3 : (List (Int × Int × Int)) → (List (Int × Int × Int)) → Int → Option γ) (v0 : List (Int × Int × Int)) (v1 : List (Int × Int × Int)) (v2 : Int) : Option γ :=
  bif Decidable.decide (v2 < (↑v0.length : Int)) then
    bif Decidable.decide ((0 : Int) ≤ v2) then
      bif Decidable.decide (v2.toNat < v0.length) then
        (laws_toStep ((v0.getD v2.toNat ((0 : Int), (0 : Int), (0 : Int))).fst) ((v0.getD v2.toNat ((0 : Int), (0 : Int), (0 : Int))).snd.fst) ((v0.getD v2.toNat ((0 : Int), (0 : Int), (0 : Int))).snd.snd)).bind fun (r0 : Int × Int × Int) =>
        bif Decidable.decide ((0 : Int) ≤ v2) then
          bif Decidable.decide (v2.toNat < v1.length) then
            bif Decidable.decide (v2.toNat < v1.length) then
              lp3 (v0) (v1.set v2.toNat (r0.fst, r0.snd.fst, r0.snd.snd)) (Go.IntKind.i64.wrap (v2 + (1 : Int)))
            else
              none
          else
            none
        else
          none
      else
        none
    else
      none
  else
    ret (v1)
theorem laws_toStepS.k (v0 : List (Int × Int × Int)) : topL E (callT E tab) 18 Try.f18 (laws_toStepS.c v0) = laws_toStepS.t (fun b => some (laws_toStepS.mk b)) laws_toStepS.q3 v0 := by kernel_rfl
theorem laws_toStepS.k3 (v0 : List (Int × Int × Int)) (v1 : List (Int × Int × Int)) (v2 : Int) : roundL E (callT E tab) 18 Try.f18 1 [.r, .r, .l, .r, .b] (vc (.d .fro (.sl (.pair (.int .i64) (.pair (.int .i64) (.int .i64)))) v0) :: nn 2 (vc (.d .deep (.sl (.pair (.int .i64) (.pair (.int .i64) (.int .i64)))) v1) :: vc (iL v2) :: nn 18 ([]))) = laws_toStepS.t3 (fun b => some (laws_toStepS.mk b)) laws_toStepS.q3 v0 v1 v2 := by kernel_rfl
theorem laws_toStepS.s (v0 : List (Int × Int × Int)) : Sub laws_toStepS.mk (laws_toStepS.t some laws_toStepS.l3 v0) (laws_toStepS.t (fun b => some (laws_toStepS.mk b)) laws_toStepS.q3 v0) := by
  unfold laws_toStepS.t
  repeat' first | exact Sub.ret | exact Sub.none | exact Sub.loop | apply Sub.cond | (apply Sub.bind; intro _)
theorem laws_toStepS.eq (v0 : List (Int × Int × Int)) {b : (List (Int × Int × Int))} (h : laws_toStepS.t some laws_toStepS.l3 v0 = some b) : laws_toStepS v0 = some b := tOf_intro laws_toStepS.un (fun _ => by kernel_rfl) (vlim_fn (callT_le E tab) rfl rfl rfl ((laws_toStepS.k v0).trans (laws_toStepS.s v0 b h)))
theorem laws_toStepS.s3 (v0 : List (Int × Int × Int)) (v1 : List (Int × Int × Int)) (v2 : Int) : Sub laws_toStepS.mk (laws_toStepS.t3 some laws_toStepS.l3 v0 v1 v2) (laws_toStepS.t3 (fun b => some (laws_toStepS.mk b)) laws_toStepS.q3 v0 v1 v2) := by
  unfold laws_toStepS.t3
  repeat' first | exact Sub.ret | exact Sub.none | exact Sub.loop | apply Sub.cond | (apply Sub.bind; intro _)
theorem laws_toStepS.eq3 (v0 : List (Int × Int × Int)) (v1 : List (Int × Int × Int)) (v2 : Int) {b : (List (Int × Int × Int))} (h : laws_toStepS.t3 some laws_toStepS.l3 v0 v1 v2 = some b) : laws_toStepS.l3 v0 v1 v2 = some b := tOf_intro laws_toStepS.un (fun _ => by kernel_rfl) (loopAtL_step ((laws_toStepS.k3 v0 v1 v2).trans (laws_toStepS.s3 v0 v1 v2 b h)))
noncomputable def laws_toStep.t {γ : Type} (ret : (Int × Int × Int) → Option γ) (v0 : Int) (v1 : Int) (v2 : Int) : Option γ :=
  ret (v0, v1, v2)
theorem laws_toStep.k (v0 : Int) (v1 : Int) (v2 : Int) : topL E (callT E tab) 52 Try.f52 (laws_toStep.c v0 v1 v2) = laws_toStep.t (fun b => some (laws_toStep.mk b)) v0 v1 v2 := by kernel_rfl
theorem laws_toStep.s (v0 : Int) (v1 : Int) (v2 : Int) : Sub laws_toStep.mk (laws_toStep.t some v0 v1 v2) (laws_toStep.t (fun b => some (laws_toStep.mk b)) v0 v1 v2) := by
  unfold laws_toStep.t
  repeat' first | exact Sub.ret | exact Sub.none | exact Sub.loop | apply Sub.cond | (apply Sub.bind; intro _)
theorem laws_toStep.eq (v0 : Int) (v1 : Int) (v2 : Int) {b : Int × Int × Int} (h : laws_toStep.t some v0 v1 v2 = some b) : laws_toStep v0 v1 v2 = some b := tOf_intro laws_toStep.un (fun _ => by kernel_rfl) (vlim_fn (callT_le E tab) rfl rfl rfl ((laws_toStep.k v0 v1 v2).trans (laws_toStep.s v0 v1 v2 b h)))
noncomputable def laws_toIntS.q3 (v0 : List Int) (v1 : List Int) (v2 : Int) : Option R := loopAtL E (callT E tab) 12 Try.f12 1 [.r, .r, .l, .r, .b] (vc (.d .fro (.sl (.int .i64)) v0) :: nn 2 (vc (.d .deep (.sl (.int .i64)) v1) :: vc (iL v2) :: nn 17 ([])))
noncomputable def laws_toIntS.l3 (v0 : List Int) (v1 : List Int) (v2 : Int) : Option ((List Int)) := tOf laws_toIntS.mk (laws_toIntS.q3 v0 v1 v2)
noncomputable def laws_toIntS.t {γ : Type} (ret : ((List Int)) → Option γ) (lp3 : (List Int) → (List Int) → Int → Option γ) (v0 : List Int) : Option γ :=
  bif Decidable.decide ((↑v0.length : Int) = (↑v0.length : Int)) then
    bif Decidable.decide ((↑v0.length : Int) ≤ (↑(4294967296 : Nat) : Int)) then
      lp3 (v0) (List.replicate (↑v0.length : Int).toNat (0 : Int)) ((0 : Int))
    else
      none
  else
    none
noncomputable def laws_toIntS.t3 {γ : Type} (ret : ((List Int)) → Option γ) (lp3 : (List Int) → (List Int) → Int → Option γ) (v0 : List Int) (v1 : List Int) (v2 : Int) : Option γ :=
  bif Decidable.decide (v2 < (↑v0.length : Int)) then
    bif Decidable.decide ((0 : Int) ≤ v2) then
      bif Decidable.decide (v2.toNat < v0.length) then
        bif Decidable.decide ((0 : Int) ≤ v2) then
          bif Decidable.decide (v2.toNat < v1.length) then
            bif Decidable.decide (v2.toNat < v1.length) then
              lp3 (v0) (v1.set v2.toNat (v0.getD v2.toNat (0 : Int))) (Go.IntKind.i64.wrap (v2 + (1 : Int)))
            else
              none
          else
            none
        else
          none
      else
        none
    else
      none
  else
    ret (v1)
theorem laws_toIntS.k (v0 : List Int) : topL E (callT E tab) 12 Try.f12 (laws_toIntS.c v0) = laws_toIntS.t (fun b => some (laws_toIntS.mk b)) laws_toIntS.q3 v0 := by kernel_rfl
theorem laws_toIntS.k3 (v0 : List Int) (v1 : List Int) (v2 : Int) : roundL E (callT E tab) 12 Try.f12 1 [.r, .r, .l, .r, .b] (vc (.d .fro (.sl (.int .i64)) v0) :: nn 2 (vc (.d .deep (.sl (.int .i64)) v1) :: vc (iL v2) :: nn 17 ([]))) = laws_toIntS.t3 (fun b => some (laws_toIntS.mk b)) laws_toIntS.q3 v0 v1 v2 := by kernel_rfl
theorem laws_toIntS.s (v0 : List Int) : Sub laws_toIntS.mk (laws_toIntS.t some laws_toIntS.l3 v0) (laws_toIntS.t (fun b => some (laws_toIntS.mk b)) laws_toIntS.q3 v0) := by
  unfold laws_toIntS.t
  repeat' first | exact Sub.ret | exact Sub.none | exact Sub.loop | apply Sub.cond | (apply Sub.bind; intro _)
theorem laws_toIntS.eq (v0 : List Int) {b : (List Int)} (h : laws_toIntS.t some laws_toIntS.l3 v0 = some b) : laws_toIntS v0 = some b := tOf_intro laws_toIntS.un (fun _ => by kernel_rfl) (vlim_fn (callT_le E tab) rfl rfl rfl ((laws_toIntS.k v0).trans (laws_toIntS.s v0 b h)))
theorem laws_toIntS.s3 (v0 : List Int) (v1 : List Int) (v2 : Int) : Sub laws_toIntS.mk (laws_toIntS.t3 some laws_toIntS.l3 v0 v1 v2) (laws_toIntS.t3 (fun b => some (laws_toIntS.mk b)) laws_toIntS.q3 v0 v1 v2) := by
  unfold laws_toIntS.t3
  repeat' first | exact Sub.ret | exact Sub.none | exact Sub.loop | apply Sub.cond | (apply Sub.bind; intro _)
theorem laws_toIntS.eq3 (v0 : List Int) (v1 : List Int) (v2 : Int) {b : (List Int)} (h : laws_toIntS.t3 some laws_toIntS.l3 v0 v1 v2 = some b) : laws_toIntS.l3 v0 v1 v2 = some b := tOf_intro laws_toIntS.un (fun _ => by kernel_rfl) (loopAtL_step ((laws_toIntS.k3 v0 v1 v2).trans (laws_toIntS.s3 v0 v1 v2 b h)))
noncomputable def spec_SerialRun.q12 (v0 : List (Int × Int × Int)) (v1 : List Int) (v2 : List (Int × Int × Int)) (v3 : Int) (v4 : List Int) (v5 : Int) (v6 : Int) (v7 : List (Int × Int × Int)) (v8 : Int) (v9 : Int) : Option R := loopAtL E (callT E tab) 35 Try.f35 2 [.r, .r, .r, .r, .l, .r, .b, .o, .r, .r, .l, .b, .r, .r, .r, .r, .b] (vc (.d .fro (.sl (.pair (.int .i64) (.pair (.int .i64) (.int .i64)))) v0) :: nn 5 (vc (.d .deep (.sl (.int .i64)) v1) :: vc (.d .deep (.sl (.pair (.int .i64) (.pair (.int .i64) (.int .i64)))) v2) :: nn 1 (vc (iL v3) :: nn 5 (vc (.d .fro (.sl (.int .i64)) v4) :: vc (iL v5) :: vc (iL v6) :: nn 17 (vc (.d .fro (.sl (.pair (.int .i64) (.pair (.int .i64) (.int .i64)))) v7) :: vc (iL v8) :: vc (iL v9) :: nn 19 ([]))))))
noncomputable def spec_SerialRun.l12 (v0 : List (Int × Int × Int)) (v1 : List Int) (v2 : List (Int × Int × Int)) (v3 : Int) (v4 : List Int) (v5 : Int) (v6 : Int) (v7 : List (Int × Int × Int)) (v8 : Int) (v9 : Int) : Option ((List (Int × Int × Int)) × Bool) := tOf spec_SerialRun.mk (spec_SerialRun.q12 v0 v1 v2 v3 v4 v5 v6 v7 v8 v9)
noncomputable def spec_SerialRun.q6 (v0 : List (Int × Int × Int)) (v1 : List Int) (v2 : List (Int × Int × Int)) (v3 : List Int) (v4 : Int) (v5 : Int) : Option R := loopAtL E (callT E tab) 35 Try.f35 2 [.r, .r, .r, .r, .l, .r, .b] (vc (.d .fro (.sl (.pair (.int .i64) (.pair (.int .i64) (.int .i64)))) v0) :: nn 5 (vc (.d .deep (.sl (.int .i64)) v1) :: vc (.d .deep (.sl (.pair (.int .i64) (.pair (.int .i64) (.int .i64)))) v2) :: nn 7 (vc (.d .fro (.sl (.int .i64)) v3) :: vc (iL v4) :: vc (iL v5) :: nn 39 ([]))))
noncomputable def spec_SerialRun.l6 (v0 : List (Int × Int × Int)) (v1 : List Int) (v2 : List (Int × Int × Int)) (v3 : List Int) (v4 : Int) (v5 : Int) : Option ((List (Int × Int × Int)) × Bool) := tOf spec_SerialRun.mk (spec_SerialRun.q6 v0 v1 v2 v3 v4 v5)
noncomputable def spec_SerialRun.t {γ : Type} (ret : ((List (Int × Int × Int)) × Bool) → Option γ) (lp12 : (List (Int × Int × Int)) → (List Int) → (List (Int × Int × Int)) → Int → (List Int) → Int → Int → (List (Int × Int × Int)) → Int → Int → Option γ) (lp6 : (List (Int × Int × Int)) → (List Int) → (List (Int × Int × Int)) → (List Int) → Int → Int → Option γ) (v0 : List (Int × Int × Int)) (v1 : List Int) : Option γ :=
  (spec_GoodSteps (v0)).bind fun (r0 : Bool) =>
  bif !r0 then
    ret ([], Bool.false)
  else
    lp6 (v0) ([]) ([]) (v1) ((↑v1.length : Int)) ((0 : Int))
noncomputable def spec_SerialRun.t12 {γ : Type} (ret : ((List (Int × Int × Int)) × Bool) → Option γ) (lp12 : (List (Int × Int × Int)) → (List Int) → (List (Int × Int × Int)) → Int → (List Int) → Int → Int → (List (Int × Int × Int)) → Int → Int → Option γ) (lp6 : (List (Int × Int × Int)) → (List Int) → (List (Int × Int × Int)) → (List Int) → Int → Int → Option γ) (v0 : List (Int × Int × Int)) (v1 : List Int) (v2 : List (Int × Int × Int)) (v3 : Int) (v4 : List Int) (v5 : Int) (v6 : Int) (v7 : List (Int × Int × Int)) (v8 : Int) (v9 : Int) : Option γ :=
  bif Decidable.decide (v9 < v8) then
    bif Decidable.decide ((0 : Int) ≤ v9) then
      bif Decidable.decide (v9.toNat < v7.length) then
        bif (v7.getD v9.toNat ((0 : Int), (0 : Int), (0 : Int))).fst == v3 then
          bif Decidable.decide   (v2.length +       [((v7.getD v9.toNat ((0 : Int), (0 : Int), (0 : Int))).fst,             (v7.getD v9.toNat ((0 : Int), (0 : Int), (0 : Int))).snd.fst,             (v7.getD v9.toNat ((0 : Int), (0 : Int), (0 : Int))).snd.snd)].length ≤     (4294967296 : Nat)) then
            lp12 (v0) (v1) (v2 ++   [((v7.getD v9.toNat ((0 : Int), (0 : Int), (0 : Int))).fst,       (v7.getD v9.toNat ((0 : Int), (0 : Int), (0 : Int))).snd.fst,       (v7.getD v9.toNat ((0 : Int), (0 : Int), (0 : Int))).snd.snd)]) (v3) (v4) (v5) (v6) (v7) (v8) (Go.IntKind.i64.wrap (v9 + (1 : Int)))
          else
            none
        else
          lp12 (v0) (v1) (v2) (v3) (v4) (v5) (v6) (v7) (v8) (Go.IntKind.i64.wrap (v9 + (1 : Int)))
      else
        none
    else
      none
  else
    lp6 (v0) (v1) (v2) (v4) (v5) (Go.IntKind.i64.wrap (v6 + (1 : Int)))
noncomputable def spec_SerialRun.t6 {γ : Type} (ret : ((List (Int × Int × Int)) × Bool) → Option γ) (lp12 : (List (Int × Int × Int)) → (List Int) → (List (Int × Int × Int)) → Int → (List Int) → Int → Int → (List (Int × Int × Int)) → Int → Int → Option γ) (lp6 : (List (Int × Int × Int)) → (List Int) → (List (Int × Int × Int)) → (List Int) → Int → Int → Option γ) (v0 : List (Int × Int × Int)) (v1 : List Int) (v2 : List (Int × Int × Int)) (v3 : List Int) (v4 : Int) (v5 : Int) : Option γ :=
  bif Decidable.decide (v5 < v4) then
    bif Decidable.decide ((0 : Int) ≤ v5) then
      bif Decidable.decide (v5.toNat < v3.length) then
        (spec_l1Has (v1) (v3.getD v5.toNat (0 : Int))).bind fun (r1 : Bool) =>
        bif r1 then
          ret ([], Bool.false)
        else
          (spec_l13Txns (v0)).bind fun (r2 : (List Int)) =>
          (spec_l1Has (r2) (v3.getD v5.toNat (0 : Int))).bind fun (r3 : Bool) =>
          bif !r3 then
            ret ([], Bool.false)
          else
            bif Decidable.decide (v1.length + [v3.getD v5.toNat (0 : Int)].length ≤ (4294967296 : Nat)) then
              lp12 (v0) (v1 ++ [v3.getD v5.toNat (0 : Int)]) (v2) (v3.getD v5.toNat (0 : Int)) (v3) (v4) (v5) (v0) ((↑v0.length : Int)) ((0 : Int))
            else
              none
      else
        none
    else
      none
  else
    bif (↑v2.length : Int) != (↑v0.length : Int) then
      ret ([], Bool.false)
    else
      ret (v2, Bool.true)
theorem spec_SerialRun.k (v0 : List (Int × Int × Int)) (v1 : List Int) : topL E (callT E tab) 35 Try.f35 (spec_SerialRun.c v0 v1) = spec_SerialRun.t (fun b => some (spec_SerialRun.mk b)) spec_SerialRun.q12 spec_SerialRun.q6 v0 v1 := by kernel_rfl
theorem spec_SerialRun.k12 (v0 : List (Int × Int × Int)) (v1 : List Int) (v2 : List (Int × Int × Int)) (v3 : Int) (v4 : List Int) (v5 : Int) (v6 : Int) (v7 : List (Int × Int × Int)) (v8 : Int) (v9 : Int) : roundL E (callT E tab) 35 Try.f35 2 [.r, .r, .r, .r, .l, .r, .b, .o, .r, .r, .l, .b, .r, .r, .r, .r, .b] (vc (.d .fro (.sl (.pair (.int .i64) (.pair (.int .i64) (.int .i64)))) v0) :: nn 5 (vc (.d .deep (.sl (.int .i64)) v1) :: vc (.d .deep (.sl (.pair (.int .i64) (.pair (.int .i64) (.int .i64)))) v2) :: nn 1 (vc (iL v3) :: nn 5 (vc (.d .fro (.sl (.int .i64)) v4) :: vc (iL v5) :: vc (iL v6) :: nn 17 (vc (.d .fro (.sl (.pair (.int .i64) (.pair (.int .i64) (.int .i64)))) v7) :: vc (iL v8) :: vc (iL v9) :: nn 19 ([])))))) = spec_SerialRun.t12 (fun b => some (spec_SerialRun.mk b)) spec_SerialRun.q12 spec_SerialRun.q6 v0 v1 v2 v3 v4 v5 v6 v7 v8 v9 := by kernel_rfl
theorem spec_SerialRun.k6 (v0 : List (Int × Int × Int)) (v1 : List Int) (v2 : List (Int × Int × Int)) (v3 : List Int) (v4 : Int) (v5 : Int) : roundL E (callT E tab) 35 Try.f35 2 [.r, .r, .r, .r, .l, .r, .b] (vc (.d .fro (.sl (.pair (.int .i64) (.pair (.int .i64) (.int .i64)))) v0) :: nn 5 (vc (.d .deep (.sl (.int .i64)) v1) :: vc (.d .deep (.sl (.pair (.int .i64) (.pair (.int .i64) (.int .i64)))) v2) :: nn 7 (vc (.d .fro (.sl (.int .i64)) v3) :: vc (iL v4) :: vc (iL v5) :: nn 39 ([])))) = spec_SerialRun.t6 (fun b => some (spec_SerialRun.mk b)) spec_SerialRun.q12 spec_SerialRun.q6 v0 v1 v2 v3 v4 v5 := by kernel_rfl
theorem spec_SerialRun.s (v0 : List (Int × Int × Int)) (v1 : List Int) : Sub spec_SerialRun.mk (spec_SerialRun.t some spec_SerialRun.l12 spec_SerialRun.l6 v0 v1) (spec_SerialRun.t (fun b => some (spec_SerialRun.mk b)) spec_SerialRun.q12 spec_SerialRun.q6 v0 v1) := by
  unfold spec_SerialRun.t
  repeat' first | exact Sub.ret | exact Sub.none | exact Sub.loop | apply Sub.cond | (apply Sub.bind; intro _)
theorem spec_SerialRun.eq (v0 : List (Int × Int × Int)) (v1 : List Int) {b : (List (Int × Int × Int)) × Bool} (h : spec_SerialRun.t some spec_SerialRun.l12 spec_SerialRun.l6 v0 v1 = some b) : spec_SerialRun v0 v1 = some b := tOf_intro spec_SerialRun.un (fun _ => by kernel_rfl) (vlim_fn (callT_le E tab) rfl rfl rfl ((spec_SerialRun.k v0 v1).trans (spec_SerialRun.s v0 v1 b h)))
theorem spec_SerialRun.s12 (v0 : List (Int × Int × Int)) (v1 : List Int) (v2 : List (Int × Int × Int)) (v3 : Int) (v4 : List Int) (v5 : Int) (v6 : Int) (v7 : List (Int × Int × Int)) (v8 : Int) (v9 : Int) : Sub spec_SerialRun.mk (spec_SerialRun.t12 some spec_SerialRun.l12 spec_SerialRun.l6 v0 v1 v2 v3 v4 v5 v6 v7 v8 v9) (spec_SerialRun.t12 (fun b => some (spec_SerialRun.mk b)) spec_SerialRun.q12 spec_SerialRun.q6 v0 v1 v2 v3 v4 v5 v6 v7 v8 v9) := by
  unfold spec_SerialRun.t12
  repeat' first | exact Sub.ret | exact Sub.none | exact Sub.loop | apply Sub.cond | (apply Sub.bind; intro _)
theorem spec_SerialRun.eq12 (v0 : List (Int × Int × Int)) (v1 : List Int) (v2 : List (Int × Int × Int)) (v3 : Int) (v4 : List Int) (v5 : Int) (v6 : Int) (v7 : List (Int × Int × Int)) (v8 : Int) (v9 : Int) {b : (List (Int × Int × Int)) × Bool} (h : spec_SerialRun.t12 some spec_SerialRun.l12 spec_SerialRun.l6 v0 v1 v2 v3 v4 v5 v6 v7 v8 v9 = some b) : spec_SerialRun.l12 v0 v1 v2 v3 v4 v5 v6 v7 v8 v9 = some b := tOf_intro spec_SerialRun.un (fun _ => by kernel_rfl) (loopAtL_step ((spec_SerialRun.k12 v0 v1 v2 v3 v4 v5 v6 v7 v8 v9).trans (spec_SerialRun.s12 v0 v1 v2 v3 v4 v5 v6 v7 v8 v9 b h)))
theorem spec_SerialRun.s6 (v0 : List (Int × Int × Int)) (v1 : List Int) (v2 : List (Int × Int × Int)) (v3 : List Int) (v4 : Int) (v5 : Int) : Sub spec_SerialRun.mk (spec_SerialRun.t6 some spec_SerialRun.l12 spec_SerialRun.l6 v0 v1 v2 v3 v4 v5) (spec_SerialRun.t6 (fun b => some (spec_SerialRun.mk b)) spec_SerialRun.q12 spec_SerialRun.q6 v0 v1 v2 v3 v4 v5) := by
  unfold spec_SerialRun.t6
  repeat' first | exact Sub.ret | exact Sub.none | exact Sub.loop | apply Sub.cond | (apply Sub.bind; intro _)
theorem spec_SerialRun.eq6 (v0 : List (Int × Int × Int)) (v1 : List Int) (v2 : List (Int × Int × Int)) (v3 : List Int) (v4 : Int) (v5 : Int) {b : (List (Int × Int × Int)) × Bool} (h : spec_SerialRun.t6 some spec_SerialRun.l12 spec_SerialRun.l6 v0 v1 v2 v3 v4 v5 = some b) : spec_SerialRun.l6 v0 v1 v2 v3 v4 v5 = some b := tOf_intro spec_SerialRun.un (fun _ => by kernel_rfl) (loopAtL_step ((spec_SerialRun.k6 v0 v1 v2 v3 v4 v5).trans (spec_SerialRun.s6 v0 v1 v2 v3 v4 v5 b h)))
noncomputable def spec_GoodSteps.q2 (v0 : List (Int × Int × Int)) (v1 : List (Int × Int × Int)) (v2 : Int) (v3 : Int) : Option R := loopAtL E (callT E tab) 50 Try.f50 1 [.r, .l, .r, .b] (vc (.d .fro (.sl (.pair (.int .i64) (.pair (.int .i64) (.int .i64)))) v0) :: nn 4 (vc (.d .fro (.sl (.pair (.int .i64) (.pair (.int .i64) (.int .i64)))) v1) :: vc (iL v2) :: vc (iL v3) :: nn 31 ([])))
noncomputable def spec_GoodSteps.l2 (v0 : List (Int × Int × Int)) (v1 : List (Int × Int × Int)) (v2 : Int) (v3 : Int) : Option (Bool) := tOf spec_GoodSteps.mk (spec_GoodSteps.q2 v0 v1 v2 v3)
noncomputable def spec_GoodSteps.t {γ : Type} (ret : (Bool) → Option γ) (lp2 : (List (Int × Int × Int)) → (List (Int × Int × Int)) → Int → Int → Option γ) (v0 : List (Int × Int × Int)) : Option γ :=
  lp2 (v0) (v0) ((↑v0.length : Int)) ((0 : Int))
noncomputable def spec_GoodSteps.t2 {γ : Type} (ret : (Bool) → Option γ) (lp2 : (List (Int × Int × Int)) → (List (Int × Int × Int)) → Int → Int → Option γ) (v0 : List (Int × Int × Int)) (v1 : List (Int × Int × Int)) (v2 : Int) (v3 : Int) : Option γ :=
  bif Decidable.decide (v3 < v2) then
    bif Decidable.decide ((0 : Int) ≤ v3) then
      bif Decidable.decide (v3.toNat < v1.length) then
        bif Decidable.decide ((v1.getD v3.toNat ((0 : Int), (0 : Int), (0 : Int))).fst < (0 : Int)) then
          ret (Bool.false)
        else
          bif Decidable.decide ((v1.getD v3.toNat ((0 : Int), (0 : Int), (0 : Int))).fst ≥ (6 : Int)) then
            ret (Bool.false)
          else
            bif Decidable.decide ((v1.getD v3.toNat ((0 : Int), (0 : Int), (0 : Int))).snd.snd < (0 : Int)) then
              ret (Bool.false)
            else
              bif Decidable.decide ((v1.getD v3.toNat ((0 : Int), (0 : Int), (0 : Int))).snd.snd ≥ (4 : Int)) then
                ret (Bool.false)
              else
                (spec_l1In ((v1.getD v3.toNat ((0 : Int), (0 : Int), (0 : Int))).snd.fst) ((1 : Int)) ((2 : Int))).bind fun (r0 : Bool) =>
                bif !r0 then
                  ret (Bool.false)
                else
                  lp2 (v0) (v1) (v2) (Go.IntKind.i64.wrap (v3 + (1 : Int)))
      else
        none
    else
      none
  else
    ret (Decidable.decide ((↑v0.length : Int) ≤ (40 : Int)))
theorem spec_GoodSteps.k (v0 : List (Int × Int × Int)) : topL E (callT E tab) 50 Try.f50 (spec_GoodSteps.c v0) = spec_GoodSteps.t (fun b => some (spec_GoodSteps.mk b)) spec_GoodSteps.q2 v0 := by kernel_rfl
theorem spec_GoodSteps.k2 (v0 : List (Int × Int × Int)) (v1 : List (Int × Int × Int)) (v2 : Int) (v3 : Int) : roundL E (callT E tab) 50 Try.f50 1 [.r, .l, .r, .b] (vc (.d .fro (.sl (.pair (.int .i64) (.pair (.int .i64) (.int .i64)))) v0) :: nn 4 (vc (.d .fro (.sl (.pair (.int .i64) (.pair (.int .i64) (.int .i64)))) v1) :: vc (iL v2) :: vc (iL v3) :: nn 31 ([]))) = spec_GoodSteps.t2 (fun b => some (spec_GoodSteps.mk b)) spec_GoodSteps.q2 v0 v1 v2 v3 := by kernel_rfl
theorem spec_GoodSteps.s (v0 : List (Int × Int × Int)) : Sub spec_GoodSteps.mk (spec_GoodSteps.t some spec_GoodSteps.l2 v0) (spec_GoodSteps.t (fun b => some (spec_GoodSteps.mk b)) spec_GoodSteps.q2 v0) := by
  unfold spec_GoodSteps.t
  repeat' first | exact Sub.ret | exact Sub.none | exact Sub.loop | apply Sub.cond | (apply Sub.bind; intro _)
theorem spec_GoodSteps.eq (v0 : List (Int × Int × Int)) {b : Bool} (h : spec_GoodSteps.t some spec_GoodSteps.l2 v0 = some b) : spec_GoodSteps v0 = some b := tOf_intro spec_GoodSteps.un (fun _ => by kernel_rfl) (vlim_fn (callT_le E tab) rfl rfl rfl ((spec_GoodSteps.k v0).trans (spec_GoodSteps.s v0 b h)))
theorem spec_GoodSteps.s2 (v0 : List (Int × Int × Int)) (v1 : List (Int × Int × Int)) (v2 : Int) (v3 : Int) : Sub spec_GoodSteps.mk (spec_GoodSteps.t2 some spec_GoodSteps.l2 v0 v1 v2 v3) (spec_GoodSteps.t2 (fun b => some (spec_GoodSteps.mk b)) spec_GoodSteps.q2 v0 v1 v2 v3) := by
  unfold spec_GoodSteps.t2
  repeat' first | exact Sub.ret | exact Sub.none | exact Sub.loop | apply Sub.cond | (apply Sub.bind; intro _)
theorem spec_GoodSteps.eq2 (v0 : List (Int × Int × Int)) (v1 : List (Int × Int × Int)) (v2 : Int) (v3 : Int) {b : Bool} (h : spec_GoodSteps.t2 some spec_GoodSteps.l2 v0 v1 v2 v3 = some b) : spec_GoodSteps.l2 v0 v1 v2 v3 = some b := tOf_intro spec_GoodSteps.un (fun _ => by kernel_rfl) (loopAtL_step ((spec_GoodSteps.k2 v0 v1 v2 v3).trans (spec_GoodSteps.s2 v0 v1 v2 v3 b h)))
noncomputable def spec_l1In.t {γ : Type} (ret : (Bool) → Option γ) (v0 : Int) (v1 : Int) (v2 : Int) : Option γ :=
  bif Decidable.decide (v0 ≥ v1) then
    ret (Decidable.decide (v0 ≤ v2))
  else
    ret (Bool.false)
theorem spec_l1In.k (v0 : Int) (v1 : Int) (v2 : Int) : topL E (callT E tab) 69 Try.f69 (spec_l1In.c v0 v1 v2) = spec_l1In.t (fun b => some (spec_l1In.mk b)) v0 v1 v2 := by kernel_rfl
theorem spec_l1In.s (v0 : Int) (v1 : Int) (v2 : Int) : Sub spec_l1In.mk (spec_l1In.t some v0 v1 v2) (spec_l1In.t (fun b => some (spec_l1In.mk b)) v0 v1 v2) := by
  unfold spec_l1In.t
  repeat' first | exact Sub.ret | exact Sub.none | exact Sub.loop | apply Sub.cond | (apply Sub.bind; intro _)
theorem spec_l1In.eq (v0 : Int) (v1 : Int) (v2 : Int) {b : Bool} (h : spec_l1In.t some v0 v1 v2 = some b) : spec_l1In v0 v1 v2 = some b := tOf_intro spec_l1In.un (fun _ => by kernel_rfl) (vlim_fn (callT_le E tab) rfl rfl rfl ((spec_l1In.k v0 v1 v2).trans (spec_l1In.s v0 v1 v2 b h)))
noncomputable def spec_l1Has.q2 (v0 : Int) (v1 : List Int) (v2 : Int) (v3 : Int) : Option R := loopAtL E (callT E tab) 73 Try.f73 2 [.r, .l, .r, .b] (nn 1 (vc (iL v0) :: nn 5 (vc (.d .fro (.sl (.int .i64)) v1) :: vc (iL v2) :: vc (iL v3) :: nn 7 ([]))))
noncomputable def spec_l1Has.l2 (v0 : Int) (v1 : List Int) (v2 : Int) (v3 : Int) : Option (Bool) := tOf spec_l1Has.mk (spec_l1Has.q2 v0 v1 v2 v3)
noncomputable def spec_l1Has.t {γ : Type} (ret : (Bool) → Option γ) (lp2 : Int → (List Int) → Int → Int → Option γ) (v0 : List Int) (v1 : Int) : Option γ :=
  lp2 (v1) (v0) ((↑v0.length : Int)) ((0 : Int))
noncomputable def spec_l1Has.t2 {γ : Type} (ret : (Bool) → Option γ) (lp2 : Int → (List Int) → Int → Int → Option γ) (v0 : Int) (v1 : List Int) (v2 : Int) (v3 : Int) : Option γ :=
  bif Decidable.decide (v3 < v2) then
    bif Decidable.decide ((0 : Int) ≤ v3) then
      bif Decidable.decide (v3.toNat < v1.length) then
        bif v1.getD v3.toNat (0 : Int) == v0 then
          ret (Bool.true)
        else
          lp2 (v0) (v1) (v2) (Go.IntKind.i64.wrap (v3 + (1 : Int)))
      else
        none
    else
      none
  else
    ret (Bool.false)
theorem spec_l1Has.k (v0 : List Int) (v1 : Int) : topL E (callT E tab) 73 Try.f73 (spec_l1Has.c v0 v1) = spec_l1Has.t (fun b => some (spec_l1Has.mk b)) spec_l1Has.q2 v0 v1 := by kernel_rfl
theorem spec_l1Has.k2 (v0 : Int) (v1 : List Int) (v2 : Int) (v3 : Int) : roundL E (callT E tab) 73 Try.f73 2 [.r, .l, .r, .b] (nn 1 (vc (iL v0) :: nn 5 (vc (.d .fro (.sl (.int .i64)) v1) :: vc (iL v2) :: vc (iL v3) :: nn 7 ([])))) = spec_l1Has.t2 (fun b => some (spec_l1Has.mk b)) spec_l1Has.q2 v0 v1 v2 v3 := by kernel_rfl
theorem spec_l1Has.s (v0 : List Int) (v1 : Int) : Sub spec_l1Has.mk (spec_l1Has.t some spec_l1Has.l2 v0 v1) (spec_l1Has.t (fun b => some (spec_l1Has.mk b)) spec_l1Has.q2 v0 v1) := by
  unfold spec_l1Has.t
  repeat' first | exact Sub.ret | exact Sub.none | exact Sub.loop | apply Sub.cond | (apply Sub.bind; intro _)
theorem spec_l1Has.eq (v0 : List Int) (v1 : Int) {b : Bool} (h : spec_l1Has.t some spec_l1Has.l2 v0 v1 = some b) : spec_l1Has v0 v1 = some b := tOf_intro spec_l1Has.un (fun _ => by kernel_rfl) (vlim_fn (callT_le E tab) rfl rfl rfl ((spec_l1Has.k v0 v1).trans (spec_l1Has.s v0 v1 b h)))
theorem spec_l1Has.s2 (v0 : Int) (v1 : List Int) (v2 : Int) (v3 : Int) : Sub spec_l1Has.mk (spec_l1Has.t2 some spec_l1Has.l2 v0 v1 v2 v3) (spec_l1Has.t2 (fun b => some (spec_l1Has.mk b)) spec_l1Has.q2 v0 v1 v2 v3) := by
  unfold spec_l1Has.t2
  repeat' first | exact Sub.ret | exact Sub.none | exact Sub.loop | apply Sub.cond | (apply Sub.bind; intro _)
theorem spec_l1Has.eq2 (v0 : Int) (v1 : List Int) (v2 : Int) (v3 : Int) {b : Bool} (h : spec_l1Has.t2 some spec_l1Has.l2 v0 v1 v2 v3 = some b) : spec_l1Has.l2 v0 v1 v2 v3 = some b := tOf_intro spec_l1Has.un (fun _ => by kernel_rfl) (loopAtL_step ((spec_l1Has.k2 v0 v1 v2 v3).trans (spec_l1Has.s2 v0 v1 v2 v3 b h)))
noncomputable def spec_l13Txns.q3 (v0 : List Int) (v1 : List (Int × Int × Int)) (v2 : Int) (v3 : Int) : Option R := loopAtL E (callT E tab) 74 Try.f74 1 [.r, .r, .l, .r, .b] (nn 3 (vc (.d .fro (.sl (.int .i64)) v0) :: nn 2 (vc (.d .fro (.sl (.pair (.int .i64) (.pair (.int .i64) (.int .i64)))) v1) :: vc (iL v2) :: vc (iL v3) :: nn 9 ([]))))
noncomputable def spec_l13Txns.l3 (v0 : List Int) (v1 : List (Int × Int × Int)) (v2 : Int) (v3 : Int) : Option ((List Int)) := tOf spec_l13Txns.mk (spec_l13Txns.q3 v0 v1 v2 v3)
noncomputable def spec_l13Txns.t {γ : Type} (ret : ((List Int)) → Option γ) (lp3 : (List Int) → (List (Int × Int × Int)) → Int → Int → Option γ) (v0 : List (Int × Int × Int)) : Option γ :=
  lp3 ([]) (v0) ((↑v0.length : Int)) ((0 : Int))
noncomputable def spec_l13Txns.t3 {γ : Type} (ret : ((List Int)) → Option γ) (lp3 : (List Int) → (List (Int × Int × Int)) → Int → Int → Option γ) (v0 : List Int) (v1 : List (Int × Int × Int)) (v2 : Int) (v3 : Int) : Option γ :=
  bif Decidable.decide (v3 < v2) then
    bif Decidable.decide ((0 : Int) ≤ v3) then
      bif Decidable.decide (v3.toNat < v1.length) then
        (spec_l7Put (v0) ((v1.getD v3.toNat ((0 : Int), (0 : Int), (0 : Int))).fst)).bind fun (r0 : (List Int)) =>
        lp3 (r0) (v1) (v2) (Go.IntKind.i64.wrap (v3 + (1 : Int)))
      else
        none
    else
      none
  else
    ret (v0)
theorem spec_l13Txns.k (v0 : List (Int × Int × Int)) : topL E (callT E tab) 74 Try.f74 (spec_l13Txns.c v0) = spec_l13Txns.t (fun b => some (spec_l13Txns.mk b)) spec_l13Txns.q3 v0 := by kernel_rfl
theorem spec_l13Txns.k3 (v0 : List Int) (v1 : List (Int × Int × Int)) (v2 : Int) (v3 : Int) : roundL E (callT E tab) 74 Try.f74 1 [.r, .r, .l, .r, .b] (nn 3 (vc (.d .fro (.sl (.int .i64)) v0) :: nn 2 (vc (.d .fro (.sl (.pair (.int .i64) (.pair (.int .i64) (.int .i64)))) v1) :: vc (iL v2) :: vc (iL v3) :: nn 9 ([])))) = spec_l13Txns.t3 (fun b => some (spec_l13Txns.mk b)) spec_l13Txns.q3 v0 v1 v2 v3 := by kernel_rfl
theorem spec_l13Txns.s (v0 : List (Int × Int × Int)) : Sub spec_l13Txns.mk (spec_l13Txns.t some spec_l13Txns.l3 v0) (spec_l13Txns.t (fun b => some (spec_l13Txns.mk b)) spec_l13Txns.q3 v0) := by
  unfold spec_l13Txns.t
  repeat' first | exact Sub.ret | exact Sub.none | exact Sub.loop | apply Sub.cond | (apply Sub.bind; intro _)
theorem spec_l13Txns.eq (v0 : List (Int × Int × Int)) {b : (List Int)} (h : spec_l13Txns.t some spec_l13Txns.l3 v0 = some b) : spec_l13Txns v0 = some b := tOf_intro spec_l13Txns.un (fun _ => by kernel_rfl) (vlim_fn (callT_le E tab) rfl rfl rfl ((spec_l13Txns.k v0).trans (spec_l13Txns.s v0 b h)))
theorem spec_l13Txns.s3 (v0 : List Int) (v1 : List (Int × Int × Int)) (v2 : Int) (v3 : Int) : Sub spec_l13Txns.mk (spec_l13Txns.t3 some spec_l13Txns.l3 v0 v1 v2 v3) (spec_l13Txns.t3 (fun b => some (spec_l13Txns.mk b)) spec_l13Txns.q3 v0 v1 v2 v3) := by
  unfold spec_l13Txns.t3
  repeat' first | exact Sub.ret | exact Sub.none | exact Sub.loop | apply Sub.cond | (apply Sub.bind; intro _)
theorem spec_l13Txns.eq3 (v0 : List Int) (v1 : List (Int × Int × Int)) (v2 : Int) (v3 : Int) {b : (List Int)} (h : spec_l13Txns.t3 some spec_l13Txns.l3 v0 v1 v2 v3 = some b) : spec_l13Txns.l3 v0 v1 v2 v3 = some b := tOf_intro spec_l13Txns.un (fun _ => by kernel_rfl) (loopAtL_step ((spec_l13Txns.k3 v0 v1 v2 v3).trans (spec_l13Txns.s3 v0 v1 v2 v3 b h)))
noncomputable def spec_l7Put.q4 (v0 : List Int) (v1 : Int) (v2 : Int) : Option R := loopAtL E (callT E tab) 86 Try.f86 2 [.r, .r, .r, .l, .b] (vc (.d .fro (.sl (.int .i64)) v0) :: vc (iL v1) :: nn 3 (vc (iL v2) :: nn 33 ([])))
noncomputable def spec_l7Put.l4 (v0 : List Int) (v1 : Int) (v2 : Int) : Option ((List Int)) := tOf spec_l7Put.mk (spec_l7Put.q4 v0 v1 v2)
noncomputable def spec_l7Put.t {γ : Type} (ret : ((List Int)) → Option γ) (lp4 : (List Int) → Int → Int → Option γ) (v0 : List Int) (v1 : Int) : Option γ :=
  (spec_l1Has (v0) (v1)).bind fun (r0 : Bool) =>
  bif r0 then
    ret (v0)
  else
    lp4 (v0) (v1) ((0 : Int))
noncomputable def spec_l7Put.t4 {γ : Type} (ret : ((List Int)) → Option γ) (lp4 : (List Int) → Int → Int → Option γ) (v0 : List Int) (v1 : Int) (v2 : Int) : Option γ :=
  bif Decidable.decide (v2 < (↑v0.length : Int)) then
    bif Decidable.decide ((0 : Int) ≤ v2) then
      bif Decidable.decide (v2.toNat < v0.length) then
        bif Decidable.decide (v0.getD v2.toNat (0 : Int) < v1) then
          lp4 (v0) (v1) (Go.IntKind.i64.wrap (v2 + (1 : Int)))
        else
          bif Decidable.decide (Option.none.getD (0 : Int) ≤ v2) then
            bif Decidable.decide (v2 ≤ (↑v0.length : Int)) then
              bif Decidable.decide   ((List.take (v2 - Option.none.getD (0 : Int)).toNat (List.drop (Option.none.getD (0 : Int)).toNat v0)).length ≤     (4294967296 : Nat)) then
                bif Decidable.decide   ((List.take (v2 - Option.none.getD (0 : Int)).toNat (List.drop (Option.none.getD (0 : Int)).toNat v0)).length +       [v1].length ≤     (4294967296 : Nat)) then
                  bif Decidable.decide ((0 : Int) ≤ (Option.some v2).getD (0 : Int)) then
                    bif Decidable.decide ((Option.some v2).getD (0 : Int) ≤ (↑v0.length : Int)) then
                      bif Decidable.decide   ((List.take (v2 - Option.none.getD (0 : Int)).toNat (List.drop (Option.none.getD (0 : Int)).toNat v0) ++           [v1]).length +       (List.drop ((Option.some v2).getD (0 : Int)).toNat v0).length ≤     (4294967296 : Nat)) then
                        ret (List.take (v2 - Option.none.getD (0 : Int)).toNat (List.drop (Option.none.getD (0 : Int)).toNat v0) ++ [v1] ++   List.drop ((Option.some v2).getD (0 : Int)).toNat v0)
                      else
                        none
                    else
                      none
                  else
                    none
                else
                  none
              else
                none
            else
              none
          else
            none
      else
        none
    else
      none
  else
    bif Decidable.decide (Option.none.getD (0 : Int) ≤ v2) then
      bif Decidable.decide (v2 ≤ (↑v0.length : Int)) then
        bif Decidable.decide   ((List.take (v2 - Option.none.getD (0 : Int)).toNat (List.drop (Option.none.getD (0 : Int)).toNat v0)).length ≤     (4294967296 : Nat)) then
          bif Decidable.decide   ((List.take (v2 - Option.none.getD (0 : Int)).toNat (List.drop (Option.none.getD (0 : Int)).toNat v0)).length +       [v1].length ≤     (4294967296 : Nat)) then
            bif Decidable.decide ((0 : Int) ≤ (Option.some v2).getD (0 : Int)) then
              bif Decidable.decide ((Option.some v2).getD (0 : Int) ≤ (↑v0.length : Int)) then
                bif Decidable.decide   ((List.take (v2 - Option.none.getD (0 : Int)).toNat (List.drop (Option.none.getD (0 : Int)).toNat v0) ++           [v1]).length +       (List.drop ((Option.some v2).getD (0 : Int)).toNat v0).length ≤     (4294967296 : Nat)) then
                  ret (List.take (v2 - Option.none.getD (0 : Int)).toNat (List.drop (Option.none.getD (0 : Int)).toNat v0) ++ [v1] ++   List.drop ((Option.some v2).getD (0 : Int)).toNat v0)
                else
                  none
              else
                none
            else
              none
          else
            none
        else
          none
      else
        none
    else
      none
theorem spec_l7Put.k (v0 : List Int) (v1 : Int) : topL E (callT E tab) 86 Try.f86 (spec_l7Put.c v0 v1) = spec_l7Put.t (fun b => some (spec_l7Put.mk b)) spec_l7Put.q4 v0 v1 := by kernel_rfl
theorem spec_l7Put.k4 (v0 : List Int) (v1 : Int) (v2 : Int) : roundL E (callT E tab) 86 Try.f86 2 [.r, .r, .r, .l, .b] (vc (.d .fro (.sl (.int .i64)) v0) :: vc (iL v1) :: nn 3 (vc (iL v2) :: nn 33 ([]))) = spec_l7Put.t4 (fun b => some (spec_l7Put.mk b)) spec_l7Put.q4 v0 v1 v2 := by kernel_rfl
theorem spec_l7Put.s (v0 : List Int) (v1 : Int) : Sub spec_l7Put.mk (spec_l7Put.t some spec_l7Put.l4 v0 v1) (spec_l7Put.t (fun b => some (spec_l7Put.mk b)) spec_l7Put.q4 v0 v1) := by
  unfold spec_l7Put.t
  repeat' first | exact Sub.ret | exact Sub.none | exact Sub.loop | apply Sub.cond | (apply Sub.bind; intro _)
theorem spec_l7Put.eq (v0 : List Int) (v1 : Int) {b : (List Int)} (h : spec_l7Put.t some spec_l7Put.l4 v0 v1 = some b) : spec_l7Put v0 v1 = some b := tOf_intro spec_l7Put.un (fun _ => by kernel_rfl) (vlim_fn (callT_le E tab) rfl rfl rfl ((spec_l7Put.k v0 v1).trans (spec_l7Put.s v0 v1 b h)))
theorem spec_l7Put.s4 (v0 : List Int) (v1 : Int) (v2 : Int) : Sub spec_l7Put.mk (spec_l7Put.t4 some spec_l7Put.l4 v0 v1 v2) (spec_l7Put.t4 (fun b => some (spec_l7Put.mk b)) spec_l7Put.q4 v0 v1 v2) := by
  unfold spec_l7Put.t4
  repeat' first | exact Sub.ret | exact Sub.none | exact Sub.loop | apply Sub.cond | (apply Sub.bind; intro _)
theorem spec_l7Put.eq4 (v0 : List Int) (v1 : Int) (v2 : Int) {b : (List Int)} (h : spec_l7Put.t4 some spec_l7Put.l4 v0 v1 v2 = some b) : spec_l7Put.l4 v0 v1 v2 = some b := tOf_intro spec_l7Put.un (fun _ => by kernel_rfl) (loopAtL_step ((spec_l7Put.k4 v0 v1 v2).trans (spec_l7Put.s4 v0 v1 v2 b h)))
noncomputable def impl_SerialRun.q5 (v0 : List (Int × Int × Int)) (v1 : List (Int × Int × Int)) (v2 : List Int) (v3 : Int) (v4 : Int) : Option R := loopAtL E (callT E tab) 36 Try.f36 2 [.r, .r, .r, .l, .r, .b] (vc (.d .fro (.sl (.pair (.int .i64) (.pair (.int .i64) (.int .i64)))) v0) :: nn 5 (vc (.d .deep (.sl (.pair (.int .i64) (.pair (.int .i64) (.int .i64)))) v1) :: nn 26 (vc (.d .fro (.sl (.int .i64)) v2) :: vc (iL v3) :: vc (iL v4) :: nn 10 ([]))))
noncomputable def impl_SerialRun.l5 (v0 : List (Int × Int × Int)) (v1 : List (Int × Int × Int)) (v2 : List Int) (v3 : Int) (v4 : Int) : Option ((List (Int × Int × Int)) × Bool) := tOf impl_SerialRun.mk (impl_SerialRun.q5 v0 v1 v2 v3 v4)
noncomputable def impl_SerialRun.t {γ : Type} (ret : ((List (Int × Int × Int)) × Bool) → Option γ) (lp5 : (List (Int × Int × Int)) → (List (Int × Int × Int)) → (List Int) → Int → Int → Option γ) (v0 : List (Int × Int × Int)) (v1 : List Int) : Option γ :=
  (impl_GoodSteps (v0)).bind fun (r0 : Bool) =>
  bif !r0 then
    ret ([], Bool.false)
  else
    (impl_areAll_int_impl_isTxn (v1)).bind fun (r1 : Bool) =>
    bif !r1 then
      ret ([], Bool.false)
    else
      (impl_setOf (v1)).bind fun (r2 : Int) =>
      (impl_txnsOf (v0)).bind fun (r3 : Int) =>
      bif r2 != r3 then
        ret ([], Bool.false)
      else
        (impl_setOf (v1)).bind fun (r4 : Int) =>
        (impl_set_list (r4)).bind fun (r5 : (List Int)) =>
        bif (↑v1.length : Int) != (↑r5.length : Int) then
          ret ([], Bool.false)
        else
          lp5 (v0) ([]) (v1) ((↑v1.length : Int)) ((0 : Int))
noncomputable def impl_SerialRun.t5 {γ : Type} (ret : ((List (Int × Int × Int)) × Bool) → Option γ) (lp5 : (List (Int × Int × Int)) → (List (Int × Int × Int)) → (List Int) → Int → Int → Option γ) (v0 : List (Int × Int × Int)) (v1 : List (Int × Int × Int)) (v2 : List Int) (v3 : Int) (v4 : Int) : Option γ :=
  bif Decidable.decide (v4 < v3) then
    bif Decidable.decide ((0 : Int) ≤ v4) then
      bif Decidable.decide (v4.toNat < v2.length) then
        (impl_stepsOf (v0) (v2.getD v4.toNat (0 : Int))).bind fun (r6 : (List (Int × Int × Int))) =>
        bif Decidable.decide (v1.length + r6.length ≤ (4294967296 : Nat)) then
          lp5 (v0) (v1 ++ r6) (v2) (v3) (Go.IntKind.i64.wrap (v4 + (1 : Int)))
        else
          none
      else
        none
    else
      none
  else
    ret (v1, Bool.true)
theorem impl_SerialRun.k (v0 : List (Int × Int × Int)) (v1 : List Int) : topL E (callT E tab) 36 Try.f36 (impl_SerialRun.c v0 v1) = impl_SerialRun.t (fun b => some (impl_SerialRun.mk b)) impl_SerialRun.q5 v0 v1 := by kernel_rfl
theorem impl_SerialRun.k5 (v0 : List (Int × Int × Int)) (v1 : List (Int × Int × Int)) (v2 : List Int) (v3 : Int) (v4 : Int) : roundL E (callT E tab) 36 Try.f36 2 [.r, .r, .r, .l, .r, .b] (vc (.d .fro (.sl (.pair (.int .i64) (.pair (.int .i64) (.int .i64)))) v0) :: nn 5 (vc (.d .deep (.sl (.pair (.int .i64) (.pair (.int .i64) (.int .i64)))) v1) :: nn 26 (vc (.d .fro (.sl (.int .i64)) v2) :: vc (iL v3) :: vc (iL v4) :: nn 10 ([])))) = impl_SerialRun.t5 (fun b => some (impl_SerialRun.mk b)) impl_SerialRun.q5 v0 v1 v2 v3 v4 := by kernel_rfl
theorem impl_SerialRun.s (v0 : List (Int × Int × Int)) (v1 : List Int) : Sub impl_SerialRun.mk (impl_SerialRun.t some impl_SerialRun.l5 v0 v1) (impl_SerialRun.t (fun b => some (impl_SerialRun.mk b)) impl_SerialRun.q5 v0 v1) := by
  unfold impl_SerialRun.t
  repeat' first | exact Sub.ret | exact Sub.none | exact Sub.loop | apply Sub.cond | (apply Sub.bind; intro _)
theorem impl_SerialRun.eq (v0 : List (Int × Int × Int)) (v1 : List Int) {b : (List (Int × Int × Int)) × Bool} (h : impl_SerialRun.t some impl_SerialRun.l5 v0 v1 = some b) : impl_SerialRun v0 v1 = some b := tOf_intro impl_SerialRun.un (fun _ => by kernel_rfl) (vlim_fn (callT_le E tab) rfl rfl rfl ((impl_SerialRun.k v0 v1).trans (impl_SerialRun.s v0 v1 b h)))
theorem impl_SerialRun.s5 (v0 : List (Int × Int × Int)) (v1 : List (Int × Int × Int)) (v2 : List Int) (v3 : Int) (v4 : Int) : Sub impl_SerialRun.mk (impl_SerialRun.t5 some impl_SerialRun.l5 v0 v1 v2 v3 v4) (impl_SerialRun.t5 (fun b => some (impl_SerialRun.mk b)) impl_SerialRun.q5 v0 v1 v2 v3 v4) := by
  unfold impl_SerialRun.t5
  repeat' first | exact Sub.ret | exact Sub.none | exact Sub.loop | apply Sub.cond | (apply Sub.bind; intro _)
theorem impl_SerialRun.eq5 (v0 : List (Int × Int × Int)) (v1 : List (Int × Int × Int)) (v2 : List Int) (v3 : Int) (v4 : Int) {b : (List (Int × Int × Int)) × Bool} (h : impl_SerialRun.t5 some impl_SerialRun.l5 v0 v1 v2 v3 v4 = some b) : impl_SerialRun.l5 v0 v1 v2 v3 v4 = some b := tOf_intro impl_SerialRun.un (fun _ => by kernel_rfl) (loopAtL_step ((impl_SerialRun.k5 v0 v1 v2 v3 v4).trans (impl_SerialRun.s5 v0 v1 v2 v3 v4 b h)))
noncomputable def impl_GoodSteps.t {γ : Type} (ret : (Bool) → Option γ) (v0 : List (Int × Int × Int)) : Option γ :=
  bif Decidable.decide ((↑v0.length : Int) ≤ (40 : Int)) then
    (impl_areAll_impl_Step_impl_isStep (v0)).bind fun (r0 : Bool) =>
    ret (r0)
  else
    ret (Bool.false)
theorem impl_GoodSteps.k (v0 : List (Int × Int × Int)) : topL E (callT E tab) 53 Try.f53 (impl_GoodSteps.c v0) = impl_GoodSteps.t (fun b => some (impl_GoodSteps.mk b)) v0 := by kernel_rfl
theorem impl_GoodSteps.s (v0 : List (Int × Int × Int)) : Sub impl_GoodSteps.mk (impl_GoodSteps.t some v0) (impl_GoodSteps.t (fun b => some (impl_GoodSteps.mk b)) v0) := by
  unfold impl_GoodSteps.t
  repeat' first | exact Sub.ret | exact Sub.none | exact Sub.loop | apply Sub.cond | (apply Sub.bind; intro _)
theorem impl_GoodSteps.eq (v0 : List (Int × Int × Int)) {b : Bool} (h : impl_GoodSteps.t some v0 = some b) : impl_GoodSteps v0 = some b := tOf_intro impl_GoodSteps.un (fun _ => by kernel_rfl) (vlim_fn (callT_le E tab) rfl rfl rfl ((impl_GoodSteps.k v0).trans (impl_GoodSteps.s v0 b h)))
noncomputable def impl_areAll_impl_Step_impl_isStep.t {γ : Type} (ret : (Bool) → Option γ) (v0 : List (Int × Int × Int)) : Option γ :=
  (slices_ContainsFunc_impl_Step_impl_Step_impl_areAll_impl_Step_1_impl_isStep (v0)).bind fun (r0 : Bool) =>
  ret (!r0)
theorem impl_areAll_impl_Step_impl_isStep.k (v0 : List (Int × Int × Int)) : topL E (callT E tab) 87 Try.f87 (impl_areAll_impl_Step_impl_isStep.c v0) = impl_areAll_impl_Step_impl_isStep.t (fun b => some (impl_areAll_impl_Step_impl_isStep.mk b)) v0 := by kernel_rfl
theorem impl_areAll_impl_Step_impl_isStep.s (v0 : List (Int × Int × Int)) : Sub impl_areAll_impl_Step_impl_isStep.mk (impl_areAll_impl_Step_impl_isStep.t some v0) (impl_areAll_impl_Step_impl_isStep.t (fun b => some (impl_areAll_impl_Step_impl_isStep.mk b)) v0) := by
  unfold impl_areAll_impl_Step_impl_isStep.t
  repeat' first | exact Sub.ret | exact Sub.none | exact Sub.loop | apply Sub.cond | (apply Sub.bind; intro _)
theorem impl_areAll_impl_Step_impl_isStep.eq (v0 : List (Int × Int × Int)) {b : Bool} (h : impl_areAll_impl_Step_impl_isStep.t some v0 = some b) : impl_areAll_impl_Step_impl_isStep v0 = some b := tOf_intro impl_areAll_impl_Step_impl_isStep.un (fun _ => by kernel_rfl) (vlim_fn (callT_le E tab) rfl rfl rfl ((impl_areAll_impl_Step_impl_isStep.k v0).trans (impl_areAll_impl_Step_impl_isStep.s v0 b h)))
noncomputable def slices_ContainsFunc_impl_Step_impl_Step_impl_areAll_impl_Step_1_impl_isStep.t {γ : Type} (ret : (Bool) → Option γ) (v0 : List (Int × Int × Int)) : Option γ :=
  (slices_IndexFunc_impl_Step_impl_Step_impl_areAll_impl_Step_1_impl_isStep (v0)).bind fun (r0 : Int) =>
  ret (Decidable.decide (r0 ≥ (0 : Int)))
theorem slices_ContainsFunc_impl_Step_impl_Step_impl_areAll_impl_Step_1_impl_isStep.k (v0 : List (Int × Int × Int)) : topL E (callT E tab) 105 Try.f105 (slices_ContainsFunc_impl_Step_impl_Step_impl_areAll_impl_Step_1_impl_isStep.c v0) = slices_ContainsFunc_impl_Step_impl_Step_impl_areAll_impl_Step_1_impl_isStep.t (fun b => some (slices_ContainsFunc_impl_Step_impl_Step_impl_areAll_impl_Step_1_impl_isStep.mk b)) v0 := by kernel_rfl
theorem slices_ContainsFunc_impl_Step_impl_Step_impl_areAll_impl_Step_1_impl_isStep.s (v0 : List (Int × Int × Int)) : Sub slices_ContainsFunc_impl_Step_impl_Step_impl_areAll_impl_Step_1_impl_isStep.mk (slices_ContainsFunc_impl_Step_impl_Step_impl_areAll_impl_Step_1_impl_isStep.t some v0) (slices_ContainsFunc_impl_Step_impl_Step_impl_areAll_impl_Step_1_impl_isStep.t (fun b => some (slices_ContainsFunc_impl_Step_impl_Step_impl_areAll_impl_Step_1_impl_isStep.mk b)) v0) := by
  unfold slices_ContainsFunc_impl_Step_impl_Step_impl_areAll_impl_Step_1_impl_isStep.t
  repeat' first | exact Sub.ret | exact Sub.none | exact Sub.loop | apply Sub.cond | (apply Sub.bind; intro _)
theorem slices_ContainsFunc_impl_Step_impl_Step_impl_areAll_impl_Step_1_impl_isStep.eq (v0 : List (Int × Int × Int)) {b : Bool} (h : slices_ContainsFunc_impl_Step_impl_Step_impl_areAll_impl_Step_1_impl_isStep.t some v0 = some b) : slices_ContainsFunc_impl_Step_impl_Step_impl_areAll_impl_Step_1_impl_isStep v0 = some b := tOf_intro slices_ContainsFunc_impl_Step_impl_Step_impl_areAll_impl_Step_1_impl_isStep.un (fun _ => by kernel_rfl) (vlim_fn (callT_le E tab) rfl rfl rfl ((slices_ContainsFunc_impl_Step_impl_Step_impl_areAll_impl_Step_1_impl_isStep.k v0).trans (slices_ContainsFunc_impl_Step_impl_Step_impl_areAll_impl_Step_1_impl_isStep.s v0 b h)))
noncomputable def slices_IndexFunc_impl_Step_impl_Step_impl_areAll_impl_Step_1_impl_isStep.q2 (v0 : List (Int × Int × Int)) (v1 : Int) (v2 : Int) : Option R := loopAtL E (callT E tab) 111 Try.f111 2 [.r, .l, .r, .b] (vc (.d .fro (.sl (.pair (.int .i64) (.pair (.int .i64) (.int .i64)))) v0) :: vc (.fn 106 [.rp [.fn 88 []] 0]) :: nn 5 (vc (iL v1) :: vc (iL v2) :: nn 10 ([])))
noncomputable def slices_IndexFunc_impl_Step_impl_Step_impl_areAll_impl_Step_1_impl_isStep.l2 (v0 : List (Int × Int × Int)) (v1 : Int) (v2 : Int) : Option (Int) := tOf slices_IndexFunc_impl_Step_impl_Step_impl_areAll_impl_Step_1_impl_isStep.mk (slices_IndexFunc_impl_Step_impl_Step_impl_areAll_impl_Step_1_impl_isStep.q2 v0 v1 v2)
noncomputable def slices_IndexFunc_impl_Step_impl_Step_impl_areAll_impl_Step_1_impl_isStep.t {γ : Type} (ret : (Int) → Option γ) (lp2 : (List (Int × Int × Int)) → Int → Int → Option γ) (v0 : List (Int × Int × Int)) : Option γ :=
  lp2 (v0) ((↑v0.length : Int)) ((0 : Int))
noncomputable def slices_IndexFunc_impl_Step_impl_Step_impl_areAll_impl_Step_1_impl_isStep.t2 {γ : Type} (ret : (Int) → Option γ) (lp2 : (List (Int × Int × Int)) → Int → Int → Option γ) (v0 : List (Int × Int × Int)) (v1 : Int) (v2 : Int) : Option γ :=
  bif Decidable.decide (v2 < v1) then
    bif Decidable.decide ((0 : Int) ≤ v2) then
      bif Decidable.decide (v2.toNat < v0.length) then
        (impl_areAll_impl_Step_1_impl_isStep ((v0.getD v2.toNat ((0 : Int), (0 : Int), (0 : Int))).fst) ((v0.getD v2.toNat ((0 : Int), (0 : Int), (0 : Int))).snd.fst) ((v0.getD v2.toNat ((0 : Int), (0 : Int), (0 : Int))).snd.snd)).bind fun (r0 : Bool) =>
        bif r0 then
          ret (v2)
        else
          lp2 (v0) (v1) (Go.IntKind.i64.wrap (v2 + (1 : Int)))
      else
        none
    else
      none
  else
    ret ((-1 : Int))
theorem slices_IndexFunc_impl_Step_impl_Step_impl_areAll_impl_Step_1_impl_isStep.k (v0 : List (Int × Int × Int)) : topL E (callT E tab) 111 Try.f111 (slices_IndexFunc_impl_Step_impl_Step_impl_areAll_impl_Step_1_impl_isStep.c v0) = slices_IndexFunc_impl_Step_impl_Step_impl_areAll_impl_Step_1_impl_isStep.t (fun b => some (slices_IndexFunc_impl_Step_impl_Step_impl_areAll_impl_Step_1_impl_isStep.mk b)) slices_IndexFunc_impl_Step_impl_Step_impl_areAll_impl_Step_1_impl_isStep.q2 v0 := by kernel_rfl
theorem slices_IndexFunc_impl_Step_impl_Step_impl_areAll_impl_Step_1_impl_isStep.k2 (v0 : List (Int × Int × Int)) (v1 : Int) (v2 : Int) : roundL E (callT E tab) 111 Try.f111 2 [.r, .l, .r, .b] (vc (.d .fro (.sl (.pair (.int .i64) (.pair (.int .i64) (.int .i64)))) v0) :: vc (.fn 106 [.rp [.fn 88 []] 0]) :: nn 5 (vc (iL v1) :: vc (iL v2) :: nn 10 ([]))) = slices_IndexFunc_impl_Step_impl_Step_impl_areAll_impl_Step_1_impl_isStep.t2 (fun b => some (slices_IndexFunc_impl_Step_impl_Step_impl_areAll_impl_Step_1_impl_isStep.mk b)) slices_IndexFunc_impl_Step_impl_Step_impl_areAll_impl_Step_1_impl_isStep.q2 v0 v1 v2 := by kernel_rfl
theorem slices_IndexFunc_impl_Step_impl_Step_impl_areAll_impl_Step_1_impl_isStep.s (v0 : List (Int × Int × Int)) : Sub slices_IndexFunc_impl_Step_impl_Step_impl_areAll_impl_Step_1_impl_isStep.mk (slices_IndexFunc_impl_Step_impl_Step_impl_areAll_impl_Step_1_impl_isStep.t some slices_IndexFunc_impl_Step_impl_Step_impl_areAll_impl_Step_1_impl_isStep.l2 v0) (slices_IndexFunc_impl_Step_impl_Step_impl_areAll_impl_Step_1_impl_isStep.t (fun b => some (slices_IndexFunc_impl_Step_impl_Step_impl_areAll_impl_Step_1_impl_isStep.mk b)) slices_IndexFunc_impl_Step_impl_Step_impl_areAll_impl_Step_1_impl_isStep.q2 v0) := by
  unfold slices_IndexFunc_impl_Step_impl_Step_impl_areAll_impl_Step_1_impl_isStep.t
  repeat' first | exact Sub.ret | exact Sub.none | exact Sub.loop | apply Sub.cond | (apply Sub.bind; intro _)
theorem slices_IndexFunc_impl_Step_impl_Step_impl_areAll_impl_Step_1_impl_isStep.eq (v0 : List (Int × Int × Int)) {b : Int} (h : slices_IndexFunc_impl_Step_impl_Step_impl_areAll_impl_Step_1_impl_isStep.t some slices_IndexFunc_impl_Step_impl_Step_impl_areAll_impl_Step_1_impl_isStep.l2 v0 = some b) : slices_IndexFunc_impl_Step_impl_Step_impl_areAll_impl_Step_1_impl_isStep v0 = some b := tOf_intro slices_IndexFunc_impl_Step_impl_Step_impl_areAll_impl_Step_1_impl_isStep.un (fun _ => by kernel_rfl) (vlim_fn (callT_le E tab) rfl rfl rfl ((slices_IndexFunc_impl_Step_impl_Step_impl_areAll_impl_Step_1_impl_isStep.k v0).trans (slices_IndexFunc_impl_Step_impl_Step_impl_areAll_impl_Step_1_impl_isStep.s v0 b h)))
theorem slices_IndexFunc_impl_Step_impl_Step_impl_areAll_impl_Step_1_impl_isStep.s2 (v0 : List (Int × Int × Int)) (v1 : Int) (v2 : Int) : Sub slices_IndexFunc_impl_Step_impl_Step_impl_areAll_impl_Step_1_impl_isStep.mk (slices_IndexFunc_impl_Step_impl_Step_impl_areAll_impl_Step_1_impl_isStep.t2 some slices_IndexFunc_impl_Step_impl_Step_impl_areAll_impl_Step_1_impl_isStep.l2 v0 v1 v2) (slices_IndexFunc_impl_Step_impl_Step_impl_areAll_impl_Step_1_impl_isStep.t2 (fun b => some (slices_IndexFunc_impl_Step_impl_Step_impl_areAll_impl_Step_1_impl_isStep.mk b)) slices_IndexFunc_impl_Step_impl_Step_impl_areAll_impl_Step_1_impl_isStep.q2 v0 v1 v2) := by
  unfold slices_IndexFunc_impl_Step_impl_Step_impl_areAll_impl_Step_1_impl_isStep.t2
  repeat' first | exact Sub.ret | exact Sub.none | exact Sub.loop | apply Sub.cond | (apply Sub.bind; intro _)
theorem slices_IndexFunc_impl_Step_impl_Step_impl_areAll_impl_Step_1_impl_isStep.eq2 (v0 : List (Int × Int × Int)) (v1 : Int) (v2 : Int) {b : Int} (h : slices_IndexFunc_impl_Step_impl_Step_impl_areAll_impl_Step_1_impl_isStep.t2 some slices_IndexFunc_impl_Step_impl_Step_impl_areAll_impl_Step_1_impl_isStep.l2 v0 v1 v2 = some b) : slices_IndexFunc_impl_Step_impl_Step_impl_areAll_impl_Step_1_impl_isStep.l2 v0 v1 v2 = some b := tOf_intro slices_IndexFunc_impl_Step_impl_Step_impl_areAll_impl_Step_1_impl_isStep.un (fun _ => by kernel_rfl) (loopAtL_step ((slices_IndexFunc_impl_Step_impl_Step_impl_areAll_impl_Step_1_impl_isStep.k2 v0 v1 v2).trans (slices_IndexFunc_impl_Step_impl_Step_impl_areAll_impl_Step_1_impl_isStep.s2 v0 v1 v2 b h)))
noncomputable def impl_areAll_impl_Step_1_impl_isStep.t {γ : Type} (ret : (Bool) → Option γ) (v0 : Int) (v1 : Int) (v2 : Int) : Option γ :=
  (impl_isStep (v0) (v1) (v2)).bind fun (r0 : Bool) =>
  ret (!r0)
theorem impl_areAll_impl_Step_1_impl_isStep.k (v0 : Int) (v1 : Int) (v2 : Int) : topL E (callT E tab) 106 Try.f106 (impl_areAll_impl_Step_1_impl_isStep.c v0 v1 v2) = impl_areAll_impl_Step_1_impl_isStep.t (fun b => some (impl_areAll_impl_Step_1_impl_isStep.mk b)) v0 v1 v2 := by kernel_rfl
theorem impl_areAll_impl_Step_1_impl_isStep.s (v0 : Int) (v1 : Int) (v2 : Int) : Sub impl_areAll_impl_Step_1_impl_isStep.mk (impl_areAll_impl_Step_1_impl_isStep.t some v0 v1 v2) (impl_areAll_impl_Step_1_impl_isStep.t (fun b => some (impl_areAll_impl_Step_1_impl_isStep.mk b)) v0 v1 v2) := by
  unfold impl_areAll_impl_Step_1_impl_isStep.t
  repeat' first | exact Sub.ret | exact Sub.none | exact Sub.loop | apply Sub.cond | (apply Sub.bind; intro _)
theorem impl_areAll_impl_Step_1_impl_isStep.eq (v0 : Int) (v1 : Int) (v2 : Int) {b : Bool} (h : impl_areAll_impl_Step_1_impl_isStep.t some v0 v1 v2 = some b) : impl_areAll_impl_Step_1_impl_isStep v0 v1 v2 = some b := tOf_intro impl_areAll_impl_Step_1_impl_isStep.un (fun _ => by kernel_rfl) (vlim_fn (callT_le E tab) rfl rfl rfl ((impl_areAll_impl_Step_1_impl_isStep.k v0 v1 v2).trans (impl_areAll_impl_Step_1_impl_isStep.s v0 v1 v2 b h)))
noncomputable def impl_isStep.t {γ : Type} (ret : (Bool) → Option γ) (v0 : Int) (v1 : Int) (v2 : Int) : Option γ :=
  (impl_isTxn (v0)).bind fun (r0 : Bool) =>
  bif r0 then
    (impl_within (v1) ((1 : Int)) ((2 : Int))).bind fun (r1 : Bool) =>
    bif r1 then
      (impl_within (v2) ((0 : Int)) ((3 : Int))).bind fun (r2 : Bool) =>
      ret (r2)
    else
      ret (Bool.false)
  else
    ret (Bool.false)
theorem impl_isStep.k (v0 : Int) (v1 : Int) (v2 : Int) : topL E (callT E tab) 88 Try.f88 (impl_isStep.c v0 v1 v2) = impl_isStep.t (fun b => some (impl_isStep.mk b)) v0 v1 v2 := by kernel_rfl
theorem impl_isStep.s (v0 : Int) (v1 : Int) (v2 : Int) : Sub impl_isStep.mk (impl_isStep.t some v0 v1 v2) (impl_isStep.t (fun b => some (impl_isStep.mk b)) v0 v1 v2) := by
  unfold impl_isStep.t
  repeat' first | exact Sub.ret | exact Sub.none | exact Sub.loop | apply Sub.cond | (apply Sub.bind; intro _)
theorem impl_isStep.eq (v0 : Int) (v1 : Int) (v2 : Int) {b : Bool} (h : impl_isStep.t some v0 v1 v2 = some b) : impl_isStep v0 v1 v2 = some b := tOf_intro impl_isStep.un (fun _ => by kernel_rfl) (vlim_fn (callT_le E tab) rfl rfl rfl ((impl_isStep.k v0 v1 v2).trans (impl_isStep.s v0 v1 v2 b h)))
noncomputable def impl_isTxn.t {γ : Type} (ret : (Bool) → Option γ) (v0 : Int) : Option γ :=
  (impl_within (v0) ((0 : Int)) ((5 : Int))).bind fun (r0 : Bool) =>
  ret (r0)
theorem impl_isTxn.k (v0 : Int) : topL E (callT E tab) 75 Try.f75 (impl_isTxn.c v0) = impl_isTxn.t (fun b => some (impl_isTxn.mk b)) v0 := by kernel_rfl
theorem impl_isTxn.s (v0 : Int) : Sub impl_isTxn.mk (impl_isTxn.t some v0) (impl_isTxn.t (fun b => some (impl_isTxn.mk b)) v0) := by
  unfold impl_isTxn.t
  repeat' first | exact Sub.ret | exact Sub.none | exact Sub.loop | apply Sub.cond | (apply Sub.bind; intro _)
theorem impl_isTxn.eq (v0 : Int) {b : Bool} (h : impl_isTxn.t some v0 = some b) : impl_isTxn v0 = some b := tOf_intro impl_isTxn.un (fun _ => by kernel_rfl) (vlim_fn (callT_le E tab) rfl rfl rfl ((impl_isTxn.k v0).trans (impl_isTxn.s v0 b h)))
noncomputable def impl_within.t {γ : Type} (ret : (Bool) → Option γ) (v0 : Int) (v1 : Int) (v2 : Int) : Option γ :=
  bif Decidable.decide (v1 ≤ v0) then
    ret (Decidable.decide (v0 ≤ v2))
  else
    ret (Bool.false)
theorem impl_within.k (v0 : Int) (v1 : Int) (v2 : Int) : topL E (callT E tab) 81 Try.f81 (impl_within.c v0 v1 v2) = impl_within.t (fun b => some (impl_within.mk b)) v0 v1 v2 := by kernel_rfl
theorem impl_within.s (v0 : Int) (v1 : Int) (v2 : Int) : Sub impl_within.mk (impl_within.t some v0 v1 v2) (impl_within.t (fun b => some (impl_within.mk b)) v0 v1 v2) := by
  unfold impl_within.t
  repeat' first | exact Sub.ret | exact Sub.none | exact Sub.loop | apply Sub.cond | (apply Sub.bind; intro _)
theorem impl_within.eq (v0 : Int) (v1 : Int) (v2 : Int) {b : Bool} (h : impl_within.t some v0 v1 v2 = some b) : impl_within v0 v1 v2 = some b := tOf_intro impl_within.un (fun _ => by kernel_rfl) (vlim_fn (callT_le E tab) rfl rfl rfl ((impl_within.k v0 v1 v2).trans (impl_within.s v0 v1 v2 b h)))
end GoV

/- Equations of the program's functions (printed by wip/tools/emit.py). -/
namespace GoV
open Go Go.Proofs
set_option maxRecDepth 100000

noncomputable def impl_areAll_int_impl_isTxn.t {γ : Type} (ret : (Bool) → Option γ) (v0 : List Int) : Option γ :=
  (slices_ContainsFunc_int_int_impl_areAll_int_1_impl_isTxn (v0)).bind fun (r0 : Bool) =>
  ret (!r0)
theorem impl_areAll_int_impl_isTxn.k (v0 : List Int) : topL E (callT E tab) 63 Try.f63 (impl_areAll_int_impl_isTxn.c v0) = impl_areAll_int_impl_isTxn.t (fun b => some (impl_areAll_int_impl_isTxn.mk b)) v0 := by kernel_rfl
theorem impl_areAll_int_impl_isTxn.s (v0 : List Int) : Sub impl_areAll_int_impl_isTxn.mk (impl_areAll_int_impl_isTxn.t some v0) (impl_areAll_int_impl_isTxn.t (fun b => some (impl_areAll_int_impl_isTxn.mk b)) v0) := by
  unfold impl_areAll_int_impl_isTxn.t
  repeat' first | exact Sub.ret | exact Sub.none | exact Sub.loop | apply Sub.cond | (apply Sub.bind; intro _)
theorem impl_areAll_int_impl_isTxn.eq (v0 : List Int) {b : Bool} (h : impl_areAll_int_impl_isTxn.t some v0 = some b) : impl_areAll_int_impl_isTxn v0 = some b := tOf_intro impl_areAll_int_impl_isTxn.un (fun _ => by kernel_rfl) (vlim_fn (callT_le E tab) rfl rfl rfl ((impl_areAll_int_impl_isTxn.k v0).trans (impl_areAll_int_impl_isTxn.s v0 b h)))
noncomputable def slices_ContainsFunc_int_int_impl_areAll_int_1_impl_isTxn.t {γ : Type} (ret : (Bool) → Option γ) (v0 : List Int) : Option γ :=
  (slices_IndexFunc_int_int_impl_areAll_int_1_impl_isTxn (v0)).bind fun (r0 : Int) =>
  ret (Decidable.decide (r0 ≥ (0 : Int)))
theorem slices_ContainsFunc_int_int_impl_areAll_int_1_impl_isTxn.k (v0 : List Int) : topL E (callT E tab) 94 Try.f94 (slices_ContainsFunc_int_int_impl_areAll_int_1_impl_isTxn.c v0) = slices_ContainsFunc_int_int_impl_areAll_int_1_impl_isTxn.t (fun b => some (slices_ContainsFunc_int_int_impl_areAll_int_1_impl_isTxn.mk b)) v0 := by kernel_rfl
theorem slices_ContainsFunc_int_int_impl_areAll_int_1_impl_isTxn.s (v0 : List Int) : Sub slices_ContainsFunc_int_int_impl_areAll_int_1_impl_isTxn.mk (slices_ContainsFunc_int_int_impl_areAll_int_1_impl_isTxn.t some v0) (slices_ContainsFunc_int_int_impl_areAll_int_1_impl_isTxn.t (fun b => some (slices_ContainsFunc_int_int_impl_areAll_int_1_impl_isTxn.mk b)) v0) := by
  unfold slices_ContainsFunc_int_int_impl_areAll_int_1_impl_isTxn.t
  repeat' first | exact Sub.ret | exact Sub.none | exact Sub.loop | apply Sub.cond | (apply Sub.bind; intro _)
theorem slices_ContainsFunc_int_int_impl_areAll_int_1_impl_isTxn.eq (v0 : List Int) {b : Bool} (h : slices_ContainsFunc_int_int_impl_areAll_int_1_impl_isTxn.t some v0 = some b) : slices_ContainsFunc_int_int_impl_areAll_int_1_impl_isTxn v0 = some b := tOf_intro slices_ContainsFunc_int_int_impl_areAll_int_1_impl_isTxn.un (fun _ => by kernel_rfl) (vlim_fn (callT_le E tab) rfl rfl rfl ((slices_ContainsFunc_int_int_impl_areAll_int_1_impl_isTxn.k v0).trans (slices_ContainsFunc_int_int_impl_areAll_int_1_impl_isTxn.s v0 b h)))
noncomputable def slices_IndexFunc_int_int_impl_areAll_int_1_impl_isTxn.q2 (v0 : List Int) (v1 : Int) (v2 : Int) : Option R := loopAtL E (callT E tab) 108 Try.f108 2 [.r, .l, .r, .b] (vc (.d .fro (.sl (.int .i64)) v0) :: vc (.fn 95 [.rp [.fn 75 []] 0]) :: nn 5 (vc (iL v1) :: vc (iL v2) :: nn 10 ([])))
noncomputable def slices_IndexFunc_int_int_impl_areAll_int_1_impl_isTxn.l2 (v0 : List Int) (v1 : Int) (v2 : Int) : Option (Int) := tOf slices_IndexFunc_int_int_impl_areAll_int_1_impl_isTxn.mk (slices_IndexFunc_int_int_impl_areAll_int_1_impl_isTxn.q2 v0 v1 v2)
noncomputable def slices_IndexFunc_int_int_impl_areAll_int_1_impl_isTxn.t {γ : Type} (ret : (Int) → Option γ) (lp2 : (List Int) → Int → Int → Option γ) (v0 : List Int) : Option γ :=
  lp2 (v0) ((↑v0.length : Int)) ((0 : Int))
noncomputable def slices_IndexFunc_int_int_impl_areAll_int_1_impl_isTxn.t2 {γ : Type} (ret : (Int) → Option γ) (lp2 : (List Int) → Int → Int → Option γ) (v0 : List Int) (v1 : Int) (v2 : Int) : Option γ :=
  bif Decidable.decide (v2 < v1) then
    bif Decidable.decide ((0 : Int) ≤ v2) then
      bif Decidable.decide (v2.toNat < v0.length) then
        (impl_areAll_int_1_impl_isTxn (v0.getD v2.toNat (0 : Int))).bind fun (r0 : Bool) =>
        bif r0 then
          ret (v2)
        else
          lp2 (v0) (v1) (Go.IntKind.i64.wrap (v2 + (1 : Int)))
      else
        none
    else
      none
  else
    ret ((-1 : Int))
theorem slices_IndexFunc_int_int_impl_areAll_int_1_impl_isTxn.k (v0 : List Int) : topL E (callT E tab) 108 Try.f108 (slices_IndexFunc_int_int_impl_areAll_int_1_impl_isTxn.c v0) = slices_IndexFunc_int_int_impl_areAll_int_1_impl_isTxn.t (fun b => some (slices_IndexFunc_int_int_impl_areAll_int_1_impl_isTxn.mk b)) slices_IndexFunc_int_int_impl_areAll_int_1_impl_isTxn.q2 v0 := by kernel_rfl
theorem slices_IndexFunc_int_int_impl_areAll_int_1_impl_isTxn.k2 (v0 : List Int) (v1 : Int) (v2 : Int) : roundL E (callT E tab) 108 Try.f108 2 [.r, .l, .r, .b] (vc (.d .fro (.sl (.int .i64)) v0) :: vc (.fn 95 [.rp [.fn 75 []] 0]) :: nn 5 (vc (iL v1) :: vc (iL v2) :: nn 10 ([]))) = slices_IndexFunc_int_int_impl_areAll_int_1_impl_isTxn.t2 (fun b => some (slices_IndexFunc_int_int_impl_areAll_int_1_impl_isTxn.mk b)) slices_IndexFunc_int_int_impl_areAll_int_1_impl_isTxn.q2 v0 v1 v2 := by kernel_rfl
theorem slices_IndexFunc_int_int_impl_areAll_int_1_impl_isTxn.s (v0 : List Int) : Sub slices_IndexFunc_int_int_impl_areAll_int_1_impl_isTxn.mk (slices_IndexFunc_int_int_impl_areAll_int_1_impl_isTxn.t some slices_IndexFunc_int_int_impl_areAll_int_1_impl_isTxn.l2 v0) (slices_IndexFunc_int_int_impl_areAll_int_1_impl_isTxn.t (fun b => some (slices_IndexFunc_int_int_impl_areAll_int_1_impl_isTxn.mk b)) slices_IndexFunc_int_int_impl_areAll_int_1_impl_isTxn.q2 v0) := by
  unfold slices_IndexFunc_int_int_impl_areAll_int_1_impl_isTxn.t
  repeat' first | exact Sub.ret | exact Sub.none | exact Sub.loop | apply Sub.cond | (apply Sub.bind; intro _)
theorem slices_IndexFunc_int_int_impl_areAll_int_1_impl_isTxn.eq (v0 : List Int) {b : Int} (h : slices_IndexFunc_int_int_impl_areAll_int_1_impl_isTxn.t some slices_IndexFunc_int_int_impl_areAll_int_1_impl_isTxn.l2 v0 = some b) : slices_IndexFunc_int_int_impl_areAll_int_1_impl_isTxn v0 = some b := tOf_intro slices_IndexFunc_int_int_impl_areAll_int_1_impl_isTxn.un (fun _ => by kernel_rfl) (vlim_fn (callT_le E tab) rfl rfl rfl ((slices_IndexFunc_int_int_impl_areAll_int_1_impl_isTxn.k v0).trans (slices_IndexFunc_int_int_impl_areAll_int_1_impl_isTxn.s v0 b h)))
theorem slices_IndexFunc_int_int_impl_areAll_int_1_impl_isTxn.s2 (v0 : List Int) (v1 : Int) (v2 : Int) : Sub slices_IndexFunc_int_int_impl_areAll_int_1_impl_isTxn.mk (slices_IndexFunc_int_int_impl_areAll_int_1_impl_isTxn.t2 some slices_IndexFunc_int_int_impl_areAll_int_1_impl_isTxn.l2 v0 v1 v2) (slices_IndexFunc_int_int_impl_areAll_int_1_impl_isTxn.t2 (fun b => some (slices_IndexFunc_int_int_impl_areAll_int_1_impl_isTxn.mk b)) slices_IndexFunc_int_int_impl_areAll_int_1_impl_isTxn.q2 v0 v1 v2) := by
  unfold slices_IndexFunc_int_int_impl_areAll_int_1_impl_isTxn.t2
  repeat' first | exact Sub.ret | exact Sub.none | exact Sub.loop | apply Sub.cond | (apply Sub.bind; intro _)
theorem slices_IndexFunc_int_int_impl_areAll_int_1_impl_isTxn.eq2 (v0 : List Int) (v1 : Int) (v2 : Int) {b : Int} (h : slices_IndexFunc_int_int_impl_areAll_int_1_impl_isTxn.t2 some slices_IndexFunc_int_int_impl_areAll_int_1_impl_isTxn.l2 v0 v1 v2 = some b) : slices_IndexFunc_int_int_impl_areAll_int_1_impl_isTxn.l2 v0 v1 v2 = some b := tOf_intro slices_IndexFunc_int_int_impl_areAll_int_1_impl_isTxn.un (fun _ => by kernel_rfl) (loopAtL_step ((slices_IndexFunc_int_int_impl_areAll_int_1_impl_isTxn.k2 v0 v1 v2).trans (slices_IndexFunc_int_int_impl_areAll_int_1_impl_isTxn.s2 v0 v1 v2 b h)))
noncomputable def impl_areAll_int_1_impl_isTxn.t {γ : Type} (ret : (Bool) → Option γ) (v0 : Int) : Option γ :=
  (impl_isTxn (v0)).bind fun (r0 : Bool) =>
  ret (!r0)
theorem impl_areAll_int_1_impl_isTxn.k (v0 : Int) : topL E (callT E tab) 95 Try.f95 (impl_areAll_int_1_impl_isTxn.c v0) = impl_areAll_int_1_impl_isTxn.t (fun b => some (impl_areAll_int_1_impl_isTxn.mk b)) v0 := by kernel_rfl
theorem impl_areAll_int_1_impl_isTxn.s (v0 : Int) : Sub impl_areAll_int_1_impl_isTxn.mk (impl_areAll_int_1_impl_isTxn.t some v0) (impl_areAll_int_1_impl_isTxn.t (fun b => some (impl_areAll_int_1_impl_isTxn.mk b)) v0) := by
  unfold impl_areAll_int_1_impl_isTxn.t
  repeat' first | exact Sub.ret | exact Sub.none | exact Sub.loop | apply Sub.cond | (apply Sub.bind; intro _)
theorem impl_areAll_int_1_impl_isTxn.eq (v0 : Int) {b : Bool} (h : impl_areAll_int_1_impl_isTxn.t some v0 = some b) : impl_areAll_int_1_impl_isTxn v0 = some b := tOf_intro impl_areAll_int_1_impl_isTxn.un (fun _ => by kernel_rfl) (vlim_fn (callT_le E tab) rfl rfl rfl ((impl_areAll_int_1_impl_isTxn.k v0).trans (impl_areAll_int_1_impl_isTxn.s v0 b h)))
noncomputable def impl_setOf.q3 (v0 : Int) (v1 : List Int) (v2 : Int) (v3 : Int) : Option R := loopAtL E (callT E tab) 49 Try.f49 1 [.r, .r, .l, .r, .b] (nn 3 (vc (iL v0) :: nn 2 (vc (.d .fro (.sl (.int .i64)) v1) :: vc (iL v2) :: vc (iL v3) :: nn 9 ([]))))
noncomputable def impl_setOf.l3 (v0 : Int) (v1 : List Int) (v2 : Int) (v3 : Int) : Option (Int) := tOf impl_setOf.mk (impl_setOf.q3 v0 v1 v2 v3)
noncomputable def impl_setOf.t {γ : Type} (ret : (Int) → Option γ) (lp3 : Int → (List Int) → Int → Int → Option γ) (v0 : List Int) : Option γ :=
  lp3 ((0 : Int)) (v0) ((↑v0.length : Int)) ((0 : Int))
noncomputable def impl_setOf.t3 {γ : Type} (ret : (Int) → Option γ) (lp3 : Int → (List Int) → Int → Int → Option γ) (v0 : Int) (v1 : List Int) (v2 : Int) (v3 : Int) : Option γ :=
  bif Decidable.decide (v3 < v2) then
    bif Decidable.decide ((0 : Int) ≤ v3) then
      bif Decidable.decide (v3.toNat < v1.length) then
        bif Decidable.decide ((0 : Int) ≤ v1.getD v3.toNat (0 : Int)) then
          lp3 (Go.IntKind.i64.wrap   (↑(BitVec.ofInt Go.IntKind.i64.bits v0 |||           BitVec.ofInt Go.IntKind.i64.bits             (Go.IntKind.i64.wrap               ((1 : Int) * (2 : Int) ^ Min.min (v1.getD v3.toNat (0 : Int)).toNat Go.IntKind.i64.bits))).toNat :     Int)) (v1) (v2) (Go.IntKind.i64.wrap (v3 + (1 : Int)))
        else
          none
      else
        none
    else
      none
  else
    ret (v0)
theorem impl_setOf.k (v0 : List Int) : topL E (callT E tab) 49 Try.f49 (impl_setOf.c v0) = impl_setOf.t (fun b => some (impl_setOf.mk b)) impl_setOf.q3 v0 := by kernel_rfl
theorem impl_setOf.k3 (v0 : Int) (v1 : List Int) (v2 : Int) (v3 : Int) : roundL E (callT E tab) 49 Try.f49 1 [.r, .r, .l, .r, .b] (nn 3 (vc (iL v0) :: nn 2 (vc (.d .fro (.sl (.int .i64)) v1) :: vc (iL v2) :: vc (iL v3) :: nn 9 ([])))) = impl_setOf.t3 (fun b => some (impl_setOf.mk b)) impl_setOf.q3 v0 v1 v2 v3 := by kernel_rfl
theorem impl_setOf.s (v0 : List Int) : Sub impl_setOf.mk (impl_setOf.t some impl_setOf.l3 v0) (impl_setOf.t (fun b => some (impl_setOf.mk b)) impl_setOf.q3 v0) := by
  unfold impl_setOf.t
  repeat' first | exact Sub.ret | exact Sub.none | exact Sub.loop | apply Sub.cond | (apply Sub.bind; intro _)
theorem impl_setOf.eq (v0 : List Int) {b : Int} (h : impl_setOf.t some impl_setOf.l3 v0 = some b) : impl_setOf v0 = some b := tOf_intro impl_setOf.un (fun _ => by kernel_rfl) (vlim_fn (callT_le E tab) rfl rfl rfl ((impl_setOf.k v0).trans (impl_setOf.s v0 b h)))
theorem impl_setOf.s3 (v0 : Int) (v1 : List Int) (v2 : Int) (v3 : Int) : Sub impl_setOf.mk (impl_setOf.t3 some impl_setOf.l3 v0 v1 v2 v3) (impl_setOf.t3 (fun b => some (impl_setOf.mk b)) impl_setOf.q3 v0 v1 v2 v3) := by
  unfold impl_setOf.t3
  repeat' first | exact Sub.ret | exact Sub.none | exact Sub.loop | apply Sub.cond | (apply Sub.bind; intro _)
theorem impl_setOf.eq3 (v0 : Int) (v1 : List Int) (v2 : Int) (v3 : Int) {b : Int} (h : impl_setOf.t3 some impl_setOf.l3 v0 v1 v2 v3 = some b) : impl_setOf.l3 v0 v1 v2 v3 = some b := tOf_intro impl_setOf.un (fun _ => by kernel_rfl) (loopAtL_step ((impl_setOf.k3 v0 v1 v2 v3).trans (impl_setOf.s3 v0 v1 v2 v3 b h)))
noncomputable def impl_txnsOf.q3 (v0 : Int) (v1 : List (Int × Int × Int)) (v2 : Int) (v3 : Int) : Option R := loopAtL E (callT E tab) 76 Try.f76 1 [.r, .r, .l, .r, .b] (nn 3 (vc (iL v0) :: nn 2 (vc (.d .fro (.sl (.pair (.int .i64) (.pair (.int .i64) (.int .i64)))) v1) :: vc (iL v2) :: vc (iL v3) :: nn 10 ([]))))
noncomputable def impl_txnsOf.l3 (v0 : Int) (v1 : List (Int × Int × Int)) (v2 : Int) (v3 : Int) : Option (Int) := tOf impl_txnsOf.mk (impl_txnsOf.q3 v0 v1 v2 v3)
noncomputable def impl_txnsOf.t {γ : Type} (ret : (Int) → Option γ) (lp3 : Int → (List (Int × Int × Int)) → Int → Int → Option γ) (v0 : List (Int × Int × Int)) : Option γ :=
  lp3 ((0 : Int)) (v0) ((↑v0.length : Int)) ((0 : Int))
noncomputable def impl_txnsOf.t3 {γ : Type} (ret : (Int) → Option γ) (lp3 : Int → (List (Int × Int × Int)) → Int → Int → Option γ) (v0 : Int) (v1 : List (Int × Int × Int)) (v2 : Int) (v3 : Int) : Option γ :=
  bif Decidable.decide (v3 < v2) then
    bif Decidable.decide ((0 : Int) ≤ v3) then
      bif Decidable.decide (v3.toNat < v1.length) then
        bif Decidable.decide ((0 : Int) ≤ (v1.getD v3.toNat ((0 : Int), (0 : Int), (0 : Int))).fst) then
          lp3 (Go.IntKind.i64.wrap   (↑(BitVec.ofInt Go.IntKind.i64.bits v0 |||           BitVec.ofInt Go.IntKind.i64.bits             (Go.IntKind.i64.wrap               ((1 : Int) *                 (2 : Int) ^                   Min.min (v1.getD v3.toNat ((0 : Int), (0 : Int), (0 : Int))).fst.toNat Go.IntKind.i64.bits))).toNat :     Int)) (v1) (v2) (Go.IntKind.i64.wrap (v3 + (1 : Int)))
        else
          none
      else
        none
    else
      none
  else
    ret (v0)
theorem impl_txnsOf.k (v0 : List (Int × Int × Int)) : topL E (callT E tab) 76 Try.f76 (impl_txnsOf.c v0) = impl_txnsOf.t (fun b => some (impl_txnsOf.mk b)) impl_txnsOf.q3 v0 := by kernel_rfl
theorem impl_txnsOf.k3 (v0 : Int) (v1 : List (Int × Int × Int)) (v2 : Int) (v3 : Int) : roundL E (callT E tab) 76 Try.f76 1 [.r, .r, .l, .r, .b] (nn 3 (vc (iL v0) :: nn 2 (vc (.d .fro (.sl (.pair (.int .i64) (.pair (.int .i64) (.int .i64)))) v1) :: vc (iL v2) :: vc (iL v3) :: nn 10 ([])))) = impl_txnsOf.t3 (fun b => some (impl_txnsOf.mk b)) impl_txnsOf.q3 v0 v1 v2 v3 := by kernel_rfl
theorem impl_txnsOf.s (v0 : List (Int × Int × Int)) : Sub impl_txnsOf.mk (impl_txnsOf.t some impl_txnsOf.l3 v0) (impl_txnsOf.t (fun b => some (impl_txnsOf.mk b)) impl_txnsOf.q3 v0) := by
  unfold impl_txnsOf.t
  repeat' first | exact Sub.ret | exact Sub.none | exact Sub.loop | apply Sub.cond | (apply Sub.bind; intro _)
theorem impl_txnsOf.eq (v0 : List (Int × Int × Int)) {b : Int} (h : impl_txnsOf.t some impl_txnsOf.l3 v0 = some b) : impl_txnsOf v0 = some b := tOf_intro impl_txnsOf.un (fun _ => by kernel_rfl) (vlim_fn (callT_le E tab) rfl rfl rfl ((impl_txnsOf.k v0).trans (impl_txnsOf.s v0 b h)))
theorem impl_txnsOf.s3 (v0 : Int) (v1 : List (Int × Int × Int)) (v2 : Int) (v3 : Int) : Sub impl_txnsOf.mk (impl_txnsOf.t3 some impl_txnsOf.l3 v0 v1 v2 v3) (impl_txnsOf.t3 (fun b => some (impl_txnsOf.mk b)) impl_txnsOf.q3 v0 v1 v2 v3) := by
  unfold impl_txnsOf.t3
  repeat' first | exact Sub.ret | exact Sub.none | exact Sub.loop | apply Sub.cond | (apply Sub.bind; intro _)
theorem impl_txnsOf.eq3 (v0 : Int) (v1 : List (Int × Int × Int)) (v2 : Int) (v3 : Int) {b : Int} (h : impl_txnsOf.t3 some impl_txnsOf.l3 v0 v1 v2 v3 = some b) : impl_txnsOf.l3 v0 v1 v2 v3 = some b := tOf_intro impl_txnsOf.un (fun _ => by kernel_rfl) (loopAtL_step ((impl_txnsOf.k3 v0 v1 v2 v3).trans (impl_txnsOf.s3 v0 v1 v2 v3 b h)))
noncomputable def impl_set_list.q3 (v0 : Int) (v1 : List Int) (v2 : Int) : Option R := loopAtL E (callT E tab) 55 Try.f55 1 [.r, .r, .l, .r, .b] (vc (iL v0) :: nn 2 (vc (.d .deep (.sl (.int .i64)) v1) :: vc (iL v2) :: nn 16 ([])))
noncomputable def impl_set_list.l3 (v0 : Int) (v1 : List Int) (v2 : Int) : Option ((List Int)) := tOf impl_set_list.mk (impl_set_list.q3 v0 v1 v2)
noncomputable def impl_set_list.t {γ : Type} (ret : ((List Int)) → Option γ) (lp3 : Int → (List Int) → Int → Option γ) (v0 : Int) : Option γ :=
  lp3 (v0) ([]) ((0 : Int))
noncomputable def impl_set_list.t3 {γ : Type} (ret : ((List Int)) → Option γ) (lp3 : Int → (List Int) → Int → Option γ) (v0 : Int) (v1 : List Int) (v2 : Int) : Option γ :=
  bif Decidable.decide ((0 : Int) ≤ v2) then
    bif v0.fdiv ((2 : Int) ^ Min.min v2.toNat Go.IntKind.i64.bits) != (0 : Int) then
      bif Decidable.decide ((0 : Int) ≤ v2) then
        bif Go.IntKind.i64.wrap     (↑(BitVec.ofInt Go.IntKind.i64.bits (v0.fdiv ((2 : Int) ^ Min.min v2.toNat Go.IntKind.i64.bits)) &&&             BitVec.ofInt Go.IntKind.i64.bits (1 : Int)).toNat :       Int) ==   (1 : Int) then
          bif Decidable.decide (v1.length + [v2].length ≤ (4294967296 : Nat)) then
            lp3 (v0) (v1 ++ [v2]) (Go.IntKind.i64.wrap (v2 + (1 : Int)))
          else
            none
        else
          lp3 (v0) (v1) (Go.IntKind.i64.wrap (v2 + (1 : Int)))
      else
        none
    else
      ret (v1)
  else
    none
theorem impl_set_list.k (v0 : Int) : topL E (callT E tab) 55 Try.f55 (impl_set_list.c v0) = impl_set_list.t (fun b => some (impl_set_list.mk b)) impl_set_list.q3 v0 := by kernel_rfl
theorem impl_set_list.k3 (v0 : Int) (v1 : List Int) (v2 : Int) : roundL E (callT E tab) 55 Try.f55 1 [.r, .r, .l, .r, .b] (vc (iL v0) :: nn 2 (vc (.d .deep (.sl (.int .i64)) v1) :: vc (iL v2) :: nn 16 ([]))) = impl_set_list.t3 (fun b => some (impl_set_list.mk b)) impl_set_list.q3 v0 v1 v2 := by kernel_rfl
theorem impl_set_list.s (v0 : Int) : Sub impl_set_list.mk (impl_set_list.t some impl_set_list.l3 v0) (impl_set_list.t (fun b => some (impl_set_list.mk b)) impl_set_list.q3 v0) := by
  unfold impl_set_list.t
  repeat' first | exact Sub.ret | exact Sub.none | exact Sub.loop | apply Sub.cond | (apply Sub.bind; intro _)
theorem impl_set_list.eq (v0 : Int) {b : (List Int)} (h : impl_set_list.t some impl_set_list.l3 v0 = some b) : impl_set_list v0 = some b := tOf_intro impl_set_list.un (fun _ => by kernel_rfl) (vlim_fn (callT_le E tab) rfl rfl rfl ((impl_set_list.k v0).trans (impl_set_list.s v0 b h)))
theorem impl_set_list.s3 (v0 : Int) (v1 : List Int) (v2 : Int) : Sub impl_set_list.mk (impl_set_list.t3 some impl_set_list.l3 v0 v1 v2) (impl_set_list.t3 (fun b => some (impl_set_list.mk b)) impl_set_list.q3 v0 v1 v2) := by
  unfold impl_set_list.t3
  repeat' first | exact Sub.ret | exact Sub.none | exact Sub.loop | apply Sub.cond | (apply Sub.bind; intro _)
theorem impl_set_list.eq3 (v0 : Int) (v1 : List Int) (v2 : Int) {b : (List Int)} (h : impl_set_list.t3 some impl_set_list.l3 v0 v1 v2 = some b) : impl_set_list.l3 v0 v1 v2 = some b := tOf_intro impl_set_list.un (fun _ => by kernel_rfl) (loopAtL_step ((impl_set_list.k3 v0 v1 v2).trans (impl_set_list.s3 v0 v1 v2 b h)))
noncomputable def impl_stepsOf.t {γ : Type} (ret : ((List (Int × Int × Int))) → Option γ) (v0 : List (Int × Int × Int)) (v1 : Int) : Option γ :=
  (slices_Clone_impl_Step_impl_Step (v0)).bind fun (r0 : (List (Int × Int × Int))) =>
  (slices_DeleteFunc_impl_Step_impl_Step_impl_stepsOf_1_b77 (r0) (v1)).bind fun (r1 : (List (Int × Int × Int))) =>
  ret (r1)
theorem impl_stepsOf.k (v0 : List (Int × Int × Int)) (v1 : Int) : topL E (callT E tab) 77 Try.f77 (impl_stepsOf.c v0 v1) = impl_stepsOf.t (fun b => some (impl_stepsOf.mk b)) v0 v1 := by kernel_rfl
theorem impl_stepsOf.s (v0 : List (Int × Int × Int)) (v1 : Int) : Sub impl_stepsOf.mk (impl_stepsOf.t some v0 v1) (impl_stepsOf.t (fun b => some (impl_stepsOf.mk b)) v0 v1) := by
  unfold impl_stepsOf.t
  repeat' first | exact Sub.ret | exact Sub.none | exact Sub.loop | apply Sub.cond | (apply Sub.bind; intro _)
theorem impl_stepsOf.eq (v0 : List (Int × Int × Int)) (v1 : Int) {b : (List (Int × Int × Int))} (h : impl_stepsOf.t some v0 v1 = some b) : impl_stepsOf v0 v1 = some b := tOf_intro impl_stepsOf.un (fun _ => by kernel_rfl) (vlim_fn (callT_le E tab) rfl rfl rfl ((impl_stepsOf.k v0 v1).trans (impl_stepsOf.s v0 v1 b h)))
noncomputable def slices_Clone_impl_Step_impl_Step.t {γ : Type} (ret : ((List (Int × Int × Int))) → Option γ) (v0 : List (Int × Int × Int)) : Option γ :=
  bif Decidable.decide (v0.length ≤ (4294967296 : Nat)) then
    ret (v0)
  else
    none
theorem slices_Clone_impl_Step_impl_Step.k (v0 : List (Int × Int × Int)) : extOf 101 (slices_Clone_impl_Step_impl_Step.c v0) = slices_Clone_impl_Step_impl_Step.t (fun b => some (slices_Clone_impl_Step_impl_Step.mk b)) v0 := by kernel_rfl
theorem slices_Clone_impl_Step_impl_Step.s (v0 : List (Int × Int × Int)) : Sub slices_Clone_impl_Step_impl_Step.mk (slices_Clone_impl_Step_impl_Step.t some v0) (slices_Clone_impl_Step_impl_Step.t (fun b => some (slices_Clone_impl_Step_impl_Step.mk b)) v0) := by
  unfold slices_Clone_impl_Step_impl_Step.t
  repeat' first | exact Sub.ret | exact Sub.none | exact Sub.loop | apply Sub.cond | (apply Sub.bind; intro _)
theorem slices_Clone_impl_Step_impl_Step.eq (v0 : List (Int × Int × Int)) {b : (List (Int × Int × Int))} (h : slices_Clone_impl_Step_impl_Step.t some v0 = some b) : slices_Clone_impl_Step_impl_Step v0 = some b := tOf_intro slices_Clone_impl_Step_impl_Step.un (fun _ => by kernel_rfl) (vlim_ext (g := extOf 101) rfl ((slices_Clone_impl_Step_impl_Step.k v0).trans (slices_Clone_impl_Step_impl_Step.s v0 b h)))
noncomputable def slices_DeleteFunc_impl_Step_impl_Step_impl_stepsOf_1_b77.q5 (v0 : List (Int × Int × Int)) (v1 : Int) (v2 : Int) (v3 : Int) : Option R := loopAtL E (callT E tab) 100 Try.f100 2 [.r, .r, .r, .l, .r, .b] (vc (.d .sha (.sl (.pair (.int .i64) (.pair (.int .i64) (.int .i64)))) v0) :: vc (.fn 102 [.rp [iL v1] 0]) :: nn 3 (vc (iL v2) :: vc (iL v3) :: nn 35 ([])))
noncomputable def slices_DeleteFunc_impl_Step_impl_Step_impl_stepsOf_1_b77.l5 (v0 : List (Int × Int × Int)) (v1 : Int) (v2 : Int) (v3 : Int) : Option ((List (Int × Int × Int))) := tOf slices_DeleteFunc_impl_Step_impl_Step_impl_stepsOf_1_b77.mk (slices_DeleteFunc_impl_Step_impl_Step_impl_stepsOf_1_b77.q5 v0 v1 v2 v3)
noncomputable def slices_DeleteFunc_impl_Step_impl_Step_impl_stepsOf_1_b77.t {γ : Type} (ret : ((List (Int × Int × Int))) → Option γ) (lp5 : (List (Int × Int × Int)) → Int → Int → Int → Option γ) (v0 : List (Int × Int × Int)) (v1 : Int) : Option γ :=
  (slices_IndexFunc_impl_Step_impl_Step_impl_stepsOf_1 (v0) (v1)).bind fun (r0 : Int) =>
  bif r0 == (-1 : Int) then
    ret (v0)
  else
    lp5 (v0) (v1) (r0) (Go.IntKind.i64.wrap (r0 + (1 : Int)))
noncomputable def slices_DeleteFunc_impl_Step_impl_Step_impl_stepsOf_1_b77.t5 {γ : Type} (ret : ((List (Int × Int × Int))) → Option γ) (lp5 : (List (Int × Int × Int)) → Int → Int → Int → Option γ) (v0 : List (Int × Int × Int)) (v1 : Int) (v2 : Int) (v3 : Int) : Option γ :=
  bif Decidable.decide (v3 < (↑v0.length : Int)) then
    bif Decidable.decide ((0 : Int) ≤ v3) then
      bif Decidable.decide (v3.toNat < v0.length) then
        bif Decidable.decide (v3.toNat < v0.length) then
          (impl_stepsOf_1 ((v0.getD v3.toNat ((0 : Int), (0 : Int), (0 : Int))).fst) ((v0.getD v3.toNat ((0 : Int), (0 : Int), (0 : Int))).snd.fst) ((v0.getD v3.toNat ((0 : Int), (0 : Int), (0 : Int))).snd.snd) (v1)).bind fun (r1 : Bool) =>
          bif !r1 then
            bif Decidable.decide ((0 : Int) ≤ v2) then
              bif Decidable.decide (v2.toNat < v0.length) then
                bif Decidable.decide (v2.toNat < v0.length) then
                  lp5 (v0.set v2.toNat   ((v0.getD v3.toNat ((0 : Int), (0 : Int), (0 : Int))).fst,     (v0.getD v3.toNat ((0 : Int), (0 : Int), (0 : Int))).snd.fst,     (v0.getD v3.toNat ((0 : Int), (0 : Int), (0 : Int))).snd.snd)) (v1) (Go.IntKind.i64.wrap (v2 + (1 : Int))) (Go.IntKind.i64.wrap (v3 + (1 : Int)))
                else
                  none
              else
                none
            else
              none
          else
            lp5 (v0) (v1) (v2) (Go.IntKind.i64.wrap (v3 + (1 : Int)))
        else
          none
      else
        none
    else
      none
  else
    bif Decidable.decide ((0 : Int) ≤ (Option.some v2).getD (0 : Int)) then
      bif Decidable.decide ((Option.some v2).getD (0 : Int) ≤ (↑v0.length : Int)) then
        bif !Decidable.decide ((List.drop ((Option.some v2).getD (0 : Int)).toNat v0).length = (0 : Nat)) then
          bif Decidable.decide (Option.none.getD (0 : Int) ≤ v2) then
            bif Decidable.decide   (v2 ≤     (↑(List.take ((Option.some v2).getD (0 : Int)).toNat v0 ++             List.replicate (v0.length - ((Option.some v2).getD (0 : Int)).toNat)               ((0 : Int), (0 : Int), (0 : Int))).length :       Int)) then
              ret (List.take (v2 - Option.none.getD (0 : Int)).toNat   (List.drop (Option.none.getD (0 : Int)).toNat     (List.take ((Option.some v2).getD (0 : Int)).toNat v0 ++       List.replicate (v0.length - ((Option.some v2).getD (0 : Int)).toNat) ((0 : Int), (0 : Int), (0 : Int)))))
            else
              none
          else
            none
        else
          none
      else
        none
    else
      none
theorem slices_DeleteFunc_impl_Step_impl_Step_impl_stepsOf_1_b77.k (v0 : List (Int × Int × Int)) (v1 : Int) : topL E (callT E tab) 100 Try.f100 (slices_DeleteFunc_impl_Step_impl_Step_impl_stepsOf_1_b77.c v0 v1) = slices_DeleteFunc_impl_Step_impl_Step_impl_stepsOf_1_b77.t (fun b => some (slices_DeleteFunc_impl_Step_impl_Step_impl_stepsOf_1_b77.mk b)) slices_DeleteFunc_impl_Step_impl_Step_impl_stepsOf_1_b77.q5 v0 v1 := by kernel_rfl
theorem slices_DeleteFunc_impl_Step_impl_Step_impl_stepsOf_1_b77.k5 (v0 : List (Int × Int × Int)) (v1 : Int) (v2 : Int) (v3 : Int) : roundL E (callT E tab) 100 Try.f100 2 [.r, .r, .r, .l, .r, .b] (vc (.d .sha (.sl (.pair (.int .i64) (.pair (.int .i64) (.int .i64)))) v0) :: vc (.fn 102 [.rp [iL v1] 0]) :: nn 3 (vc (iL v2) :: vc (iL v3) :: nn 35 ([]))) = slices_DeleteFunc_impl_Step_impl_Step_impl_stepsOf_1_b77.t5 (fun b => some (slices_DeleteFunc_impl_Step_impl_Step_impl_stepsOf_1_b77.mk b)) slices_DeleteFunc_impl_Step_impl_Step_impl_stepsOf_1_b77.q5 v0 v1 v2 v3 := by kernel_rfl
theorem slices_DeleteFunc_impl_Step_impl_Step_impl_stepsOf_1_b77.s (v0 : List (Int × Int × Int)) (v1 : Int) : Sub slices_DeleteFunc_impl_Step_impl_Step_impl_stepsOf_1_b77.mk (slices_DeleteFunc_impl_Step_impl_Step_impl_stepsOf_1_b77.t some slices_DeleteFunc_impl_Step_impl_Step_impl_stepsOf_1_b77.l5 v0 v1) (slices_DeleteFunc_impl_Step_impl_Step_impl_stepsOf_1_b77.t (fun b => some (slices_DeleteFunc_impl_Step_impl_Step_impl_stepsOf_1_b77.mk b)) slices_DeleteFunc_impl_Step_impl_Step_impl_stepsOf_1_b77.q5 v0 v1) := by
  unfold slices_DeleteFunc_impl_Step_impl_Step_impl_stepsOf_1_b77.t
  repeat' first | exact Sub.ret | exact Sub.none | exact Sub.loop | apply Sub.cond | (apply Sub.bind; intro _)
theorem slices_DeleteFunc_impl_Step_impl_Step_impl_stepsOf_1_b77.eq (v0 : List (Int × Int × Int)) (v1 : Int) {b : (List (Int × Int × Int))} (h : slices_DeleteFunc_impl_Step_impl_Step_impl_stepsOf_1_b77.t some slices_DeleteFunc_impl_Step_impl_Step_impl_stepsOf_1_b77.l5 v0 v1 = some b) : slices_DeleteFunc_impl_Step_impl_Step_impl_stepsOf_1_b77 v0 v1 = some b := tOf_intro slices_DeleteFunc_impl_Step_impl_Step_impl_stepsOf_1_b77.un (fun _ => by kernel_rfl) (vlim_fn (callT_le E tab) rfl rfl rfl ((slices_DeleteFunc_impl_Step_impl_Step_impl_stepsOf_1_b77.k v0 v1).trans (slices_DeleteFunc_impl_Step_impl_Step_impl_stepsOf_1_b77.s v0 v1 b h)))
theorem slices_DeleteFunc_impl_Step_impl_Step_impl_stepsOf_1_b77.s5 (v0 : List (Int × Int × Int)) (v1 : Int) (v2 : Int) (v3 : Int) : Sub slices_DeleteFunc_impl_Step_impl_Step_impl_stepsOf_1_b77.mk (slices_DeleteFunc_impl_Step_impl_Step_impl_stepsOf_1_b77.t5 some slices_DeleteFunc_impl_Step_impl_Step_impl_stepsOf_1_b77.l5 v0 v1 v2 v3) (slices_DeleteFunc_impl_Step_impl_Step_impl_stepsOf_1_b77.t5 (fun b => some (slices_DeleteFunc_impl_Step_impl_Step_impl_stepsOf_1_b77.mk b)) slices_DeleteFunc_impl_Step_impl_Step_impl_stepsOf_1_b77.q5 v0 v1 v2 v3) := by
  unfold slices_DeleteFunc_impl_Step_impl_Step_impl_stepsOf_1_b77.t5
  repeat' first | exact Sub.ret | exact Sub.none | exact Sub.loop | apply Sub.cond | (apply Sub.bind; intro _)
theorem slices_DeleteFunc_impl_Step_impl_Step_impl_stepsOf_1_b77.eq5 (v0 : List (Int × Int × Int)) (v1 : Int) (v2 : Int) (v3 : Int) {b : (List (Int × Int × Int))} (h : slices_DeleteFunc_impl_Step_impl_Step_impl_stepsOf_1_b77.t5 some slices_DeleteFunc_impl_Step_impl_Step_impl_stepsOf_1_b77.l5 v0 v1 v2 v3 = some b) : slices_DeleteFunc_impl_Step_impl_Step_impl_stepsOf_1_b77.l5 v0 v1 v2 v3 = some b := tOf_intro slices_DeleteFunc_impl_Step_impl_Step_impl_stepsOf_1_b77.un (fun _ => by kernel_rfl) (loopAtL_step ((slices_DeleteFunc_impl_Step_impl_Step_impl_stepsOf_1_b77.k5 v0 v1 v2 v3).trans (slices_DeleteFunc_impl_Step_impl_Step_impl_stepsOf_1_b77.s5 v0 v1 v2 v3 b h)))
noncomputable def slices_IndexFunc_impl_Step_impl_Step_impl_stepsOf_1.q2 (v0 : List (Int × Int × Int)) (v1 : Int) (v2 : Int) (v3 : Int) : Option R := loopAtL E (callT E tab) 111 Try.f111 2 [.r, .l, .r, .b] (vc (.d .fro (.sl (.pair (.int .i64) (.pair (.int .i64) (.int .i64)))) v0) :: vc (.fn 102 [.rp [iL v1] 0]) :: nn 5 (vc (iL v2) :: vc (iL v3) :: nn 10 ([])))
noncomputable def slices_IndexFunc_impl_Step_impl_Step_impl_stepsOf_1.l2 (v0 : List (Int × Int × Int)) (v1 : Int) (v2 : Int) (v3 : Int) : Option (Int) := tOf slices_IndexFunc_impl_Step_impl_Step_impl_stepsOf_1.mk (slices_IndexFunc_impl_Step_impl_Step_impl_stepsOf_1.q2 v0 v1 v2 v3)
noncomputable def slices_IndexFunc_impl_Step_impl_Step_impl_stepsOf_1.t {γ : Type} (ret : (Int) → Option γ) (lp2 : (List (Int × Int × Int)) → Int → Int → Int → Option γ) (v0 : List (Int × Int × Int)) (v1 : Int) : Option γ :=
  lp2 (v0) (v1) ((↑v0.length : Int)) ((0 : Int))
noncomputable def slices_IndexFunc_impl_Step_impl_Step_impl_stepsOf_1.t2 {γ : Type} (ret : (Int) → Option γ) (lp2 : (List (Int × Int × Int)) → Int → Int → Int → Option γ) (v0 : List (Int × Int × Int)) (v1 : Int) (v2 : Int) (v3 : Int) : Option γ :=
  bif Decidable.decide (v3 < v2) then
    bif Decidable.decide ((0 : Int) ≤ v3) then
      bif Decidable.decide (v3.toNat < v0.length) then
        (impl_stepsOf_1 ((v0.getD v3.toNat ((0 : Int), (0 : Int), (0 : Int))).fst) ((v0.getD v3.toNat ((0 : Int), (0 : Int), (0 : Int))).snd.fst) ((v0.getD v3.toNat ((0 : Int), (0 : Int), (0 : Int))).snd.snd) (v1)).bind fun (r0 : Bool) =>
        bif r0 then
          ret (v3)
        else
          lp2 (v0) (v1) (v2) (Go.IntKind.i64.wrap (v3 + (1 : Int)))
      else
        none
    else
      none
  else
    ret ((-1 : Int))
theorem slices_IndexFunc_impl_Step_impl_Step_impl_stepsOf_1.k (v0 : List (Int × Int × Int)) (v1 : Int) : topL E (callT E tab) 111 Try.f111 (slices_IndexFunc_impl_Step_impl_Step_impl_stepsOf_1.c v0 v1) = slices_IndexFunc_impl_Step_impl_Step_impl_stepsOf_1.t (fun b => some (slices_IndexFunc_impl_Step_impl_Step_impl_stepsOf_1.mk b)) slices_IndexFunc_impl_Step_impl_Step_impl_stepsOf_1.q2 v0 v1 := by kernel_rfl
theorem slices_IndexFunc_impl_Step_impl_Step_impl_stepsOf_1.k2 (v0 : List (Int × Int × Int)) (v1 : Int) (v2 : Int) (v3 : Int) : roundL E (callT E tab) 111 Try.f111 2 [.r, .l, .r, .b] (vc (.d .fro (.sl (.pair (.int .i64) (.pair (.int .i64) (.int .i64)))) v0) :: vc (.fn 102 [.rp [iL v1] 0]) :: nn 5 (vc (iL v2) :: vc (iL v3) :: nn 10 ([]))) = slices_IndexFunc_impl_Step_impl_Step_impl_stepsOf_1.t2 (fun b => some (slices_IndexFunc_impl_Step_impl_Step_impl_stepsOf_1.mk b)) slices_IndexFunc_impl_Step_impl_Step_impl_stepsOf_1.q2 v0 v1 v2 v3 := by kernel_rfl
theorem slices_IndexFunc_impl_Step_impl_Step_impl_stepsOf_1.s (v0 : List (Int × Int × Int)) (v1 : Int) : Sub slices_IndexFunc_impl_Step_impl_Step_impl_stepsOf_1.mk (slices_IndexFunc_impl_Step_impl_Step_impl_stepsOf_1.t some slices_IndexFunc_impl_Step_impl_Step_impl_stepsOf_1.l2 v0 v1) (slices_IndexFunc_impl_Step_impl_Step_impl_stepsOf_1.t (fun b => some (slices_IndexFunc_impl_Step_impl_Step_impl_stepsOf_1.mk b)) slices_IndexFunc_impl_Step_impl_Step_impl_stepsOf_1.q2 v0 v1) := by
  unfold slices_IndexFunc_impl_Step_impl_Step_impl_stepsOf_1.t
  repeat' first | exact Sub.ret | exact Sub.none | exact Sub.loop | apply Sub.cond | (apply Sub.bind; intro _)
theorem slices_IndexFunc_impl_Step_impl_Step_impl_stepsOf_1.eq (v0 : List (Int × Int × Int)) (v1 : Int) {b : Int} (h : slices_IndexFunc_impl_Step_impl_Step_impl_stepsOf_1.t some slices_IndexFunc_impl_Step_impl_Step_impl_stepsOf_1.l2 v0 v1 = some b) : slices_IndexFunc_impl_Step_impl_Step_impl_stepsOf_1 v0 v1 = some b := tOf_intro slices_IndexFunc_impl_Step_impl_Step_impl_stepsOf_1.un (fun _ => by kernel_rfl) (vlim_fn (callT_le E tab) rfl rfl rfl ((slices_IndexFunc_impl_Step_impl_Step_impl_stepsOf_1.k v0 v1).trans (slices_IndexFunc_impl_Step_impl_Step_impl_stepsOf_1.s v0 v1 b h)))
theorem slices_IndexFunc_impl_Step_impl_Step_impl_stepsOf_1.s2 (v0 : List (Int × Int × Int)) (v1 : Int) (v2 : Int) (v3 : Int) : Sub slices_IndexFunc_impl_Step_impl_Step_impl_stepsOf_1.mk (slices_IndexFunc_impl_Step_impl_Step_impl_stepsOf_1.t2 some slices_IndexFunc_impl_Step_impl_Step_impl_stepsOf_1.l2 v0 v1 v2 v3) (slices_IndexFunc_impl_Step_impl_Step_impl_stepsOf_1.t2 (fun b => some (slices_IndexFunc_impl_Step_impl_Step_impl_stepsOf_1.mk b)) slices_IndexFunc_impl_Step_impl_Step_impl_stepsOf_1.q2 v0 v1 v2 v3) := by
  unfold slices_IndexFunc_impl_Step_impl_Step_impl_stepsOf_1.t2
  repeat' first | exact Sub.ret | exact Sub.none | exact Sub.loop | apply Sub.cond | (apply Sub.bind; intro _)
theorem slices_IndexFunc_impl_Step_impl_Step_impl_stepsOf_1.eq2 (v0 : List (Int × Int × Int)) (v1 : Int) (v2 : Int) (v3 : Int) {b : Int} (h : slices_IndexFunc_impl_Step_impl_Step_impl_stepsOf_1.t2 some slices_IndexFunc_impl_Step_impl_Step_impl_stepsOf_1.l2 v0 v1 v2 v3 = some b) : slices_IndexFunc_impl_Step_impl_Step_impl_stepsOf_1.l2 v0 v1 v2 v3 = some b := tOf_intro slices_IndexFunc_impl_Step_impl_Step_impl_stepsOf_1.un (fun _ => by kernel_rfl) (loopAtL_step ((slices_IndexFunc_impl_Step_impl_Step_impl_stepsOf_1.k2 v0 v1 v2 v3).trans (slices_IndexFunc_impl_Step_impl_Step_impl_stepsOf_1.s2 v0 v1 v2 v3 b h)))
noncomputable def impl_stepsOf_1.t {γ : Type} (ret : (Bool) → Option γ) (v0 : Int) (v1 : Int) (v2 : Int) (v3 : Int) : Option γ :=
  ret (v0 != v3)
theorem impl_stepsOf_1.k (v0 : Int) (v1 : Int) (v2 : Int) (v3 : Int) : topL E (callT E tab) 102 Try.f102 (impl_stepsOf_1.c v0 v1 v2 v3) = impl_stepsOf_1.t (fun b => some (impl_stepsOf_1.mk b)) v0 v1 v2 v3 := by kernel_rfl
theorem impl_stepsOf_1.s (v0 : Int) (v1 : Int) (v2 : Int) (v3 : Int) : Sub impl_stepsOf_1.mk (impl_stepsOf_1.t some v0 v1 v2 v3) (impl_stepsOf_1.t (fun b => some (impl_stepsOf_1.mk b)) v0 v1 v2 v3) := by
  unfold impl_stepsOf_1.t
  repeat' first | exact Sub.ret | exact Sub.none | exact Sub.loop | apply Sub.cond | (apply Sub.bind; intro _)
theorem impl_stepsOf_1.eq (v0 : Int) (v1 : Int) (v2 : Int) (v3 : Int) {b : Bool} (h : impl_stepsOf_1.t some v0 v1 v2 v3 = some b) : impl_stepsOf_1 v0 v1 v2 v3 = some b := tOf_intro impl_stepsOf_1.un (fun _ => by kernel_rfl) (vlim_fn (callT_le E tab) rfl rfl rfl ((impl_stepsOf_1.k v0 v1 v2 v3).trans (impl_stepsOf_1.s v0 v1 v2 v3 b h)))
noncomputable def laws_eqStepS.q4 (v0 : List (Int × Int × Int)) (v1 : List (Int × Int × Int)) (v2 : Int) : Option R := loopAtL E (callT E tab) 21 Try.f21 2 [.r, .r, .l, .r, .b] (vc (.d .fro (.sl (.pair (.int .i64) (.pair (.int .i64) (.int .i64)))) v0) :: vc (.d .fro (.sl (.pair (.int .i64) (.pair (.int .i64) (.int .i64)))) v1) :: nn 3 (vc (iL v2) :: nn 21 ([])))
noncomputable def laws_eqStepS.l4 (v0 : List (Int × Int × Int)) (v1 : List (Int × Int × Int)) (v2 : Int) : Option (Bool) := tOf laws_eqStepS.mk (laws_eqStepS.q4 v0 v1 v2)
noncomputable def laws_eqStepS.t {γ : Type} (ret : (Bool) → Option γ) (lp4 : (List (Int × Int × Int)) → (List (Int × Int × Int)) → Int → Option γ) (v0 : List (Int × Int × Int)) (v1 : List (Int × Int × Int)) : Option γ :=
  bif (↑v0.length : Int) != (↑v1.length : Int) then
    ret (Bool.false)
  else
    lp4 (v0) (v1) ((0 : Int))
noncomputable def laws_eqStepS.t4 {γ : Type} (ret : (Bool) → Option γ) (lp4 : (List (Int × Int × Int)) → (List (Int × Int × Int)) → Int → Option γ) (v0 : List (Int × Int × Int)) (v1 : List (Int × Int × Int)) (v2 : Int) : Option γ :=
  bif Decidable.decide (v2 < (↑v0.length : Int)) then
    bif Decidable.decide ((0 : Int) ≤ v2) then
      bif Decidable.decide (v2.toNat < v0.length) then
        bif Decidable.decide ((0 : Int) ≤ v2) then
          bif Decidable.decide (v2.toNat < v1.length) then
            (laws_eqStep ((v0.getD v2.toNat ((0 : Int), (0 : Int), (0 : Int))).fst) ((v0.getD v2.toNat ((0 : Int), (0 : Int), (0 : Int))).snd.fst) ((v0.getD v2.toNat ((0 : Int), (0 : Int), (0 : Int))).snd.snd) ((v1.getD v2.toNat ((0 : Int), (0 : Int), (0 : Int))).fst) ((v1.getD v2.toNat ((0 : Int), (0 : Int), (0 : Int))).snd.fst) ((v1.getD v2.toNat ((0 : Int), (0 : Int), (0 : Int))).snd.snd)).bind fun (r0 : Bool) =>
            bif !r0 then
              ret (Bool.false)
            else
              lp4 (v0) (v1) (Go.IntKind.i64.wrap (v2 + (1 : Int)))
          else
            none
        else
          none
      else
        none
    else
      none
  else
    ret (Bool.true)
theorem laws_eqStepS.k (v0 : List (Int × Int × Int)) (v1 : List (Int × Int × Int)) : topL E (callT E tab) 21 Try.f21 (laws_eqStepS.c v0 v1) = laws_eqStepS.t (fun b => some (laws_eqStepS.mk b)) laws_eqStepS.q4 v0 v1 := by kernel_rfl
theorem laws_eqStepS.k4 (v0 : List (Int × Int × Int)) (v1 : List (Int × Int × Int)) (v2 : Int) : roundL E (callT E tab) 21 Try.f21 2 [.r, .r, .l, .r, .b] (vc (.d .fro (.sl (.pair (.int .i64) (.pair (.int .i64) (.int .i64)))) v0) :: vc (.d .fro (.sl (.pair (.int .i64) (.pair (.int .i64) (.int .i64)))) v1) :: nn 3 (vc (iL v2) :: nn 21 ([]))) = laws_eqStepS.t4 (fun b => some (laws_eqStepS.mk b)) laws_eqStepS.q4 v0 v1 v2 := by kernel_rfl
theorem laws_eqStepS.s (v0 : List (Int × Int × Int)) (v1 : List (Int × Int × Int)) : Sub laws_eqStepS.mk (laws_eqStepS.t some laws_eqStepS.l4 v0 v1) (laws_eqStepS.t (fun b => some (laws_eqStepS.mk b)) laws_eqStepS.q4 v0 v1) := by
  unfold laws_eqStepS.t
  repeat' first | exact Sub.ret | exact Sub.none | exact Sub.loop | apply Sub.cond | (apply Sub.bind; intro _)
theorem laws_eqStepS.eq (v0 : List (Int × Int × Int)) (v1 : List (Int × Int × Int)) {b : Bool} (h : laws_eqStepS.t some laws_eqStepS.l4 v0 v1 = some b) : laws_eqStepS v0 v1 = some b := tOf_intro laws_eqStepS.un (fun _ => by kernel_rfl) (vlim_fn (callT_le E tab) rfl rfl rfl ((laws_eqStepS.k v0 v1).trans (laws_eqStepS.s v0 v1 b h)))
theorem laws_eqStepS.s4 (v0 : List (Int × Int × Int)) (v1 : List (Int × Int × Int)) (v2 : Int) : Sub laws_eqStepS.mk (laws_eqStepS.t4 some laws_eqStepS.l4 v0 v1 v2) (laws_eqStepS.t4 (fun b => some (laws_eqStepS.mk b)) laws_eqStepS.q4 v0 v1 v2) := by
  unfold laws_eqStepS.t4
  repeat' first | exact Sub.ret | exact Sub.none | exact Sub.loop | apply Sub.cond | (apply Sub.bind; intro _)
theorem laws_eqStepS.eq4 (v0 : List (Int × Int × Int)) (v1 : List (Int × Int × Int)) (v2 : Int) {b : Bool} (h : laws_eqStepS.t4 some laws_eqStepS.l4 v0 v1 v2 = some b) : laws_eqStepS.l4 v0 v1 v2 = some b := tOf_intro laws_eqStepS.un (fun _ => by kernel_rfl) (loopAtL_step ((laws_eqStepS.k4 v0 v1 v2).trans (laws_eqStepS.s4 v0 v1 v2 b h)))
noncomputable def laws_eqStep.t {γ : Type} (ret : (Bool) → Option γ) (v0 : Int) (v1 : Int) (v2 : Int) (v3 : Int) (v4 : Int) (v5 : Int) : Option γ :=
  bif v0 != v3 then
    ret (Bool.false)
  else
    bif v1 != v4 then
      ret (Bool.false)
    else
      bif v2 != v5 then
        ret (Bool.false)
      else
        ret (Bool.true)
theorem laws_eqStep.k (v0 : Int) (v1 : Int) (v2 : Int) (v3 : Int) (v4 : Int) (v5 : Int) : topL E (callT E tab) 56 Try.f56 (laws_eqStep.c v0 v1 v2 v3 v4 v5) = laws_eqStep.t (fun b => some (laws_eqStep.mk b)) v0 v1 v2 v3 v4 v5 := by kernel_rfl
theorem laws_eqStep.s (v0 : Int) (v1 : Int) (v2 : Int) (v3 : Int) (v4 : Int) (v5 : Int) : Sub laws_eqStep.mk (laws_eqStep.t some v0 v1 v2 v3 v4 v5) (laws_eqStep.t (fun b => some (laws_eqStep.mk b)) v0 v1 v2 v3 v4 v5) := by
  unfold laws_eqStep.t
  repeat' first | exact Sub.ret | exact Sub.none | exact Sub.loop | apply Sub.cond | (apply Sub.bind; intro _)
theorem laws_eqStep.eq (v0 : Int) (v1 : Int) (v2 : Int) (v3 : Int) (v4 : Int) (v5 : Int) {b : Bool} (h : laws_eqStep.t some v0 v1 v2 v3 v4 v5 = some b) : laws_eqStep v0 v1 v2 v3 v4 v5 = some b := tOf_intro laws_eqStep.un (fun _ => by kernel_rfl) (vlim_fn (callT_le E tab) rfl rfl rfl ((laws_eqStep.k v0 v1 v2 v3 v4 v5).trans (laws_eqStep.s v0 v1 v2 v3 v4 v5 b h)))
noncomputable def laws_eqIntS.q4 (v0 : List Int) (v1 : List Int) (v2 : Int) : Option R := loopAtL E (callT E tab) 15 Try.f15 2 [.r, .r, .l, .r, .b] (vc (.d .fro (.sl (.int .i64)) v0) :: vc (.d .fro (.sl (.int .i64)) v1) :: nn 3 (vc (iL v2) :: nn 20 ([])))
noncomputable def laws_eqIntS.l4 (v0 : List Int) (v1 : List Int) (v2 : Int) : Option (Bool) := tOf laws_eqIntS.mk (laws_eqIntS.q4 v0 v1 v2)
noncomputable def laws_eqIntS.t {γ : Type} (ret : (Bool) → Option γ) (lp4 : (List Int) → (List Int) → Int → Option γ) (v0 : List Int) (v1 : List Int) : Option γ :=
  bif (↑v0.length : Int) != (↑v1.length : Int) then
    ret (Bool.false)
  else
    lp4 (v0) (v1) ((0 : Int))
noncomputable def laws_eqIntS.t4 {γ : Type} (ret : (Bool) → Option γ) (lp4 : (List Int) → (List Int) → Int → Option γ) (v0 : List Int) (v1 : List Int) (v2 : Int) : Option γ :=
  bif Decidable.decide (v2 < (↑v0.length : Int)) then
    bif Decidable.decide ((0 : Int) ≤ v2) then
      bif Decidable.decide (v2.toNat < v0.length) then
        bif Decidable.decide ((0 : Int) ≤ v2) then
          bif Decidable.decide (v2.toNat < v1.length) then
            bif v0.getD v2.toNat (0 : Int) != v1.getD v2.toNat (0 : Int) then
              ret (Bool.false)
            else
              lp4 (v0) (v1) (Go.IntKind.i64.wrap (v2 + (1 : Int)))
          else
            none
        else
          none
      else
        none
    else
      none
  else
    ret (Bool.true)
theorem laws_eqIntS.k (v0 : List Int) (v1 : List Int) : topL E (callT E tab) 15 Try.f15 (laws_eqIntS.c v0 v1) = laws_eqIntS.t (fun b => some (laws_eqIntS.mk b)) laws_eqIntS.q4 v0 v1 := by kernel_rfl
theorem laws_eqIntS.k4 (v0 : List Int) (v1 : List Int) (v2 : Int) : roundL E (callT E tab) 15 Try.f15 2 [.r, .r, .l, .r, .b] (vc (.d .fro (.sl (.int .i64)) v0) :: vc (.d .fro (.sl (.int .i64)) v1) :: nn 3 (vc (iL v2) :: nn 20 ([]))) = laws_eqIntS.t4 (fun b => some (laws_eqIntS.mk b)) laws_eqIntS.q4 v0 v1 v2 := by kernel_rfl
theorem laws_eqIntS.s (v0 : List Int) (v1 : List Int) : Sub laws_eqIntS.mk (laws_eqIntS.t some laws_eqIntS.l4 v0 v1) (laws_eqIntS.t (fun b => some (laws_eqIntS.mk b)) laws_eqIntS.q4 v0 v1) := by
  unfold laws_eqIntS.t
  repeat' first | exact Sub.ret | exact Sub.none | exact Sub.loop | apply Sub.cond | (apply Sub.bind; intro _)
theorem laws_eqIntS.eq (v0 : List Int) (v1 : List Int) {b : Bool} (h : laws_eqIntS.t some laws_eqIntS.l4 v0 v1 = some b) : laws_eqIntS v0 v1 = some b := tOf_intro laws_eqIntS.un (fun _ => by kernel_rfl) (vlim_fn (callT_le E tab) rfl rfl rfl ((laws_eqIntS.k v0 v1).trans (laws_eqIntS.s v0 v1 b h)))
theorem laws_eqIntS.s4 (v0 : List Int) (v1 : List Int) (v2 : Int) : Sub laws_eqIntS.mk (laws_eqIntS.t4 some laws_eqIntS.l4 v0 v1 v2) (laws_eqIntS.t4 (fun b => some (laws_eqIntS.mk b)) laws_eqIntS.q4 v0 v1 v2) := by
  unfold laws_eqIntS.t4
  repeat' first | exact Sub.ret | exact Sub.none | exact Sub.loop | apply Sub.cond | (apply Sub.bind; intro _)
theorem laws_eqIntS.eq4 (v0 : List Int) (v1 : List Int) (v2 : Int) {b : Bool} (h : laws_eqIntS.t4 some laws_eqIntS.l4 v0 v1 v2 = some b) : laws_eqIntS.l4 v0 v1 v2 = some b := tOf_intro laws_eqIntS.un (fun _ => by kernel_rfl) (loopAtL_step ((laws_eqIntS.k4 v0 v1 v2).trans (laws_eqIntS.s4 v0 v1 v2 b h)))
noncomputable def laws_markStepS_5b1.q2 (v0 : List (Int × Int × Int)) (v1 : Int) (v2 : Int) : Option R := loopAtL E (callT E tab) 22 Try.f22 2 [.r, .l, .r, .b] (⟨(.val .one), [.d .deep (.sl (.pair (.int .i64) (.pair (.int .i64) (.int .i64)))) v0], true, false, false, 0, 0⟩ :: vc (iL v1) :: nn 3 (vc (iL v2) :: nn 28 ([])))
noncomputable def laws_markStepS_5b1.l2 (v0 : List (Int × Int × Int)) (v1 : Int) (v2 : Int) : Option (Int × (List (Int × Int × Int))) := tOf laws_markStepS_5b1.mk (laws_markStepS_5b1.q2 v0 v1 v2)
noncomputable def laws_markStepS_5b1.t {γ : Type} (ret : (Int × (List (Int × Int × Int))) → Option γ) (lp2 : (List (Int × Int × Int)) → Int → Int → Option γ) (v0 : List (Int × Int × Int)) (v1 : Int) : Option γ :=
  lp2 (v0) (v1) ((0 : Int))
noncomputable def laws_markStepS_5b1.t2 {γ : Type} (ret : (Int × (List (Int × Int × Int))) → Option γ) (lp2 : (List (Int × Int × Int)) → Int → Int → Option γ) (v0 : List (Int × Int × Int)) (v1 : Int) (v2 : Int) : Option γ :=
  bif Decidable.decide (v2 < (↑v0.length : Int)) then
    bif Decidable.decide ((0 : Int) ≤ v2) then
      bif Decidable.decide (v2.toNat < v0.length) then
        bif Decidable.decide (v2.toNat < v0.length) then
          bif Decidable.decide ((0 : Int) ≤ v2) then
            bif Decidable.decide (v2.toNat < (v0.set v2.toNat (v1, (v0.getD v2.toNat ((0 : Int), (0 : Int), (0 : Int))).snd)).length) then
              bif Decidable.decide (v2.toNat < (v0.set v2.toNat (v1, (v0.getD v2.toNat ((0 : Int), (0 : Int), (0 : Int))).snd)).length) then
                bif Decidable.decide ((0 : Int) ≤ v2) then
                  bif Decidable.decide   (v2.toNat <     ((v0.set v2.toNat (v1, (v0.getD v2.toNat ((0 : Int), (0 : Int), (0 : Int))).snd)).set v2.toNat         (((v0.set v2.toNat (v1, (v0.getD v2.toNat ((0 : Int), (0 : Int), (0 : Int))).snd)).getD v2.toNat               ((0 : Int), (0 : Int), (0 : Int))).fst,           Go.IntKind.i64.wrap (v1 + (1 : Int)),           ((v0.set v2.toNat (v1, (v0.getD v2.toNat ((0 : Int), (0 : Int), (0 : Int))).snd)).getD v2.toNat                 ((0 : Int), (0 : Int), (0 : Int))).snd.snd)).length) then
                    bif Decidable.decide   (v2.toNat <     ((v0.set v2.toNat (v1, (v0.getD v2.toNat ((0 : Int), (0 : Int), (0 : Int))).snd)).set v2.toNat         (((v0.set v2.toNat (v1, (v0.getD v2.toNat ((0 : Int), (0 : Int), (0 : Int))).snd)).getD v2.toNat               ((0 : Int), (0 : Int), (0 : Int))).fst,           Go.IntKind.i64.wrap (v1 + (1 : Int)),           ((v0.set v2.toNat (v1, (v0.getD v2.toNat ((0 : Int), (0 : Int), (0 : Int))).snd)).getD v2.toNat                 ((0 : Int), (0 : Int), (0 : Int))).snd.snd)).length) then
                      lp2 (((v0.set v2.toNat (v1, (v0.getD v2.toNat ((0 : Int), (0 : Int), (0 : Int))).snd)).set v2.toNat       (((v0.set v2.toNat (v1, (v0.getD v2.toNat ((0 : Int), (0 : Int), (0 : Int))).snd)).getD v2.toNat             ((0 : Int), (0 : Int), (0 : Int))).fst,         Go.IntKind.i64.wrap (v1 + (1 : Int)),         ((v0.set v2.toNat (v1, (v0.getD v2.toNat ((0 : Int), (0 : Int), (0 : Int))).snd)).getD v2.toNat               ((0 : Int), (0 : Int), (0 : Int))).snd.snd)).set   v2.toNat   ((((v0.set v2.toNat (v1, (v0.getD v2.toNat ((0 : Int), (0 : Int), (0 : Int))).snd)).set v2.toNat             (((v0.set v2.toNat (v1, (v0.getD v2.toNat ((0 : Int), (0 : Int), (0 : Int))).snd)).getD v2.toNat                   ((0 : Int), (0 : Int), (0 : Int))).fst,               Go.IntKind.i64.wrap (v1 + (1 : Int)),               ((v0.set v2.toNat (v1, (v0.getD v2.toNat ((0 : Int), (0 : Int), (0 : Int))).snd)).getD v2.toNat                     ((0 : Int), (0 : Int), (0 : Int))).snd.snd)).getD         v2.toNat ((0 : Int), (0 : Int), (0 : Int))).fst,     (((v0.set v2.toNat (v1, (v0.getD v2.toNat ((0 : Int), (0 : Int), (0 : Int))).snd)).set v2.toNat               (((v0.set v2.toNat (v1, (v0.getD v2.toNat ((0 : Int), (0 : Int), (0 : Int))).snd)).getD v2.toNat                     ((0 : Int), (0 : Int), (0 : Int))).fst,                 Go.IntKind.i64.wrap (v1 + (1 : Int)),                 ((v0.set v2.toNat (v1, (v0.getD v2.toNat ((0 : Int), (0 : Int), (0 : Int))).snd)).getD v2.toNat                       ((0 : Int), (0 : Int), (0 : Int))).snd.snd)).getD           v2.toNat ((0 : Int), (0 : Int), (0 : Int))).snd.fst,     Go.IntKind.i64.wrap (Go.IntKind.i64.wrap (v1 + (1 : Int)) + (1 : Int)))) (Go.IntKind.i64.wrap (Go.IntKind.i64.wrap (Go.IntKind.i64.wrap (v1 + (1 : Int)) + (1 : Int)) + (1 : Int))) (Go.IntKind.i64.wrap (v2 + (1 : Int)))
                    else
                      none
                  else
                    none
                else
                  none
              else
                none
            else
              none
          else
            none
        else
          none
      else
        none
    else
      none
  else
    ret (v1, v0)
theorem laws_markStepS_5b1.k (v0 : List (Int × Int × Int)) (v1 : Int) : topL E (callT E tab) 22 Try.f22 (laws_markStepS_5b1.c v0 v1) = laws_markStepS_5b1.t (fun b => some (laws_markStepS_5b1.mk b)) laws_markStepS_5b1.q2 v0 v1 := by kernel_rfl
theorem laws_markStepS_5b1.k2 (v0 : List (Int × Int × Int)) (v1 : Int) (v2 : Int) : roundL E (callT E tab) 22 Try.f22 2 [.r, .l, .r, .b] (⟨(.val .one), [.d .deep (.sl (.pair (.int .i64) (.pair (.int .i64) (.int .i64)))) v0], true, false, false, 0, 0⟩ :: vc (iL v1) :: nn 3 (vc (iL v2) :: nn 28 ([]))) = laws_markStepS_5b1.t2 (fun b => some (laws_markStepS_5b1.mk b)) laws_markStepS_5b1.q2 v0 v1 v2 := by kernel_rfl
theorem laws_markStepS_5b1.s (v0 : List (Int × Int × Int)) (v1 : Int) : Sub laws_markStepS_5b1.mk (laws_markStepS_5b1.t some laws_markStepS_5b1.l2 v0 v1) (laws_markStepS_5b1.t (fun b => some (laws_markStepS_5b1.mk b)) laws_markStepS_5b1.q2 v0 v1) := by
  unfold laws_markStepS_5b1.t
  repeat' first | exact Sub.ret | exact Sub.none | exact Sub.loop | apply Sub.cond | (apply Sub.bind; intro _)
theorem laws_markStepS_5b1.eq (v0 : List (Int × Int × Int)) (v1 : Int) {b : Int × (List (Int × Int × Int))} (h : laws_markStepS_5b1.t some laws_markStepS_5b1.l2 v0 v1 = some b) : laws_markStepS_5b1 v0 v1 = some b := tOf_intro laws_markStepS_5b1.un (fun _ => by kernel_rfl) (vlim_fn (callT_le E tab) rfl rfl rfl ((laws_markStepS_5b1.k v0 v1).trans (laws_markStepS_5b1.s v0 v1 b h)))
theorem laws_markStepS_5b1.s2 (v0 : List (Int × Int × Int)) (v1 : Int) (v2 : Int) : Sub laws_markStepS_5b1.mk (laws_markStepS_5b1.t2 some laws_markStepS_5b1.l2 v0 v1 v2) (laws_markStepS_5b1.t2 (fun b => some (laws_markStepS_5b1.mk b)) laws_markStepS_5b1.q2 v0 v1 v2) := by
  unfold laws_markStepS_5b1.t2
  repeat' first | exact Sub.ret | exact Sub.none | exact Sub.loop | apply Sub.cond | (apply Sub.bind; intro _)
theorem laws_markStepS_5b1.eq2 (v0 : List (Int × Int × Int)) (v1 : Int) (v2 : Int) {b : Int × (List (Int × Int × Int))} (h : laws_markStepS_5b1.t2 some laws_markStepS_5b1.l2 v0 v1 v2 = some b) : laws_markStepS_5b1.l2 v0 v1 v2 = some b := tOf_intro laws_markStepS_5b1.un (fun _ => by kernel_rfl) (loopAtL_step ((laws_markStepS_5b1.k2 v0 v1 v2).trans (laws_markStepS_5b1.s2 v0 v1 v2 b h)))
noncomputable def laws_markIntS_83f.q2 (v0 : List Int) (v1 : Int) (v2 : Int) : Option R := loopAtL E (callT E tab) 31 Try.f31 2 [.r, .l, .r, .b] (⟨(.val .one), [.d .deep (.sl (.int .i64)) v0], true, false, false, 0, 0⟩ :: vc (iL v1) :: nn 3 (vc (iL v2) :: nn 13 ([])))
noncomputable def laws_markIntS_83f.l2 (v0 : List Int) (v1 : Int) (v2 : Int) : Option (Int × (List Int)) := tOf laws_markIntS_83f.mk (laws_markIntS_83f.q2 v0 v1 v2)
noncomputable def laws_markIntS_83f.t {γ : Type} (ret : (Int × (List Int)) → Option γ) (lp2 : (List Int) → Int → Int → Option γ) (v0 : List Int) (v1 : Int) : Option γ :=
  lp2 (v0) (v1) ((0 : Int))
noncomputable def laws_markIntS_83f.t2 {γ : Type} (ret : (Int × (List Int)) → Option γ) (lp2 : (List Int) → Int → Int → Option γ) (v0 : List Int) (v1 : Int) (v2 : Int) : Option γ :=
  bif Decidable.decide (v2 < (↑v0.length : Int)) then
    bif Decidable.decide ((0 : Int) ≤ v2) then
      bif Decidable.decide (v2.toNat < v0.length) then
        bif Decidable.decide (v2.toNat < v0.length) then
          lp2 (v0.set v2.toNat v1) (Go.IntKind.i64.wrap (v1 + (1 : Int))) (Go.IntKind.i64.wrap (v2 + (1 : Int)))
        else
          none
      else
        none
    else
      none
  else
    ret (v1, v0)
theorem laws_markIntS_83f.k (v0 : List Int) (v1 : Int) : topL E (callT E tab) 31 Try.f31 (laws_markIntS_83f.c v0 v1) = laws_markIntS_83f.t (fun b => some (laws_markIntS_83f.mk b)) laws_markIntS_83f.q2 v0 v1 := by kernel_rfl
theorem laws_markIntS_83f.k2 (v0 : List Int) (v1 : Int) (v2 : Int) : roundL E (callT E tab) 31 Try.f31 2 [.r, .l, .r, .b] (⟨(.val .one), [.d .deep (.sl (.int .i64)) v0], true, false, false, 0, 0⟩ :: vc (iL v1) :: nn 3 (vc (iL v2) :: nn 13 ([]))) = laws_markIntS_83f.t2 (fun b => some (laws_markIntS_83f.mk b)) laws_markIntS_83f.q2 v0 v1 v2 := by kernel_rfl
theorem laws_markIntS_83f.s (v0 : List Int) (v1 : Int) : Sub laws_markIntS_83f.mk (laws_markIntS_83f.t some laws_markIntS_83f.l2 v0 v1) (laws_markIntS_83f.t (fun b => some (laws_markIntS_83f.mk b)) laws_markIntS_83f.q2 v0 v1) := by
  unfold laws_markIntS_83f.t
  repeat' first | exact Sub.ret | exact Sub.none | exact Sub.loop | apply Sub.cond | (apply Sub.bind; intro _)
theorem laws_markIntS_83f.eq (v0 : List Int) (v1 : Int) {b : Int × (List Int)} (h : laws_markIntS_83f.t some laws_markIntS_83f.l2 v0 v1 = some b) : laws_markIntS_83f v0 v1 = some b := tOf_intro laws_markIntS_83f.un (fun _ => by kernel_rfl) (vlim_fn (callT_le E tab) rfl rfl rfl ((laws_markIntS_83f.k v0 v1).trans (laws_markIntS_83f.s v0 v1 b h)))
theorem laws_markIntS_83f.s2 (v0 : List Int) (v1 : Int) (v2 : Int) : Sub laws_markIntS_83f.mk (laws_markIntS_83f.t2 some laws_markIntS_83f.l2 v0 v1 v2) (laws_markIntS_83f.t2 (fun b => some (laws_markIntS_83f.mk b)) laws_markIntS_83f.q2 v0 v1 v2) := by
  unfold laws_markIntS_83f.t2
  repeat' first | exact Sub.ret | exact Sub.none | exact Sub.loop | apply Sub.cond | (apply Sub.bind; intro _)
theorem laws_markIntS_83f.eq2 (v0 : List Int) (v1 : Int) (v2 : Int) {b : Int × (List Int)} (h : laws_markIntS_83f.t2 some laws_markIntS_83f.l2 v0 v1 v2 = some b) : laws_markIntS_83f.l2 v0 v1 v2 = some b := tOf_intro laws_markIntS_83f.un (fun _ => by kernel_rfl) (loopAtL_step ((laws_markIntS_83f.k2 v0 v1 v2).trans (laws_markIntS_83f.s2 v0 v1 v2 b h)))
noncomputable def laws_heldStepS.q2 (v0 : List (Int × Int × Int)) (v1 : Int) (v2 : Int) : Option R := loopAtL E (callT E tab) 37 Try.f37 2 [.r, .l, .r, .b] (vc (.d .fro (.sl (.pair (.int .i64) (.pair (.int .i64) (.int .i64)))) v0) :: vc (iL v1) :: nn 3 (vc (iL v2) :: nn 34 ([])))
noncomputable def laws_heldStepS.l2 (v0 : List (Int × Int × Int)) (v1 : Int) (v2 : Int) : Option (Int) := tOf laws_heldStepS.mk (laws_heldStepS.q2 v0 v1 v2)
noncomputable def laws_heldStepS.t {γ : Type} (ret : (Int) → Option γ) (lp2 : (List (Int × Int × Int)) → Int → Int → Option γ) (v0 : List (Int × Int × Int)) (v1 : Int) : Option γ :=
  lp2 (v0) (v1) ((0 : Int))
noncomputable def laws_heldStepS.t2 {γ : Type} (ret : (Int) → Option γ) (lp2 : (List (Int × Int × Int)) → Int → Int → Option γ) (v0 : List (Int × Int × Int)) (v1 : Int) (v2 : Int) : Option γ :=
  bif Decidable.decide (v2 < (↑v0.length : Int)) then
    bif Decidable.decide ((0 : Int) ≤ v2) then
      bif Decidable.decide (v2.toNat < v0.length) then
        bif (v0.getD v2.toNat ((0 : Int), (0 : Int), (0 : Int))).fst != v1 then
          ret ((-1 : Int))
        else
          bif Decidable.decide ((0 : Int) ≤ v2) then
            bif Decidable.decide (v2.toNat < v0.length) then
              bif (v0.getD v2.toNat ((0 : Int), (0 : Int), (0 : Int))).snd.fst != Go.IntKind.i64.wrap (v1 + (1 : Int)) then
                ret ((-1 : Int))
              else
                bif Decidable.decide ((0 : Int) ≤ v2) then
                  bif Decidable.decide (v2.toNat < v0.length) then
                    bif (v0.getD v2.toNat ((0 : Int), (0 : Int), (0 : Int))).snd.snd !=   Go.IntKind.i64.wrap (Go.IntKind.i64.wrap (v1 + (1 : Int)) + (1 : Int)) then
                      ret ((-1 : Int))
                    else
                      lp2 (v0) (Go.IntKind.i64.wrap (Go.IntKind.i64.wrap (Go.IntKind.i64.wrap (v1 + (1 : Int)) + (1 : Int)) + (1 : Int))) (Go.IntKind.i64.wrap (v2 + (1 : Int)))
                  else
                    none
                else
                  none
            else
              none
          else
            none
      else
        none
    else
      none
  else
    ret (v1)
theorem laws_heldStepS.k (v0 : List (Int × Int × Int)) (v1 : Int) : topL E (callT E tab) 37 Try.f37 (laws_heldStepS.c v0 v1) = laws_heldStepS.t (fun b => some (laws_heldStepS.mk b)) laws_heldStepS.q2 v0 v1 := by kernel_rfl
theorem laws_heldStepS.k2 (v0 : List (Int × Int × Int)) (v1 : Int) (v2 : Int) : roundL E (callT E tab) 37 Try.f37 2 [.r, .l, .r, .b] (vc (.d .fro (.sl (.pair (.int .i64) (.pair (.int .i64) (.int .i64)))) v0) :: vc (iL v1) :: nn 3 (vc (iL v2) :: nn 34 ([]))) = laws_heldStepS.t2 (fun b => some (laws_heldStepS.mk b)) laws_heldStepS.q2 v0 v1 v2 := by kernel_rfl
theorem laws_heldStepS.s (v0 : List (Int × Int × Int)) (v1 : Int) : Sub laws_heldStepS.mk (laws_heldStepS.t some laws_heldStepS.l2 v0 v1) (laws_heldStepS.t (fun b => some (laws_heldStepS.mk b)) laws_heldStepS.q2 v0 v1) := by
  unfold laws_heldStepS.t
  repeat' first | exact Sub.ret | exact Sub.none | exact Sub.loop | apply Sub.cond | (apply Sub.bind; intro _)
theorem laws_heldStepS.eq (v0 : List (Int × Int × Int)) (v1 : Int) {b : Int} (h : laws_heldStepS.t some laws_heldStepS.l2 v0 v1 = some b) : laws_heldStepS v0 v1 = some b := tOf_intro laws_heldStepS.un (fun _ => by kernel_rfl) (vlim_fn (callT_le E tab) rfl rfl rfl ((laws_heldStepS.k v0 v1).trans (laws_heldStepS.s v0 v1 b h)))
theorem laws_heldStepS.s2 (v0 : List (Int × Int × Int)) (v1 : Int) (v2 : Int) : Sub laws_heldStepS.mk (laws_heldStepS.t2 some laws_heldStepS.l2 v0 v1 v2) (laws_heldStepS.t2 (fun b => some (laws_heldStepS.mk b)) laws_heldStepS.q2 v0 v1 v2) := by
  unfold laws_heldStepS.t2
  repeat' first | exact Sub.ret | exact Sub.none | exact Sub.loop | apply Sub.cond | (apply Sub.bind; intro _)
theorem laws_heldStepS.eq2 (v0 : List (Int × Int × Int)) (v1 : Int) (v2 : Int) {b : Int} (h : laws_heldStepS.t2 some laws_heldStepS.l2 v0 v1 v2 = some b) : laws_heldStepS.l2 v0 v1 v2 = some b := tOf_intro laws_heldStepS.un (fun _ => by kernel_rfl) (loopAtL_step ((laws_heldStepS.k2 v0 v1 v2).trans (laws_heldStepS.s2 v0 v1 v2 b h)))
end GoV
