/- A part of the proof of FnExactGoodQuery: an interpreter of the model over plain data, its soundness, and what it makes of the functions that the statement reaches. Conditions: none beyond what the given statement itself says. -/
import Derived.Test.YtcilpkgidhkfjaaTH
set_option linter.unusedVariables false
set_option linter.unusedSimpArgs false
set_option linter.unnecessarySimpa false
set_option linter.unusedSectionVars false
/- The functions of the program, each told by what it answers in the end (printed by wip/tools/emit.py). -/
namespace GoV
open Go Go.Proofs
set_option maxRecDepth 100000

def laws_szIntS.c (v0 : List Int) (v1 : Int) : List Cell := vc (.d .fro (.sl (.int .i64)) v0) :: vc (iL v1) :: []
def laws_szIntS.mk (b : Int) : R := (⟨.one, [iL b]⟩, nn 2 ([]))
def laws_szIntS.un (r : R) : Int := ((leafR r 0).dat (.int .i64))
noncomputable def laws_szIntS (v0 : List Int) (v1 : Int) : Option (Int) := tOf laws_szIntS.mk (vlim E 40 (laws_szIntS.c v0 v1))
def laws_toIntS.c (v0 : List Int) : List Cell := vc (.d .fro (.sl (.int .i64)) v0) :: []
def laws_toIntS.mk (b : (List Int)) : R := (⟨.one, [.d .deep (.sl (.int .i64)) b]⟩, nn 1 ([]))
def laws_toIntS.un (r : R) : (List Int) := ((leafR r 0).dat (.sl (.int .i64)))
noncomputable def laws_toIntS (v0 : List Int) : Option ((List Int)) := tOf laws_toIntS.mk (vlim E 12 (laws_toIntS.c v0))
def spec_l1In.c (v0 : Int) (v1 : Int) (v2 : Int) : List Cell := vc (iL v0) :: vc (iL v1) :: vc (iL v2) :: []
def spec_l1In.mk (b : Bool) : R := (⟨.one, [bL b]⟩, nn 3 ([]))
def spec_l1In.un (r : R) : Bool := ((leafR r 0).dat .bool)
noncomputable def spec_l1In (v0 : Int) (v1 : Int) (v2 : Int) : Option (Bool) := tOf spec_l1In.mk (vlim E 69 (spec_l1In.c v0 v1 v2))
def impl_within.c (v0 : Int) (v1 : Int) (v2 : Int) : List Cell := vc (iL v0) :: vc (iL v1) :: vc (iL v2) :: []
def impl_within.mk (b : Bool) : R := (⟨.one, [bL b]⟩, nn 3 ([]))
def impl_within.un (r : R) : Bool := ((leafR r 0).dat .bool)
noncomputable def impl_within (v0 : Int) (v1 : Int) (v2 : Int) : Option (Bool) := tOf impl_within.mk (vlim E 81 (impl_within.c v0 v1 v2))
def impl_setOf.c (v0 : List Int) : List Cell := vc (.d .fro (.sl (.int .i64)) v0) :: []
def impl_setOf.mk (b : Int) : R := (⟨.one, [iL b]⟩, nn 1 ([]))
def impl_setOf.un (r : R) : Int := ((leafR r 0).dat (.int .i64))
noncomputable def impl_setOf (v0 : List Int) : Option (Int) := tOf impl_setOf.mk (vlim E 49 (impl_setOf.c v0))
def impl_set_list.c (v0 : Int) : List Cell := vc (iL v0) :: []
def impl_set_list.mk (b : (List Int)) : R := (⟨.one, [.d .deep (.sl (.int .i64)) b]⟩, nn 1 ([]))
def impl_set_list.un (r : R) : (List Int) := ((leafR r 0).dat (.sl (.int .i64)))
noncomputable def impl_set_list (v0 : Int) : Option ((List Int)) := tOf impl_set_list.mk (vlim E 55 (impl_set_list.c v0))
def laws_eqIntS.c (v0 : List Int) (v1 : List Int) : List Cell := vc (.d .fro (.sl (.int .i64)) v0) :: vc (.d .fro (.sl (.int .i64)) v1) :: []
def laws_eqIntS.mk (b : Bool) : R := (⟨.one, [bL b]⟩, nn 2 ([]))
def laws_eqIntS.un (r : R) : Bool := ((leafR r 0).dat .bool)
noncomputable def laws_eqIntS (v0 : List Int) (v1 : List Int) : Option (Bool) := tOf laws_eqIntS.mk (vlim E 15 (laws_eqIntS.c v0 v1))
def laws_szQuery.c (v0 : List Int) (v1 : List (Int × List Int)) (v2 : Int) : List Cell := ac [.d .fro (.sl (.int .i64)) v0, .d .fro (.sl (.pair (.int .i64) (.sl (.int .i64)))) v1] :: vc (iL v2) :: []
def laws_szQuery.mk (b : Int) : R := (⟨.one, [iL b]⟩, nn 2 ([]))
def laws_szQuery.un (r : R) : Int := ((leafR r 0).dat (.int .i64))
noncomputable def laws_szQuery (v0 : List Int) (v1 : List (Int × List Int)) (v2 : Int) : Option (Int) := tOf laws_szQuery.mk (vlim E 25 (laws_szQuery.c v0 v1 v2))
def laws_szAtomS.c (v0 : List (Int × List Int)) (v1 : Int) : List Cell := vc (.d .fro (.sl (.pair (.int .i64) (.sl (.int .i64)))) v0) :: vc (iL v1) :: []
def laws_szAtomS.mk (b : Int) : R := (⟨.one, [iL b]⟩, nn 2 ([]))
def laws_szAtomS.un (r : R) : Int := ((leafR r 0).dat (.int .i64))
noncomputable def laws_szAtomS (v0 : List (Int × List Int)) (v1 : Int) : Option (Int) := tOf laws_szAtomS.mk (vlim E 57 (laws_szAtomS.c v0 v1))
def laws_szAtom.c (v0 : Int) (v1 : List Int) (v2 : Int) : List Cell := ac [iL v0, .d .fro (.sl (.int .i64)) v1] :: vc (iL v2) :: []
def laws_szAtom.mk (b : Int) : R := (⟨.one, [iL b]⟩, nn 2 ([]))
def laws_szAtom.un (r : R) : Int := ((leafR r 0).dat (.int .i64))
noncomputable def laws_szAtom (v0 : Int) (v1 : List Int) (v2 : Int) : Option (Int) := tOf laws_szAtom.mk (vlim E 90 (laws_szAtom.c v0 v1 v2))
def laws_toQuery.c (v0 : List Int) (v1 : List (Int × List Int)) : List Cell := ac [.d .fro (.sl (.int .i64)) v0, .d .fro (.sl (.pair (.int .i64) (.sl (.int .i64)))) v1] :: []
def laws_toQuery.mk (b : (List Int) × (List (Int × List Int))) : R := (⟨.agg, [.d .deep (.sl (.int .i64)) b.1, .d .deep (.sl (.pair (.int .i64) (.sl (.int .i64)))) b.2]⟩, nn 1 ([]))
def laws_toQuery.un (r : R) : (List Int) × (List (Int × List Int)) := ((leafR r 0).dat (.sl (.int .i64)), (leafR r 1).dat (.sl (.pair (.int .i64) (.sl (.int .i64)))))
noncomputable def laws_toQuery (v0 : List Int) (v1 : List (Int × List Int)) : Option ((List Int) × (List (Int × List Int))) := tOf laws_toQuery.mk (vlim E 27 (laws_toQuery.c v0 v1))
def laws_toAtomS.c (v0 : List (Int × List Int)) : List Cell := vc (.d .fro (.sl (.pair (.int .i64) (.sl (.int .i64)))) v0) :: []
def laws_toAtomS.mk (b : (List (Int × List Int))) : R := (⟨.one, [.d .deep (.sl (.pair (.int .i64) (.sl (.int .i64)))) b]⟩, nn 1 ([]))
def laws_toAtomS.un (r : R) : (List (Int × List Int)) := ((leafR r 0).dat (.sl (.pair (.int .i64) (.sl (.int .i64)))))
noncomputable def laws_toAtomS (v0 : List (Int × List Int)) : Option ((List (Int × List Int))) := tOf laws_toAtomS.mk (vlim E 60 (laws_toAtomS.c v0))
def laws_toAtom.c (v0 : Int) (v1 : List Int) : List Cell := ac [iL v0, .d .fro (.sl (.int .i64)) v1] :: []
def laws_toAtom.mk (b : Int × (List Int)) : R := (⟨.agg, [iL b.1, .d .deep (.sl (.int .i64)) b.2]⟩, nn 1 ([]))
def laws_toAtom.un (r : R) : Int × (List Int) := ((leafR r 0).dat (.int .i64), (leafR r 1).dat (.sl (.int .i64)))
noncomputable def laws_toAtom (v0 : Int) (v1 : List Int) : Option (Int × (List Int)) := tOf laws_toAtom.mk (vlim E 91 (laws_toAtom.c v0 v1))
def spec_l10Var.c (v0 : Int) : List Cell := vc (iL v0) :: []
def spec_l10Var.mk (b : Bool) : R := (⟨.one, [bL b]⟩, nn 1 ([]))
def spec_l10Var.un (r : R) : Bool := ((leafR r 0).dat .bool)
noncomputable def spec_l10Var (v0 : Int) : Option (Bool) := tOf spec_l10Var.mk (vlim E 58 (spec_l10Var.c v0))
def spec_l10Vars.c (v0 : List Int) (v1 : List (Int × List Int)) : List Cell := ac [.d .fro (.sl (.int .i64)) v0, .d .fro (.sl (.pair (.int .i64) (.sl (.int .i64)))) v1] :: []
def spec_l10Vars.mk (b : (List Int)) : R := (⟨.one, [.d .fro (.sl (.int .i64)) b]⟩, nn 1 ([]))
def spec_l10Vars.un (r : R) : (List Int) := ((leafR r 0).dat (.sl (.int .i64)))
noncomputable def spec_l10Vars (v0 : List Int) (v1 : List (Int × List Int)) : Option ((List Int)) := tOf spec_l10Vars.mk (vlim E 59 (spec_l10Vars.c v0 v1))
def spec_l7Put.c (v0 : List Int) (v1 : Int) : List Cell := vc (.d .fro (.sl (.int .i64)) v0) :: vc (iL v1) :: []
def spec_l7Put.mk (b : (List Int)) : R := (⟨.one, [.d .fro (.sl (.int .i64)) b]⟩, nn 2 ([]))
def spec_l7Put.un (r : R) : (List Int) := ((leafR r 0).dat (.sl (.int .i64)))
noncomputable def spec_l7Put (v0 : List Int) (v1 : Int) : Option ((List Int)) := tOf spec_l7Put.mk (vlim E 86 (spec_l7Put.c v0 v1))
def spec_l1Has.c (v0 : List Int) (v1 : Int) : List Cell := vc (.d .fro (.sl (.int .i64)) v0) :: vc (iL v1) :: []
def spec_l1Has.mk (b : Bool) : R := (⟨.one, [bL b]⟩, nn 2 ([]))
def spec_l1Has.un (r : R) : Bool := ((leafR r 0).dat .bool)
noncomputable def spec_l1Has (v0 : List Int) (v1 : Int) : Option (Bool) := tOf spec_l1Has.mk (vlim E 73 (spec_l1Has.c v0 v1))
def impl_areAll_int_impl_isVar.c (v0 : List Int) : List Cell := vc (.d .fro (.sl (.int .i64)) v0) :: vc (.fn 64 []) :: []
def impl_areAll_int_impl_isVar.mk (b : Bool) : R := (⟨.one, [bL b]⟩, nn 2 ([]))
def impl_areAll_int_impl_isVar.un (r : R) : Bool := ((leafR r 0).dat .bool)
noncomputable def impl_areAll_int_impl_isVar (v0 : List Int) : Option (Bool) := tOf impl_areAll_int_impl_isVar.mk (vlim E 63 (impl_areAll_int_impl_isVar.c v0))
def slices_ContainsFunc_int_int_impl_areAll_int_1_impl_isVar.c (v0 : List Int) : List Cell := vc (.d .fro (.sl (.int .i64)) v0) :: vc (.fn 95 [.rp [.fn 64 []] 0]) :: []
def slices_ContainsFunc_int_int_impl_areAll_int_1_impl_isVar.mk (b : Bool) : R := (⟨.one, [bL b]⟩, nn 2 ([]))
def slices_ContainsFunc_int_int_impl_areAll_int_1_impl_isVar.un (r : R) : Bool := ((leafR r 0).dat .bool)
noncomputable def slices_ContainsFunc_int_int_impl_areAll_int_1_impl_isVar (v0 : List Int) : Option (Bool) := tOf slices_ContainsFunc_int_int_impl_areAll_int_1_impl_isVar.mk (vlim E 94 (slices_ContainsFunc_int_int_impl_areAll_int_1_impl_isVar.c v0))
def slices_IndexFunc_int_int_impl_areAll_int_1_impl_isVar.c (v0 : List Int) : List Cell := vc (.d .fro (.sl (.int .i64)) v0) :: vc (.fn 95 [.rp [.fn 64 []] 0]) :: []
def slices_IndexFunc_int_int_impl_areAll_int_1_impl_isVar.mk (b : Int) : R := (⟨.one, [iL b]⟩, nn 2 ([]))
def slices_IndexFunc_int_int_impl_areAll_int_1_impl_isVar.un (r : R) : Int := ((leafR r 0).dat (.int .i64))
noncomputable def slices_IndexFunc_int_int_impl_areAll_int_1_impl_isVar (v0 : List Int) : Option (Int) := tOf slices_IndexFunc_int_int_impl_areAll_int_1_impl_isVar.mk (vlim E 108 (slices_IndexFunc_int_int_impl_areAll_int_1_impl_isVar.c v0))
def impl_areAll_int_1_impl_isVar.c (v0 : Int) : List Cell := vc (iL v0) :: vc (.rp [.fn 64 []] 0) :: []
def impl_areAll_int_1_impl_isVar.mk (b : Bool) : R := (⟨.one, [bL b]⟩, nn 2 ([]))
def impl_areAll_int_1_impl_isVar.un (r : R) : Bool := ((leafR r 0).dat .bool)
noncomputable def impl_areAll_int_1_impl_isVar (v0 : Int) : Option (Bool) := tOf impl_areAll_int_1_impl_isVar.mk (vlim E 95 (impl_areAll_int_1_impl_isVar.c v0))
def impl_isVar.c (v0 : Int) : List Cell := vc (iL v0) :: []
def impl_isVar.mk (b : Bool) : R := (⟨.one, [bL b]⟩, nn 1 ([]))
def impl_isVar.un (r : R) : Bool := ((leafR r 0).dat .bool)
noncomputable def impl_isVar (v0 : Int) : Option (Bool) := tOf impl_isVar.mk (vlim E 64 (impl_isVar.c v0))
def impl_vars.c (v0 : List (Int × List Int)) : List Cell := vc (.d .fro (.sl (.pair (.int .i64) (.sl (.int .i64)))) v0) :: []
def impl_vars.mk (b : (List Int)) : R := (⟨.one, [.d .deep (.sl (.int .i64)) b]⟩, nn 1 ([]))
def impl_vars.un (r : R) : (List Int) := ((leafR r 0).dat (.sl (.int .i64)))
noncomputable def impl_vars (v0 : List (Int × List Int)) : Option ((List Int)) := tOf impl_vars.mk (vlim E 65 (impl_vars.c v0))
def laws_eqQuery.c (v0 : List Int) (v1 : List (Int × List Int)) (v2 : List Int) (v3 : List (Int × List Int)) : List Cell := ac [.d .fro (.sl (.int .i64)) v0, .d .fro (.sl (.pair (.int .i64) (.sl (.int .i64)))) v1] :: ac [.d .fro (.sl (.int .i64)) v2, .d .fro (.sl (.pair (.int .i64) (.sl (.int .i64)))) v3] :: []
def laws_eqQuery.mk (b : Bool) : R := (⟨.one, [bL b]⟩, nn 2 ([]))
def laws_eqQuery.un (r : R) : Bool := ((leafR r 0).dat .bool)
noncomputable def laws_eqQuery (v0 : List Int) (v1 : List (Int × List Int)) (v2 : List Int) (v3 : List (Int × List Int)) : Option (Bool) := tOf laws_eqQuery.mk (vlim E 29 (laws_eqQuery.c v0 v1 v2 v3))
def laws_eqAtomS.c (v0 : List (Int × List Int)) (v1 : List (Int × List Int)) : List Cell := vc (.d .fro (.sl (.pair (.int .i64) (.sl (.int .i64)))) v0) :: vc (.d .fro (.sl (.pair (.int .i64) (.sl (.int .i64)))) v1) :: []
def laws_eqAtomS.mk (b : Bool) : R := (⟨.one, [bL b]⟩, nn 2 ([]))
def laws_eqAtomS.un (r : R) : Bool := ((leafR r 0).dat .bool)
noncomputable def laws_eqAtomS (v0 : List (Int × List Int)) (v1 : List (Int × List Int)) : Option (Bool) := tOf laws_eqAtomS.mk (vlim E 66 (laws_eqAtomS.c v0 v1))
def laws_eqAtom.c (v0 : Int) (v1 : List Int) (v2 : Int) (v3 : List Int) : List Cell := ac [iL v0, .d .fro (.sl (.int .i64)) v1] :: ac [iL v2, .d .fro (.sl (.int .i64)) v3] :: []
def laws_eqAtom.mk (b : Bool) : R := (⟨.one, [bL b]⟩, nn 2 ([]))
def laws_eqAtom.un (r : R) : Bool := ((leafR r 0).dat .bool)
noncomputable def laws_eqAtom (v0 : Int) (v1 : List Int) (v2 : Int) (v3 : List Int) : Option (Bool) := tOf laws_eqAtom.mk (vlim E 96 (laws_eqAtom.c v0 v1 v2 v3))
def laws_FnExactGoodQuery.c (v0 : List Int) (v1 : List (Int × List Int)) (v2 : List Int) : List Cell := ac [.d .fro (.sl (.int .i64)) v0, .d .fro (.sl (.pair (.int .i64) (.sl (.int .i64)))) v1] :: vc (.d .fro (.sl (.int .i64)) v2) :: []
def laws_FnExactGoodQuery.mk (b : Bool) : R := (⟨.one, [bL b]⟩, nn 2 ([]))
def laws_FnExactGoodQuery.un (r : R) : Bool := ((leafR r 0).dat .bool)
noncomputable def laws_FnExactGoodQuery (v0 : List Int) (v1 : List (Int × List Int)) (v2 : List Int) : Option (Bool) := tOf laws_FnExactGoodQuery.mk (vlim E 6 (laws_FnExactGoodQuery.c v0 v1 v2))
def spec_GoodQuery.c (v0 : List Int) (v1 : List (Int × List Int)) (v2 : List Int) : List Cell := ac [.d .fro (.sl (.int .i64)) v0, .d .fro (.sl (.pair (.int .i64) (.sl (.int .i64)))) v1] :: vc (.d .fro (.sl (.int .i64)) v2) :: []
def spec_GoodQuery.mk (b : Bool) : R := (⟨.one, [bL b]⟩, nn 2 ([]))
def spec_GoodQuery.un (r : R) : Bool := ((leafR r 0).dat .bool)
noncomputable def spec_GoodQuery (v0 : List Int) (v1 : List (Int × List Int)) (v2 : List Int) : Option (Bool) := tOf spec_GoodQuery.mk (vlim E 33 (spec_GoodQuery.c v0 v1 v2))
def spec_l10Tables.c (v0 : List Int) : List Cell := vc (.d .fro (.sl (.int .i64)) v0) :: []
def spec_l10Tables.mk (b : Bool) : R := (⟨.one, [bL b]⟩, nn 1 ([]))
def spec_l10Tables.un (r : R) : Bool := ((leafR r 0).dat .bool)
noncomputable def spec_l10Tables (v0 : List Int) : Option (Bool) := tOf spec_l10Tables.mk (vlim E 68 (spec_l10Tables.c v0))
def spec_l7All.c (v0 : List Int) (v1 : List Int) : List Cell := vc (.d .fro (.sl (.int .i64)) v0) :: vc (.d .fro (.sl (.int .i64)) v1) :: []
def spec_l7All.mk (b : Bool) : R := (⟨.one, [bL b]⟩, nn 2 ([]))
def spec_l7All.un (r : R) : Bool := ((leafR r 0).dat .bool)
noncomputable def spec_l7All (v0 : List Int) (v1 : List Int) : Option (Bool) := tOf spec_l7All.mk (vlim E 70 (spec_l7All.c v0 v1))
def impl_GoodQuery.c (v0 : List Int) (v1 : List (Int × List Int)) (v2 : List Int) : List Cell := ac [.d .fro (.sl (.int .i64)) v0, .d .fro (.sl (.pair (.int .i64) (.sl (.int .i64)))) v1] :: vc (.d .fro (.sl (.int .i64)) v2) :: []
def impl_GoodQuery.mk (b : Bool) : R := (⟨.one, [bL b]⟩, nn 2 ([]))
def impl_GoodQuery.un (r : R) : Bool := ((leafR r 0).dat .bool)
noncomputable def impl_GoodQuery (v0 : List Int) (v1 : List (Int × List Int)) (v2 : List Int) : Option (Bool) := tOf impl_GoodQuery.mk (vlim E 34 (impl_GoodQuery.c v0 v1 v2))
def impl_areTables.c (v0 : List Int) : List Cell := vc (.d .fro (.sl (.int .i64)) v0) :: []
def impl_areTables.mk (b : Bool) : R := (⟨.one, [bL b]⟩, nn 1 ([]))
def impl_areTables.un (r : R) : Bool := ((leafR r 0).dat .bool)
noncomputable def impl_areTables (v0 : List Int) : Option (Bool) := tOf impl_areTables.mk (vlim E 71 (impl_areTables.c v0))
def impl_areAll_int_impl_areTables_1.c (v0 : List Int) : List Cell := vc (.d .fro (.sl (.int .i64)) v0) :: vc (.fn 97 []) :: []
def impl_areAll_int_impl_areTables_1.mk (b : Bool) : R := (⟨.one, [bL b]⟩, nn 2 ([]))
def impl_areAll_int_impl_areTables_1.un (r : R) : Bool := ((leafR r 0).dat .bool)
noncomputable def impl_areAll_int_impl_areTables_1 (v0 : List Int) : Option (Bool) := tOf impl_areAll_int_impl_areTables_1.mk (vlim E 63 (impl_areAll_int_impl_areTables_1.c v0))
def slices_ContainsFunc_int_int_impl_areAll_int_1_impl_areTables_1.c (v0 : List Int) : List Cell := vc (.d .fro (.sl (.int .i64)) v0) :: vc (.fn 95 [.rp [.fn 97 []] 0]) :: []
def slices_ContainsFunc_int_int_impl_areAll_int_1_impl_areTables_1.mk (b : Bool) : R := (⟨.one, [bL b]⟩, nn 2 ([]))
def slices_ContainsFunc_int_int_impl_areAll_int_1_impl_areTables_1.un (r : R) : Bool := ((leafR r 0).dat .bool)
noncomputable def slices_ContainsFunc_int_int_impl_areAll_int_1_impl_areTables_1 (v0 : List Int) : Option (Bool) := tOf slices_ContainsFunc_int_int_impl_areAll_int_1_impl_areTables_1.mk (vlim E 94 (slices_ContainsFunc_int_int_impl_areAll_int_1_impl_areTables_1.c v0))
def slices_IndexFunc_int_int_impl_areAll_int_1_impl_areTables_1.c (v0 : List Int) : List Cell := vc (.d .fro (.sl (.int .i64)) v0) :: vc (.fn 95 [.rp [.fn 97 []] 0]) :: []
def slices_IndexFunc_int_int_impl_areAll_int_1_impl_areTables_1.mk (b : Int) : R := (⟨.one, [iL b]⟩, nn 2 ([]))
def slices_IndexFunc_int_int_impl_areAll_int_1_impl_areTables_1.un (r : R) : Int := ((leafR r 0).dat (.int .i64))
noncomputable def slices_IndexFunc_int_int_impl_areAll_int_1_impl_areTables_1 (v0 : List Int) : Option (Int) := tOf slices_IndexFunc_int_int_impl_areAll_int_1_impl_areTables_1.mk (vlim E 108 (slices_IndexFunc_int_int_impl_areAll_int_1_impl_areTables_1.c v0))
def impl_areAll_int_1_impl_areTables_1.c (v0 : Int) : List Cell := vc (iL v0) :: vc (.rp [.fn 97 []] 0) :: []
def impl_areAll_int_1_impl_areTables_1.mk (b : Bool) : R := (⟨.one, [bL b]⟩, nn 2 ([]))
def impl_areAll_int_1_impl_areTables_1.un (r : R) : Bool := ((leafR r 0).dat .bool)
noncomputable def impl_areAll_int_1_impl_areTables_1 (v0 : Int) : Option (Bool) := tOf impl_areAll_int_1_impl_areTables_1.mk (vlim E 95 (impl_areAll_int_1_impl_areTables_1.c v0))
def impl_areTables_1.c (v0 : Int) : List Cell := vc (iL v0) :: []
def impl_areTables_1.mk (b : Bool) : R := (⟨.one, [bL b]⟩, nn 1 ([]))
def impl_areTables_1.un (r : R) : Bool := ((leafR r 0).dat .bool)
noncomputable def impl_areTables_1 (v0 : Int) : Option (Bool) := tOf impl_areTables_1.mk (vlim E 97 (impl_areTables_1.c v0))
def impl_isQuery.c (v0 : List Int) (v1 : List (Int × List Int)) (v2 : List Int) : List Cell := ac [.d .fro (.sl (.int .i64)) v0, .d .fro (.sl (.pair (.int .i64) (.sl (.int .i64)))) v1] :: vc (.d .fro (.sl (.int .i64)) v2) :: []
def impl_isQuery.mk (b : Bool) : R := (⟨.one, [bL b]⟩, nn 2 ([]))
def impl_isQuery.un (r : R) : Bool := ((leafR r 0).dat .bool)
noncomputable def impl_isQuery (v0 : List Int) (v1 : List (Int × List Int)) (v2 : List Int) : Option (Bool) := tOf impl_isQuery.mk (vlim E 72 (impl_isQuery.c v0 v1 v2))
def impl_areAll_impl_Atom_impl_isQuery_1.c (v0 : List (Int × List Int)) (v1 : List Int) : List Cell := vc (.d .fro (.sl (.pair (.int .i64) (.sl (.int .i64)))) v0) :: vc (.fn 98 [.rp [.d .fro (.sl (.int .i64)) v1] 0]) :: []
def impl_areAll_impl_Atom_impl_isQuery_1.mk (b : Bool) : R := (⟨.one, [bL b]⟩, nn 2 ([]))
def impl_areAll_impl_Atom_impl_isQuery_1.un (r : R) : Bool := ((leafR r 0).dat .bool)
noncomputable def impl_areAll_impl_Atom_impl_isQuery_1 (v0 : List (Int × List Int)) (v1 : List Int) : Option (Bool) := tOf impl_areAll_impl_Atom_impl_isQuery_1.mk (vlim E 61 (impl_areAll_impl_Atom_impl_isQuery_1.c v0 v1))
def slices_ContainsFunc_impl_Atom_impl_Atom_impl_areAll_impl_Atom_1_impl_isQuery_1.c (v0 : List (Int × List Int)) (v1 : List Int) : List Cell := vc (.d .fro (.sl (.pair (.int .i64) (.sl (.int .i64)))) v0) :: vc (.fn 93 [.rp [.fn 98 [.rp [.d .fro (.sl (.int .i64)) v1] 0]] 0]) :: []
def slices_ContainsFunc_impl_Atom_impl_Atom_impl_areAll_impl_Atom_1_impl_isQuery_1.mk (b : Bool) : R := (⟨.one, [bL b]⟩, nn 2 ([]))
def slices_ContainsFunc_impl_Atom_impl_Atom_impl_areAll_impl_Atom_1_impl_isQuery_1.un (r : R) : Bool := ((leafR r 0).dat .bool)
noncomputable def slices_ContainsFunc_impl_Atom_impl_Atom_impl_areAll_impl_Atom_1_impl_isQuery_1 (v0 : List (Int × List Int)) (v1 : List Int) : Option (Bool) := tOf slices_ContainsFunc_impl_Atom_impl_Atom_impl_areAll_impl_Atom_1_impl_isQuery_1.mk (vlim E 92 (slices_ContainsFunc_impl_Atom_impl_Atom_impl_areAll_impl_Atom_1_impl_isQuery_1.c v0 v1))
def slices_IndexFunc_impl_Atom_impl_Atom_impl_areAll_impl_Atom_1_impl_isQuery_1.c (v0 : List (Int × List Int)) (v1 : List Int) : List Cell := vc (.d .fro (.sl (.pair (.int .i64) (.sl (.int .i64)))) v0) :: vc (.fn 93 [.rp [.fn 98 [.rp [.d .fro (.sl (.int .i64)) v1] 0]] 0]) :: []
def slices_IndexFunc_impl_Atom_impl_Atom_impl_areAll_impl_Atom_1_impl_isQuery_1.mk (b : Int) : R := (⟨.one, [iL b]⟩, nn 2 ([]))
def slices_IndexFunc_impl_Atom_impl_Atom_impl_areAll_impl_Atom_1_impl_isQuery_1.un (r : R) : Int := ((leafR r 0).dat (.int .i64))
noncomputable def slices_IndexFunc_impl_Atom_impl_Atom_impl_areAll_impl_Atom_1_impl_isQuery_1 (v0 : List (Int × List Int)) (v1 : List Int) : Option (Int) := tOf slices_IndexFunc_impl_Atom_impl_Atom_impl_areAll_impl_Atom_1_impl_isQuery_1.mk (vlim E 107 (slices_IndexFunc_impl_Atom_impl_Atom_impl_areAll_impl_Atom_1_impl_isQuery_1.c v0 v1))
def impl_areAll_impl_Atom_1_impl_isQuery_1.c (v0 : Int) (v1 : List Int) (v2 : List Int) : List Cell := ac [iL v0, .d .fro (.sl (.int .i64)) v1] :: vc (.rp [.fn 98 [.rp [.d .fro (.sl (.int .i64)) v2] 0]] 0) :: []
def impl_areAll_impl_Atom_1_impl_isQuery_1.mk (b : Bool) : R := (⟨.one, [bL b]⟩, nn 2 ([]))
def impl_areAll_impl_Atom_1_impl_isQuery_1.un (r : R) : Bool := ((leafR r 0).dat .bool)
noncomputable def impl_areAll_impl_Atom_1_impl_isQuery_1 (v0 : Int) (v1 : List Int) (v2 : List Int) : Option (Bool) := tOf impl_areAll_impl_Atom_1_impl_isQuery_1.mk (vlim E 93 (impl_areAll_impl_Atom_1_impl_isQuery_1.c v0 v1 v2))
def impl_isQuery_1.c (v0 : Int) (v1 : List Int) (v2 : List Int) : List Cell := ac [iL v0, .d .fro (.sl (.int .i64)) v1] :: vc (.rp [.d .fro (.sl (.int .i64)) v2] 0) :: []
def impl_isQuery_1.mk (b : Bool) : R := (⟨.one, [bL b]⟩, nn 2 ([]))
def impl_isQuery_1.un (r : R) : Bool := ((leafR r 0).dat .bool)
noncomputable def impl_isQuery_1 (v0 : Int) (v1 : List Int) (v2 : List Int) : Option (Bool) := tOf impl_isQuery_1.mk (vlim E 98 (impl_isQuery_1.c v0 v1 v2))
def impl_isHead.c (v0 : List Int) (v1 : List (Int × List Int)) : List Cell := vc (.d .fro (.sl (.int .i64)) v0) :: vc (.d .fro (.sl (.pair (.int .i64) (.sl (.int .i64)))) v1) :: []
def impl_isHead.mk (b : Bool) : R := (⟨.one, [bL b]⟩, nn 2 ([]))
def impl_isHead.un (r : R) : Bool := ((leafR r 0).dat .bool)
noncomputable def impl_isHead (v0 : List Int) (v1 : List (Int × List Int)) : Option (Bool) := tOf impl_isHead.mk (vlim E 99 (impl_isHead.c v0 v1))
def impl_areAll_int_impl_isHead_1.c (v0 : List Int) (v1 : List Int) : List Cell := vc (.d .fro (.sl (.int .i64)) v0) :: vc (.fn 109 [.rp [.d .fro (.sl (.int .i64)) v1] 0]) :: []
def impl_areAll_int_impl_isHead_1.mk (b : Bool) : R := (⟨.one, [bL b]⟩, nn 2 ([]))
def impl_areAll_int_impl_isHead_1.un (r : R) : Bool := ((leafR r 0).dat .bool)
noncomputable def impl_areAll_int_impl_isHead_1 (v0 : List Int) (v1 : List Int) : Option (Bool) := tOf impl_areAll_int_impl_isHead_1.mk (vlim E 63 (impl_areAll_int_impl_isHead_1.c v0 v1))
def slices_ContainsFunc_int_int_impl_areAll_int_1_impl_isHead_1.c (v0 : List Int) (v1 : List Int) : List Cell := vc (.d .fro (.sl (.int .i64)) v0) :: vc (.fn 95 [.rp [.fn 109 [.rp [.d .fro (.sl (.int .i64)) v1] 0]] 0]) :: []
def slices_ContainsFunc_int_int_impl_areAll_int_1_impl_isHead_1.mk (b : Bool) : R := (⟨.one, [bL b]⟩, nn 2 ([]))
def slices_ContainsFunc_int_int_impl_areAll_int_1_impl_isHead_1.un (r : R) : Bool := ((leafR r 0).dat .bool)
noncomputable def slices_ContainsFunc_int_int_impl_areAll_int_1_impl_isHead_1 (v0 : List Int) (v1 : List Int) : Option (Bool) := tOf slices_ContainsFunc_int_int_impl_areAll_int_1_impl_isHead_1.mk (vlim E 94 (slices_ContainsFunc_int_int_impl_areAll_int_1_impl_isHead_1.c v0 v1))
def slices_IndexFunc_int_int_impl_areAll_int_1_impl_isHead_1.c (v0 : List Int) (v1 : List Int) : List Cell := vc (.d .fro (.sl (.int .i64)) v0) :: vc (.fn 95 [.rp [.fn 109 [.rp [.d .fro (.sl (.int .i64)) v1] 0]] 0]) :: []
def slices_IndexFunc_int_int_impl_areAll_int_1_impl_isHead_1.mk (b : Int) : R := (⟨.one, [iL b]⟩, nn 2 ([]))
def slices_IndexFunc_int_int_impl_areAll_int_1_impl_isHead_1.un (r : R) : Int := ((leafR r 0).dat (.int .i64))
noncomputable def slices_IndexFunc_int_int_impl_areAll_int_1_impl_isHead_1 (v0 : List Int) (v1 : List Int) : Option (Int) := tOf slices_IndexFunc_int_int_impl_areAll_int_1_impl_isHead_1.mk (vlim E 108 (slices_IndexFunc_int_int_impl_areAll_int_1_impl_isHead_1.c v0 v1))
def impl_areAll_int_1_impl_isHead_1.c (v0 : Int) (v1 : List Int) : List Cell := vc (iL v0) :: vc (.rp [.fn 109 [.rp [.d .fro (.sl (.int .i64)) v1] 0]] 0) :: []
def impl_areAll_int_1_impl_isHead_1.mk (b : Bool) : R := (⟨.one, [bL b]⟩, nn 2 ([]))
def impl_areAll_int_1_impl_isHead_1.un (r : R) : Bool := ((leafR r 0).dat .bool)
noncomputable def impl_areAll_int_1_impl_isHead_1 (v0 : Int) (v1 : List Int) : Option (Bool) := tOf impl_areAll_int_1_impl_isHead_1.mk (vlim E 95 (impl_areAll_int_1_impl_isHead_1.c v0 v1))
def impl_isHead_1.c (v0 : Int) (v1 : List Int) : List Cell := vc (iL v0) :: vc (.rp [.d .fro (.sl (.int .i64)) v1] 0) :: []
def impl_isHead_1.mk (b : Bool) : R := (⟨.one, [bL b]⟩, nn 2 ([]))
def impl_isHead_1.un (r : R) : Bool := ((leafR r 0).dat .bool)
noncomputable def impl_isHead_1 (v0 : Int) (v1 : List Int) : Option (Bool) := tOf impl_isHead_1.mk (vlim E 109 (impl_isHead_1.c v0 v1))
def slices_Contains_int_int.c (v0 : List Int) (v1 : Int) : List Cell := vc (.d .fro (.sl (.int .i64)) v0) :: vc (iL v1) :: []
def slices_Contains_int_int.mk (b : Bool) : R := (⟨.one, [bL b]⟩, nn 2 ([]))
def slices_Contains_int_int.un (r : R) : Bool := ((leafR r 0).dat .bool)
noncomputable def slices_Contains_int_int (v0 : List Int) (v1 : Int) : Option (Bool) := tOf slices_Contains_int_int.mk (vlim E 110 (slices_Contains_int_int.c v0 v1))
def slices_Index_int_int.c (v0 : List Int) (v1 : Int) : List Cell := vc (.d .fro (.sl (.int .i64)) v0) :: vc (iL v1) :: []
def slices_Index_int_int.mk (b : Int) : R := (⟨.one, [iL b]⟩, nn 2 ([]))
def slices_Index_int_int.un (r : R) : Int := ((leafR r 0).dat (.int .i64))
noncomputable def slices_Index_int_int (v0 : List Int) (v1 : Int) : Option (Int) := tOf slices_Index_int_int.mk (vlim E 114 (slices_Index_int_int.c v0 v1))
def tabT : List (Nat × List (List Cell × Tb)) := [
  (6, [(laws_FnExactGoodQuery.c [] [] [], ⟨Bool, laws_FnExactGoodQuery.mk⟩)]),
  (12, [(laws_toIntS.c [], ⟨(List Int), laws_toIntS.mk⟩)]),
  (15, [(laws_eqIntS.c [] [], ⟨Bool, laws_eqIntS.mk⟩)]),
  (25, [(laws_szQuery.c [] [] 0, ⟨Int, laws_szQuery.mk⟩)]),
  (27, [(laws_toQuery.c [] [], ⟨(List Int) × (List (Int × List Int)), laws_toQuery.mk⟩)]),
  (29, [(laws_eqQuery.c [] [] [] [], ⟨Bool, laws_eqQuery.mk⟩)]),
  (33, [(spec_GoodQuery.c [] [] [], ⟨Bool, spec_GoodQuery.mk⟩)]),
  (34, [(impl_GoodQuery.c [] [] [], ⟨Bool, impl_GoodQuery.mk⟩)]),
  (40, [(laws_szIntS.c [] 0, ⟨Int, laws_szIntS.mk⟩)]),
  (49, [(impl_setOf.c [], ⟨Int, impl_setOf.mk⟩)]),
  (55, [(impl_set_list.c 0, ⟨(List Int), impl_set_list.mk⟩)]),
  (57, [(laws_szAtomS.c [] 0, ⟨Int, laws_szAtomS.mk⟩)]),
  (58, [(spec_l10Var.c 0, ⟨Bool, spec_l10Var.mk⟩)]),
  (59, [(spec_l10Vars.c [] [], ⟨(List Int), spec_l10Vars.mk⟩)]),
  (60, [(laws_toAtomS.c [], ⟨(List (Int × List Int)), laws_toAtomS.mk⟩)]),
  (61, [(impl_areAll_impl_Atom_impl_isQuery_1.c [] [], ⟨Bool, impl_areAll_impl_Atom_impl_isQuery_1.mk⟩)]),
  (63, [(impl_areAll_int_impl_isVar.c [], ⟨Bool, impl_areAll_int_impl_isVar.mk⟩), (impl_areAll_int_impl_areTables_1.c [], ⟨Bool, impl_areAll_int_impl_areTables_1.mk⟩), (impl_areAll_int_impl_isHead_1.c [] [], ⟨Bool, impl_areAll_int_impl_isHead_1.mk⟩)]),
  (64, [(impl_isVar.c 0, ⟨Bool, impl_isVar.mk⟩)]),
  (65, [(impl_vars.c [], ⟨(List Int), impl_vars.mk⟩)]),
  (66, [(laws_eqAtomS.c [] [], ⟨Bool, laws_eqAtomS.mk⟩)]),
  (68, [(spec_l10Tables.c [], ⟨Bool, spec_l10Tables.mk⟩)]),
  (69, [(spec_l1In.c 0 0 0, ⟨Bool, spec_l1In.mk⟩)]),
  (70, [(spec_l7All.c [] [], ⟨Bool, spec_l7All.mk⟩)]),
  (71, [(impl_areTables.c [], ⟨Bool, impl_areTables.mk⟩)]),
  (72, [(impl_isQuery.c [] [] [], ⟨Bool, impl_isQuery.mk⟩)]),
  (73, [(spec_l1Has.c [] 0, ⟨Bool, spec_l1Has.mk⟩)]),
  (81, [(impl_within.c 0 0 0, ⟨Bool, impl_within.mk⟩)]),
  (86, [(spec_l7Put.c [] 0, ⟨(List Int), spec_l7Put.mk⟩)]),
  (90, [(laws_szAtom.c 0 [] 0, ⟨Int, laws_szAtom.mk⟩)]),
  (91, [(laws_toAtom.c 0 [], ⟨Int × (List Int), laws_toAtom.mk⟩)]),
  (92, [(slices_ContainsFunc_impl_Atom_impl_Atom_impl_areAll_impl_Atom_1_impl_isQuery_1.c [] [], ⟨Bool, slices_ContainsFunc_impl_Atom_impl_Atom_impl_areAll_impl_Atom_1_impl_isQuery_1.mk⟩)]),
  (93, [(impl_areAll_impl_Atom_1_impl_isQuery_1.c 0 [] [], ⟨Bool, impl_areAll_impl_Atom_1_impl_isQuery_1.mk⟩)]),
  (94, [(slices_ContainsFunc_int_int_impl_areAll_int_1_impl_isVar.c [], ⟨Bool, slices_ContainsFunc_int_int_impl_areAll_int_1_impl_isVar.mk⟩), (slices_ContainsFunc_int_int_impl_areAll_int_1_impl_areTables_1.c [], ⟨Bool, slices_ContainsFunc_int_int_impl_areAll_int_1_impl_areTables_1.mk⟩), (slices_ContainsFunc_int_int_impl_areAll_int_1_impl_isHead_1.c [] [], ⟨Bool, slices_ContainsFunc_int_int_impl_areAll_int_1_impl_isHead_1.mk⟩)]),
  (95, [(impl_areAll_int_1_impl_isVar.c 0, ⟨Bool, impl_areAll_int_1_impl_isVar.mk⟩), (impl_areAll_int_1_impl_areTables_1.c 0, ⟨Bool, impl_areAll_int_1_impl_areTables_1.mk⟩), (impl_areAll_int_1_impl_isHead_1.c 0 [], ⟨Bool, impl_areAll_int_1_impl_isHead_1.mk⟩)]),
  (96, [(laws_eqAtom.c 0 [] 0 [], ⟨Bool, laws_eqAtom.mk⟩)]),
  (97, [(impl_areTables_1.c 0, ⟨Bool, impl_areTables_1.mk⟩)]),
  (98, [(impl_isQuery_1.c 0 [] [], ⟨Bool, impl_isQuery_1.mk⟩)]),
  (99, [(impl_isHead.c [] [], ⟨Bool, impl_isHead.mk⟩)]),
  (107, [(slices_IndexFunc_impl_Atom_impl_Atom_impl_areAll_impl_Atom_1_impl_isQuery_1.c [] [], ⟨Int, slices_IndexFunc_impl_Atom_impl_Atom_impl_areAll_impl_Atom_1_impl_isQuery_1.mk⟩)]),
  (108, [(slices_IndexFunc_int_int_impl_areAll_int_1_impl_isVar.c [], ⟨Int, slices_IndexFunc_int_int_impl_areAll_int_1_impl_isVar.mk⟩), (slices_IndexFunc_int_int_impl_areAll_int_1_impl_areTables_1.c [], ⟨Int, slices_IndexFunc_int_int_impl_areAll_int_1_impl_areTables_1.mk⟩), (slices_IndexFunc_int_int_impl_areAll_int_1_impl_isHead_1.c [] [], ⟨Int, slices_IndexFunc_int_int_impl_areAll_int_1_impl_isHead_1.mk⟩)]),
  (109, [(impl_isHead_1.c 0 [], ⟨Bool, impl_isHead_1.mk⟩)]),
  (110, [(slices_Contains_int_int.c [] 0, ⟨Bool, slices_Contains_int_int.mk⟩)]),
  (114, [(slices_Index_int_int.c [] 0, ⟨Int, slices_Index_int_int.mk⟩)])]
def tab : FuncId → List Cell → Tb := fun g cs => match assoc tabT g with | some l => pickT l cs | none => ⟨Unit, fun _ => (⟨.one, []⟩, [])⟩
end GoV

/- Equations of the program's functions (printed by wip/tools/emit.py). -/
namespace GoV
open Go Go.Proofs
set_option maxRecDepth 100000

noncomputable def laws_szIntS.t {γ : Type} (ret : (Int) → Option γ) (v0 : List Int) (v1 : Int) : Option γ :=
  bif Decidable.decide (Go.IntKind.i64.wrap (v1 - (↑v0.length : Int)) < (0 : Int)) then
    ret ((-1 : Int))
  else
    ret (Go.IntKind.i64.wrap (v1 - (↑v0.length : Int)))
theorem laws_szIntS.k (v0 : List Int) (v1 : Int) : topL E (callT E tab) 40 Try.f40 (laws_szIntS.c v0 v1) = laws_szIntS.t (fun b => some (laws_szIntS.mk b)) v0 v1 := by kernel_rfl
theorem laws_szIntS.s (v0 : List Int) (v1 : Int) : Sub laws_szIntS.mk (laws_szIntS.t some v0 v1) (laws_szIntS.t (fun b => some (laws_szIntS.mk b)) v0 v1) := by
  unfold laws_szIntS.t
  repeat' first | exact Sub.ret | exact Sub.none | exact Sub.loop | apply Sub.cond | (apply Sub.bind; intro _)
theorem laws_szIntS.eq (v0 : List Int) (v1 : Int) {b : Int} (h : laws_szIntS.t some v0 v1 = some b) : laws_szIntS v0 v1 = some b := tOf_intro laws_szIntS.un (fun _ => by kernel_rfl) (vlim_fn (callT_le E tab) rfl rfl rfl ((laws_szIntS.k v0 v1).trans (laws_szIntS.s v0 v1 b h)))
noncomputable def laws_toIntS.q3 (v0 : List Int) (v1 : List Int) (v2 : Int) : Option R := loopAtL E (callT E tab) 12 Try.f12 1 [.r, .r, .l, .r, .b] (vc (.d .fro (.sl (.int .i64)) v0) :: nn 2 (vc (.d .deep (.sl (.int .i64)) v1) :: vc (iL v2) :: nn 17 ([])))
noncomputable def laws_toIntS.l3 (v0 : List Int) (v1 : List Int) (v2 : Int) : Option ((List Int)) := tOf laws_toIntS.mk (laws_toIntS.q3 v0 v1 v2)
noncomputable def laws_toIntS.t {γ : Type} (ret : ((List Int)) → Option γ) (lp3 : (List Int) → (List Int) → Int → Option γ) (v0 : List Int) : Option γ :=
  bif Decidable.decide ((↑v0.length : Int) = (↑v0.length : Int)) then
    bif Decidable.decide ((↑v0.length : Int) ≤ (↑(4294967296 : Nat) : Int)) then
      lp3 (v0) (List.replicate (↑v0.length : Int).toNat (0 : Int)) ((0 : Int))
    else
      none
  else
    none
noncomputable def laws_toIntS.t3 {γ : Type} (ret : ((List Int)) → Option γ) (lp3 : (List Int) → (List Int) → Int → Option γ) (v0 : List Int) (v1 : List Int) (v2 : Int) : Option γ :=
  bif Decidable.decide (v2 < (↑v0.length : Int)) then
    bif Decidable.decide ((0 : Int) ≤ v2) then
      bif Decidable.decide (v2.toNat < v0.length) then
        bif Decidable.decide ((0 : Int) ≤ v2) then
          bif Decidable.decide (v2.toNat < v1.length) then
            bif Decidable.decide (v2.toNat < v1.length) then
              lp3 (v0) (v1.set v2.toNat (v0.getD v2.toNat (0 : Int))) (Go.IntKind.i64.wrap (v2 + (1 : Int)))
            else
              none
          else
            none
        else
          none
      else
        none
    else
      none
  else
    ret (v1)
theorem laws_toIntS.k (v0 : List Int) : topL E (callT E tab) 12 Try.f12 (laws_toIntS.c v0) = laws_toIntS.t (fun b => some (laws_toIntS.mk b)) laws_toIntS.q3 v0 := by kernel_rfl
theorem laws_toIntS.k3 (v0 : List Int) (v1 : List Int) (v2 : Int) : roundL E (callT E tab) 12 Try.f12 1 [.r, .r, .l, .r, .b] (vc (.d .fro (.sl (.int .i64)) v0) :: nn 2 (vc (.d .deep (.sl (.int .i64)) v1) :: vc (iL v2) :: nn 17 ([]))) = laws_toIntS.t3 (fun b => some (laws_toIntS.mk b)) laws_toIntS.q3 v0 v1 v2 := by kernel_rfl
theorem laws_toIntS.s (v0 : List Int) : Sub laws_toIntS.mk (laws_toIntS.t some laws_toIntS.l3 v0) (laws_toIntS.t (fun b => some (laws_toIntS.mk b)) laws_toIntS.q3 v0) := by
  unfold laws_toIntS.t
  repeat' first | exact Sub.ret | exact Sub.none | exact Sub.loop | apply Sub.cond | (apply Sub.bind; intro _)
theorem laws_toIntS.eq (v0 : List Int) {b : (List Int)} (h : laws_toIntS.t some laws_toIntS.l3 v0 = some b) : laws_toIntS v0 = some b := tOf_intro laws_toIntS.un (fun _ => by kernel_rfl) (vlim_fn (callT_le E tab) rfl rfl rfl ((laws_toIntS.k v0).trans (laws_toIntS.s v0 b h)))
theorem laws_toIntS.s3 (v0 : List Int) (v1 : List Int) (v2 : Int) : Sub laws_toIntS.mk (laws_toIntS.t3 some laws_toIntS.l3 v0 v1 v2) (laws_toIntS.t3 (fun b => some (laws_toIntS.mk b)) laws_toIntS.q3 v0 v1 v2) := by
  unfold laws_toIntS.t3
  repeat' first | exact Sub.ret | exact Sub.none | exact Sub.loop | apply Sub.cond | (apply Sub.bind; intro _)
theorem laws_toIntS.eq3 (v0 : List Int) (v1 : List Int) (v2 : Int) {b : (List Int)} (h : laws_toIntS.t3 some laws_toIntS.l3 v0 v1 v2 = some b) : laws_toIntS.l3 v0 v1 v2 = some b := tOf_intro laws_toIntS.un (fun _ => by kernel_rfl) (loopAtL_step ((laws_toIntS.k3 v0 v1 v2).trans (laws_toIntS.s3 v0 v1 v2 b h)))
noncomputable def spec_l1In.t {γ : Type} (ret : (Bool) → Option γ) (v0 : Int) (v1 : Int) (v2 : Int) : Option γ :=
  bif Decidable.decide (v0 ≥ v1) then
    ret (Decidable.decide (v0 ≤ v2))
  else
    ret (Bool.false)
theorem spec_l1In.k (v0 : Int) (v1 : Int) (v2 : Int) : topL E (callT E tab) 69 Try.f69 (spec_l1In.c v0 v1 v2) = spec_l1In.t (fun b => some (spec_l1In.mk b)) v0 v1 v2 := by kernel_rfl
theorem spec_l1In.s (v0 : Int) (v1 : Int) (v2 : Int) : Sub spec_l1In.mk (spec_l1In.t some v0 v1 v2) (spec_l1In.t (fun b => some (spec_l1In.mk b)) v0 v1 v2) := by
  unfold spec_l1In.t
  repeat' first | exact Sub.ret | exact Sub.none | exact Sub.loop | apply Sub.cond | (apply Sub.bind; intro _)
theorem spec_l1In.eq (v0 : Int) (v1 : Int) (v2 : Int) {b : Bool} (h : spec_l1In.t some v0 v1 v2 = some b) : spec_l1In v0 v1 v2 = some b := tOf_intro spec_l1In.un (fun _ => by kernel_rfl) (vlim_fn (callT_le E tab) rfl rfl rfl ((spec_l1In.k v0 v1 v2).trans (spec_l1In.s v0 v1 v2 b h)))
noncomputable def impl_within.t {γ : Type} (ret : (Bool) → Option γ) (v0 : Int) (v1 : Int) (v2 : Int) : Option γ :=
  bif Decidable.decide (v1 ≤ v0) then
    ret (Decidable.decide (v0 ≤ v2))
  else
    ret (Bool.false)
theorem impl_within.k (v0 : Int) (v1 : Int) (v2 : Int) : topL E (callT E tab) 81 Try.f81 (impl_within.c v0 v1 v2) = impl_within.t (fun b => some (impl_within.mk b)) v0 v1 v2 := by kernel_rfl
theorem impl_within.s (v0 : Int) (v1 : Int) (v2 : Int) : Sub impl_within.mk (impl_within.t some v0 v1 v2) (impl_within.t (fun b => some (impl_within.mk b)) v0 v1 v2) := by
  unfold impl_within.t
  repeat' first | exact Sub.ret | exact Sub.none | exact Sub.loop | apply Sub.cond | (apply Sub.bind; intro _)
theorem impl_within.eq (v0 : Int) (v1 : Int) (v2 : Int) {b : Bool} (h : impl_within.t some v0 v1 v2 = some b) : impl_within v0 v1 v2 = some b := tOf_intro impl_within.un (fun _ => by kernel_rfl) (vlim_fn (callT_le E tab) rfl rfl rfl ((impl_within.k v0 v1 v2).trans (impl_within.s v0 v1 v2 b h)))
noncomputable def impl_setOf.q3 (v0 : Int) (v1 : List Int) (v2 : Int) (v3 : Int) : Option R := loopAtL E (callT E tab) 49 Try.f49 1 [.r, .r, .l, .r, .b] (nn 3 (vc (iL v0) :: nn 2 (vc (.d .fro (.sl (.int .i64)) v1) :: vc (iL v2) :: vc (iL v3) :: nn 9 ([]))))
noncomputable def impl_setOf.l3 (v0 : Int) (v1 : List Int) (v2 : Int) (v3 : Int) : Option (Int) := tOf impl_setOf.mk (impl_setOf.q3 v0 v1 v2 v3)
noncomputable def impl_setOf.t {γ : Type} (ret : (Int) → Option γ) (lp3 : Int → (List Int) → Int → Int → Option γ) (v0 : List Int) : Option γ :=
  lp3 ((0 : Int)) (v0) ((↑v0.length : Int)) ((0 : Int))
noncomputable def impl_setOf.t3 {γ : Type} (ret : (Int) → Option γ) (lp3 : Int → (List Int) → Int → Int → Option γ) (v0 : Int) (v1 : List Int) (v2 : Int) (v3 : Int) : Option γ :=
  bif Decidable.decide (v3 < v2) then
    bif Decidable.decide ((0 : Int) ≤ v3) then
      bif Decidable.decide (v3.toNat < v1.length) then
        bif Decidable.decide ((0 : Int) ≤ v1.getD v3.toNat (0 : Int)) then
          lp3 (Go.IntKind.i64.wrap   (↑(BitVec.ofInt Go.IntKind.i64.bits v0 |||           BitVec.ofInt Go.IntKind.i64.bits             (Go.IntKind.i64.wrap               ((1 : Int) * (2 : Int) ^ Min.min (v1.getD v3.toNat (0 : Int)).toNat Go.IntKind.i64.bits))).toNat :     Int)) (v1) (v2) (Go.IntKind.i64.wrap (v3 + (1 : Int)))
        else
          none
      else
        none
    else
      none
  else
    ret (v0)
theorem impl_setOf.k (v0 : List Int) : topL E (callT E tab) 49 Try.f49 (impl_setOf.c v0) = impl_setOf.t (fun b => some (impl_setOf.mk b)) impl_setOf.q3 v0 := by kernel_rfl
theorem impl_setOf.k3 (v0 : Int) (v1 : List Int) (v2 : Int) (v3 : Int) : roundL E (callT E tab) 49 Try.f49 1 [.r, .r, .l, .r, .b] (nn 3 (vc (iL v0) :: nn 2 (vc (.d .fro (.sl (.int .i64)) v1) :: vc (iL v2) :: vc (iL v3) :: nn 9 ([])))) = impl_setOf.t3 (fun b => some (impl_setOf.mk b)) impl_setOf.q3 v0 v1 v2 v3 := by kernel_rfl
theorem impl_setOf.s (v0 : List Int) : Sub impl_setOf.mk (impl_setOf.t some impl_setOf.l3 v0) (impl_setOf.t (fun b => some (impl_setOf.mk b)) impl_setOf.q3 v0) := by
  unfold impl_setOf.t
  repeat' first | exact Sub.ret | exact Sub.none | exact Sub.loop | apply Sub.cond | (apply Sub.bind; intro _)
theorem impl_setOf.eq (v0 : List Int) {b : Int} (h : impl_setOf.t some impl_setOf.l3 v0 = some b) : impl_setOf v0 = some b := tOf_intro impl_setOf.un (fun _ => by kernel_rfl) (vlim_fn (callT_le E tab) rfl rfl rfl ((impl_setOf.k v0).trans (impl_setOf.s v0 b h)))
theorem impl_setOf.s3 (v0 : Int) (v1 : List Int) (v2 : Int) (v3 : Int) : Sub impl_setOf.mk (impl_setOf.t3 some impl_setOf.l3 v0 v1 v2 v3) (impl_setOf.t3 (fun b => some (impl_setOf.mk b)) impl_setOf.q3 v0 v1 v2 v3) := by
  unfold impl_setOf.t3
  repeat' first | exact Sub.ret | exact Sub.none | exact Sub.loop | apply Sub.cond | (apply Sub.bind; intro _)
theorem impl_setOf.eq3 (v0 : Int) (v1 : List Int) (v2 : Int) (v3 : Int) {b : Int} (h : impl_setOf.t3 some impl_setOf.l3 v0 v1 v2 v3 = some b) : impl_setOf.l3 v0 v1 v2 v3 = some b := tOf_intro impl_setOf.un (fun _ => by kernel_rfl) (loopAtL_step ((impl_setOf.k3 v0 v1 v2 v3).trans (impl_setOf.s3 v0 v1 v2 v3 b h)))
noncomputable def impl_set_list.q3 (v0 : Int) (v1 : List Int) (v2 : Int) : Option R := loopAtL E (callT E tab) 55 Try.f55 1 [.r, .r, .l, .r, .b] (vc (iL v0) :: nn 2 (vc (.d .deep (.sl (.int .i64)) v1) :: vc (iL v2) :: nn 16 ([])))
noncomputable def impl_set_list.l3 (v0 : Int) (v1 : List Int) (v2 : Int) : Option ((List Int)) := tOf impl_set_list.mk (impl_set_list.q3 v0 v1 v2)
noncomputable def impl_set_list.t {γ : Type} (ret : ((List Int)) → Option γ) (lp3 : Int → (List Int) → Int → Option γ) (v0 : Int) : Option γ :=
  lp3 (v0) ([]) ((0 : Int))
noncomputable def impl_set_list.t3 {γ : Type} (ret : ((List Int)) → Option γ) (lp3 : Int → (List Int) → Int → Option γ) (v0 : Int) (v1 : List Int) (v2 : Int) : Option γ :=
  bif Decidable.decide ((0 : Int) ≤ v2) then
    bif v0.fdiv ((2 : Int) ^ Min.min v2.toNat Go.IntKind.i64.bits) != (0 : Int) then
      bif Decidable.decide ((0 : Int) ≤ v2) then
        bif Go.IntKind.i64.wrap     (↑(BitVec.ofInt Go.IntKind.i64.bits (v0.fdiv ((2 : Int) ^ Min.min v2.toNat Go.IntKind.i64.bits)) &&&             BitVec.ofInt Go.IntKind.i64.bits (1 : Int)).toNat :       Int) ==   (1 : Int) then
          bif Decidable.decide (v1.length + [v2].length ≤ (4294967296 : Nat)) then
            lp3 (v0) (v1 ++ [v2]) (Go.IntKind.i64.wrap (v2 + (1 : Int)))
          else
            none
        else
          lp3 (v0) (v1) (Go.IntKind.i64.wrap (v2 + (1 : Int)))
      else
        none
    else
      ret (v1)
  else
    none
theorem impl_set_list.k (v0 : Int) : topL E (callT E tab) 55 Try.f55 (impl_set_list.c v0) = impl_set_list.t (fun b => some (impl_set_list.mk b)) impl_set_list.q3 v0 := by kernel_rfl
theorem impl_set_list.k3 (v0 : Int) (v1 : List Int) (v2 : Int) : roundL E (callT E tab) 55 Try.f55 1 [.r, .r, .l, .r, .b] (vc (iL v0) :: nn 2 (vc (.d .deep (.sl (.int .i64)) v1) :: vc (iL v2) :: nn 16 ([]))) = impl_set_list.t3 (fun b => some (impl_set_list.mk b)) impl_set_list.q3 v0 v1 v2 := by kernel_rfl
theorem impl_set_list.s (v0 : Int) : Sub impl_set_list.mk (impl_set_list.t some impl_set_list.l3 v0) (impl_set_list.t (fun b => some (impl_set_list.mk b)) impl_set_list.q3 v0) := by
  unfold impl_set_list.t
  repeat' first | exact Sub.ret | exact Sub.none | exact Sub.loop | apply Sub.cond | (apply Sub.bind; intro _)
theorem impl_set_list.eq (v0 : Int) {b : (List Int)} (h : impl_set_list.t some impl_set_list.l3 v0 = some b) : impl_set_list v0 = some b := tOf_intro impl_set_list.un (fun _ => by kernel_rfl) (vlim_fn (callT_le E tab) rfl rfl rfl ((impl_set_list.k v0).trans (impl_set_list.s v0 b h)))
theorem impl_set_list.s3 (v0 : Int) (v1 : List Int) (v2 : Int) : Sub impl_set_list.mk (impl_set_list.t3 some impl_set_list.l3 v0 v1 v2) (impl_set_list.t3 (fun b => some (impl_set_list.mk b)) impl_set_list.q3 v0 v1 v2) := by
  unfold impl_set_list.t3
  repeat' first | exact Sub.ret | exact Sub.none | exact Sub.loop | apply Sub.cond | (apply Sub.bind; intro _)
theorem impl_set_list.eq3 (v0 : Int) (v1 : List Int) (v2 : Int) {b : (List Int)} (h : impl_set_list.t3 some impl_set_list.l3 v0 v1 v2 = some b) : impl_set_list.l3 v0 v1 v2 = some b := tOf_intro impl_set_list.un (fun _ => by kernel_rfl) (loopAtL_step ((impl_set_list.k3 v0 v1 v2).trans (impl_set_list.s3 v0 v1 v2 b h)))
noncomputable def laws_eqIntS.q4 (v0 : List Int) (v1 : List Int) (v2 : Int) : Option R := loopAtL E (callT E tab) 15 Try.f15 2 [.r, .r, .l, .r, .b] (vc (.d .fro (.sl (.int .i64)) v0) :: vc (.d .fro (.sl (.int .i64)) v1) :: nn 3 (vc (iL v2) :: nn 20 ([])))
noncomputable def laws_eqIntS.l4 (v0 : List Int) (v1 : List Int) (v2 : Int) : Option (Bool) := tOf laws_eqIntS.mk (laws_eqIntS.q4 v0 v1 v2)
noncomputable def laws_eqIntS.t {γ : Type} (ret : (Bool) → Option γ) (lp4 : (List Int) → (List Int) → Int → Option γ) (v0 : List Int) (v1 : List Int) : Option γ :=
  bif (↑v0.length : Int) != (↑v1.length : Int) then
    ret (Bool.false)
  else
    lp4 (v0) (v1) ((0 : Int))
noncomputable def laws_eqIntS.t4 {γ : Type} (ret : (Bool) → Option γ) (lp4 : (List Int) → (List Int) → Int → Option γ) (v0 : List Int) (v1 : List Int) (v2 : Int) : Option γ :=
  bif Decidable.decide (v2 < (↑v0.length : Int)) then
    bif Decidable.decide ((0 : Int) ≤ v2) then
      bif Decidable.decide (v2.toNat < v0.length) then
        bif Decidable.decide ((0 : Int) ≤ v2) then
          bif Decidable.decide (v2.toNat < v1.length) then
            bif v0.getD v2.toNat (0 : Int) != v1.getD v2.toNat (0 : Int) then
              ret (Bool.false)
            else
              lp4 (v0) (v1) (Go.IntKind.i64.wrap (v2 + (1 : Int)))
          else
            none
        else
          none
      else
        none
    else
      none
  else
    ret (Bool.true)
theorem laws_eqIntS.k (v0 : List Int) (v1 : List Int) : topL E (callT E tab) 15 Try.f15 (laws_eqIntS.c v0 v1) = laws_eqIntS.t (fun b => some (laws_eqIntS.mk b)) laws_eqIntS.q4 v0 v1 := by kernel_rfl
theorem laws_eqIntS.k4 (v0 : List Int) (v1 : List Int) (v2 : Int) : roundL E (callT E tab) 15 Try.f15 2 [.r, .r, .l, .r, .b] (vc (.d .fro (.sl (.int .i64)) v0) :: vc (.d .fro (.sl (.int .i64)) v1) :: nn 3 (vc (iL v2) :: nn 20 ([]))) = laws_eqIntS.t4 (fun b => some (laws_eqIntS.mk b)) laws_eqIntS.q4 v0 v1 v2 := by kernel_rfl
theorem laws_eqIntS.s (v0 : List Int) (v1 : List Int) : Sub laws_eqIntS.mk (laws_eqIntS.t some laws_eqIntS.l4 v0 v1) (laws_eqIntS.t (fun b => some (laws_eqIntS.mk b)) laws_eqIntS.q4 v0 v1) := by
  unfold laws_eqIntS.t
  repeat' first | exact Sub.ret | exact Sub.none | exact Sub.loop | apply Sub.cond | (apply Sub.bind; intro _)
theorem laws_eqIntS.eq (v0 : List Int) (v1 : List Int) {b : Bool} (h : laws_eqIntS.t some laws_eqIntS.l4 v0 v1 = some b) : laws_eqIntS v0 v1 = some b := tOf_intro laws_eqIntS.un (fun _ => by kernel_rfl) (vlim_fn (callT_le E tab) rfl rfl rfl ((laws_eqIntS.k v0 v1).trans (laws_eqIntS.s v0 v1 b h)))
theorem laws_eqIntS.s4 (v0 : List Int) (v1 : List Int) (v2 : Int) : Sub laws_eqIntS.mk (laws_eqIntS.t4 some laws_eqIntS.l4 v0 v1 v2) (laws_eqIntS.t4 (fun b => some (laws_eqIntS.mk b)) laws_eqIntS.q4 v0 v1 v2) := by
  unfold laws_eqIntS.t4
  repeat' first | exact Sub.ret | exact Sub.none | exact Sub.loop | apply Sub.cond | (apply Sub.bind; intro _)
theorem laws_eqIntS.eq4 (v0 : List Int) (v1 : List Int) (v2 : Int) {b : Bool} (h : laws_eqIntS.t4 some laws_eqIntS.l4 v0 v1 v2 = some b) : laws_eqIntS.l4 v0 v1 v2 = some b := tOf_intro laws_eqIntS.un (fun _ => by kernel_rfl) (loopAtL_step ((laws_eqIntS.k4 v0 v1 v2).trans (laws_eqIntS.s4 v0 v1 v2 b h)))
noncomputable def laws_szQuery.t {γ : Type} (ret : (Int) → Option γ) (v0 : List Int) (v1 : List (Int × List Int)) (v2 : Int) : Option γ :=
  (laws_szIntS (v0) (v2)).bind fun (r0 : Int) =>
  bif Decidable.decide (r0 < (0 : Int)) then
    ret ((-1 : Int))
  else
    (laws_szAtomS (v1) (r0)).bind fun (r1 : Int) =>
    bif Decidable.decide (r1 < (0 : Int)) then
      ret ((-1 : Int))
    else
      ret (r1)
theorem laws_szQuery.k (v0 : List Int) (v1 : List (Int × List Int)) (v2 : Int) : topL E (callT E tab) 25 Try.f25 (laws_szQuery.c v0 v1 v2) = laws_szQuery.t (fun b => some (laws_szQuery.mk b)) v0 v1 v2 := by kernel_rfl
theorem laws_szQuery.s (v0 : List Int) (v1 : List (Int × List Int)) (v2 : Int) : Sub laws_szQuery.mk (laws_szQuery.t some v0 v1 v2) (laws_szQuery.t (fun b => some (laws_szQuery.mk b)) v0 v1 v2) := by
  unfold laws_szQuery.t
  repeat' first | exact Sub.ret | exact Sub.none | exact Sub.loop | apply Sub.cond | (apply Sub.bind; intro _)
theorem laws_szQuery.eq (v0 : List Int) (v1 : List (Int × List Int)) (v2 : Int) {b : Int} (h : laws_szQuery.t some v0 v1 v2 = some b) : laws_szQuery v0 v1 v2 = some b := tOf_intro laws_szQuery.un (fun _ => by kernel_rfl) (vlim_fn (callT_le E tab) rfl rfl rfl ((laws_szQuery.k v0 v1 v2).trans (laws_szQuery.s v0 v1 v2 b h)))
noncomputable def laws_szAtomS.q5 (v0 : List (Int × List Int)) (v1 : Int) (v2 : Int) : Option R := loopAtL E (callT E tab) 57 Try.f57 2 [.r, .r, .r, .l, .r, .b] (vc (.d .fro (.sl (.pair (.int .i64) (.sl (.int .i64)))) v0) :: vc (iL v1) :: nn 3 (vc (iL v2) :: nn 21 ([])))
noncomputable def laws_szAtomS.l5 (v0 : List (Int × List Int)) (v1 : Int) (v2 : Int) : Option (Int) := tOf laws_szAtomS.mk (laws_szAtomS.q5 v0 v1 v2)
noncomputable def laws_szAtomS.t {γ : Type} (ret : (Int) → Option γ) (lp5 : (List (Int × List Int)) → Int → Int → Option γ) (v0 : List (Int × List Int)) (v1 : Int) : Option γ :=
  bif Decidable.decide (Go.IntKind.i64.wrap (v1 - (↑v0.length : Int)) < (0 : Int)) then
    ret ((-1 : Int))
  else
    lp5 (v0) (Go.IntKind.i64.wrap (v1 - (↑v0.length : Int))) ((0 : Int))
noncomputable def laws_szAtomS.t5 {γ : Type} (ret : (Int) → Option γ) (lp5 : (List (Int × List Int)) → Int → Int → Option γ) (v0 : List (Int × List Int)) (v1 : Int) (v2 : Int) : Option γ :=
  bif Decidable.decide (v2 < (↑v0.length : Int)) then
    bif Decidable.decide ((0 : Int) ≤ v2) then
      bif Decidable.decide (v2.toNat < v0.length) then
        (laws_szAtom ((v0.getD v2.toNat ((0 : Int), [])).fst) ((v0.getD v2.toNat ((0 : Int), [])).snd) (v1)).bind fun (r0 : Int) =>
        bif Decidable.decide (r0 < (0 : Int)) then
          ret ((-1 : Int))
        else
          lp5 (v0) (r0) (Go.IntKind.i64.wrap (v2 + (1 : Int)))
      else
        none
    else
      none
  else
    ret (v1)
theorem laws_szAtomS.k (v0 : List (Int × List Int)) (v1 : Int) : topL E (callT E tab) 57 Try.f57 (laws_szAtomS.c v0 v1) = laws_szAtomS.t (fun b => some (laws_szAtomS.mk b)) laws_szAtomS.q5 v0 v1 := by kernel_rfl
theorem laws_szAtomS.k5 (v0 : List (Int × List Int)) (v1 : Int) (v2 : Int) : roundL E (callT E tab) 57 Try.f57 2 [.r, .r, .r, .l, .r, .b] (vc (.d .fro (.sl (.pair (.int .i64) (.sl (.int .i64)))) v0) :: vc (iL v1) :: nn 3 (vc (iL v2) :: nn 21 ([]))) = laws_szAtomS.t5 (fun b => some (laws_szAtomS.mk b)) laws_szAtomS.q5 v0 v1 v2 := by kernel_rfl
theorem laws_szAtomS.s (v0 : List (Int × List Int)) (v1 : Int) : Sub laws_szAtomS.mk (laws_szAtomS.t some laws_szAtomS.l5 v0 v1) (laws_szAtomS.t (fun b => some (laws_szAtomS.mk b)) laws_szAtomS.q5 v0 v1) := by
  unfold laws_szAtomS.t
  repeat' first | exact Sub.ret | exact Sub.none | exact Sub.loop | apply Sub.cond | (apply Sub.bind; intro _)
theorem laws_szAtomS.eq (v0 : List (Int × List Int)) (v1 : Int) {b : Int} (h : laws_szAtomS.t some laws_szAtomS.l5 v0 v1 = some b) : laws_szAtomS v0 v1 = some b := tOf_intro laws_szAtomS.un (fun _ => by kernel_rfl) (vlim_fn (callT_le E tab) rfl rfl rfl ((laws_szAtomS.k v0 v1).trans (laws_szAtomS.s v0 v1 b h)))
theorem laws_szAtomS.s5 (v0 : List (Int × List Int)) (v1 : Int) (v2 : Int) : Sub laws_szAtomS.mk (laws_szAtomS.t5 some laws_szAtomS.l5 v0 v1 v2) (laws_szAtomS.t5 (fun b => some (laws_szAtomS.mk b)) laws_szAtomS.q5 v0 v1 v2) := by
  unfold laws_szAtomS.t5
  repeat' first | exact Sub.ret | exact Sub.none | exact Sub.loop | apply Sub.cond | (apply Sub.bind; intro _)
theorem laws_szAtomS.eq5 (v0 : List (Int × List Int)) (v1 : Int) (v2 : Int) {b : Int} (h : laws_szAtomS.t5 some laws_szAtomS.l5 v0 v1 v2 = some b) : laws_szAtomS.l5 v0 v1 v2 = some b := tOf_intro laws_szAtomS.un (fun _ => by kernel_rfl) (loopAtL_step ((laws_szAtomS.k5 v0 v1 v2).trans (laws_szAtomS.s5 v0 v1 v2 b h)))
noncomputable def laws_szAtom.t {γ : Type} (ret : (Int) → Option γ) (v0 : Int) (v1 : List Int) (v2 : Int) : Option γ :=
  (laws_szIntS (v1) (v2)).bind fun (r0 : Int) =>
  bif Decidable.decide (r0 < (0 : Int)) then
    ret ((-1 : Int))
  else
    ret (r0)
theorem laws_szAtom.k (v0 : Int) (v1 : List Int) (v2 : Int) : topL E (callT E tab) 90 Try.f90 (laws_szAtom.c v0 v1 v2) = laws_szAtom.t (fun b => some (laws_szAtom.mk b)) v0 v1 v2 := by kernel_rfl
theorem laws_szAtom.s (v0 : Int) (v1 : List Int) (v2 : Int) : Sub laws_szAtom.mk (laws_szAtom.t some v0 v1 v2) (laws_szAtom.t (fun b => some (laws_szAtom.mk b)) v0 v1 v2) := by
  unfold laws_szAtom.t
  repeat' first | exact Sub.ret | exact Sub.none | exact Sub.loop | apply Sub.cond | (apply Sub.bind; intro _)
theorem laws_szAtom.eq (v0 : Int) (v1 : List Int) (v2 : Int) {b : Int} (h : laws_szAtom.t some v0 v1 v2 = some b) : laws_szAtom v0 v1 v2 = some b := tOf_intro laws_szAtom.un (fun _ => by kernel_rfl) (vlim_fn (callT_le E tab) rfl rfl rfl ((laws_szAtom.k v0 v1 v2).trans (laws_szAtom.s v0 v1 v2 b h)))
noncomputable def laws_toQuery.t {γ : Type} (ret : ((List Int) × (List (Int × List Int))) → Option γ) (v0 : List Int) (v1 : List (Int × List Int)) : Option γ :=
  (laws_toIntS (v0)).bind fun (r0 : (List Int)) =>
  (laws_toAtomS (v1)).bind fun (r1 : (List (Int × List Int))) =>
  ret (r0, r1)
theorem laws_toQuery.k (v0 : List Int) (v1 : List (Int × List Int)) : topL E (callT E tab) 27 Try.f27 (laws_toQuery.c v0 v1) = laws_toQuery.t (fun b => some (laws_toQuery.mk b)) v0 v1 := by kernel_rfl
theorem laws_toQuery.s (v0 : List Int) (v1 : List (Int × List Int)) : Sub laws_toQuery.mk (laws_toQuery.t some v0 v1) (laws_toQuery.t (fun b => some (laws_toQuery.mk b)) v0 v1) := by
  unfold laws_toQuery.t
  repeat' first | exact Sub.ret | exact Sub.none | exact Sub.loop | apply Sub.cond | (apply Sub.bind; intro _)
theorem laws_toQuery.eq (v0 : List Int) (v1 : List (Int × List Int)) {b : (List Int) × (List (Int × List Int))} (h : laws_toQuery.t some v0 v1 = some b) : laws_toQuery v0 v1 = some b := tOf_intro laws_toQuery.un (fun _ => by kernel_rfl) (vlim_fn (callT_le E tab) rfl rfl rfl ((laws_toQuery.k v0 v1).trans (laws_toQuery.s v0 v1 b h)))
noncomputable def laws_toAtomS.q3 (v0 : List (Int × List Int)) (v1 : List (Int × List Int)) (v2 : Int) : Option R := loopAtL E (callT E tab) 60 Try.f60 1 [.r, .r, .l, .r, .b] (vc (.d .fro (.sl (.pair (.int .i64) (.sl (.int .i64)))) v0) :: nn 2 (vc (.d .deep (.sl (.pair (.int .i64) (.sl (.int .i64)))) v1) :: vc (iL v2) :: nn 18 ([])))
noncomputable def laws_toAtomS.l3 (v0 : List (Int × List Int)) (v1 : List (Int × List Int)) (v2 : Int) : Option ((List (Int × List Int))) := tOf laws_toAtomS.mk (laws_toAtomS.q3 v0 v1 v2)
noncomputable def laws_toAtomS.t {γ : Type} (ret : ((List (Int × List Int))) → Option γ) (lp3 : (List (Int × List Int)) → (List (Int × List Int)) → Int → Option γ) (v0 : List (Int × List Int)) : Option γ :=
  bif Decidable.decide ((↑v0.length : Int) = (↑v0.length : Int)) then
    bif Decidable.decide ((↑v0.length : Int) ≤ (↑(4294967296 : Nat) : Int)) then
      lp3 (v0) (List.replicate (↑v0.length : Int).toNat ((0 : Int), [])) ((0 : Int))
    else
      none
  else
    none
noncomputable def laws_toAtomS.t3 {γ : Type} (ret : ((List (Int × List Int))) → Option γ) (lp3 : (List (Int × List Int)) → (List (Int × List Int)) → Int → Option γ) (v0 : List (Int × List Int)) (v1 : List (Int × List Int)) (v2 : Int) : Option γ :=
  bif Decidable.decide (v2 < (↑v0.length : Int)) then
    bif Decidable.decide ((0 : Int) ≤ v2) then
      bif Decidable.decide (v2.toNat < v0.length) then
        (laws_toAtom ((v0.getD v2.toNat ((0 : Int), [])).fst) ((v0.getD v2.toNat ((0 : Int), [])).snd)).bind fun (r0 : Int × (List Int)) =>
        bif Decidable.decide ((0 : Int) ≤ v2) then
          bif Decidable.decide (v2.toNat < v1.length) then
            bif Decidable.decide (v2.toNat < v1.length) then
              lp3 (v0) (v1.set v2.toNat (r0.fst, r0.snd)) (Go.IntKind.i64.wrap (v2 + (1 : Int)))
            else
              none
          else
            none
        else
          none
      else
        none
    else
      none
  else
    ret (v1)
theorem laws_toAtomS.k (v0 : List (Int × List Int)) : topL E (callT E tab) 60 Try.f60 (laws_toAtomS.c v0) = laws_toAtomS.t (fun b => some (laws_toAtomS.mk b)) laws_toAtomS.q3 v0 := by kernel_rfl
theorem laws_toAtomS.k3 (v0 : List (Int × List Int)) (v1 : List (Int × List Int)) (v2 : Int) : roundL E (callT E tab) 60 Try.f60 1 [.r, .r, .l, .r, .b] (vc (.d .fro (.sl (.pair (.int .i64) (.sl (.int .i64)))) v0) :: nn 2 (vc (.d .deep (.sl (.pair (.int .i64) (.sl (.int .i64)))) v1) :: vc (iL v2) :: nn 18 ([]))) = laws_toAtomS.t3 (fun b => some (laws_toAtomS.mk b)) laws_toAtomS.q3 v0 v1 v2 := by kernel_rfl
theorem laws_toAtomS.s (v0 : List (Int × List Int)) : Sub laws_toAtomS.mk (laws_toAtomS.t some laws_toAtomS.l3 v0) (laws_toAtomS.t (fun b => some (laws_toAtomS.mk b)) laws_toAtomS.q3 v0) := by
  unfold laws_toAtomS.t
  repeat' first | exact Sub.ret | exact Sub.none | exact Sub.loop | apply Sub.cond | (apply Sub.bind; intro _)
theorem laws_toAtomS.eq (v0 : List (Int × List Int)) {b : (List (Int × List Int))} (h : laws_toAtomS.t some laws_toAtomS.l3 v0 = some b) : laws_toAtomS v0 = some b := tOf_intro laws_toAtomS.un (fun _ => by kernel_rfl) (vlim_fn (callT_le E tab) rfl rfl rfl ((laws_toAtomS.k v0).trans (laws_toAtomS.s v0 b h)))
theorem laws_toAtomS.s3 (v0 : List (Int × List Int)) (v1 : List (Int × List Int)) (v2 : Int) : Sub laws_toAtomS.mk (laws_toAtomS.t3 some laws_toAtomS.l3 v0 v1 v2) (laws_toAtomS.t3 (fun b => some (laws_toAtomS.mk b)) laws_toAtomS.q3 v0 v1 v2) := by
  unfold laws_toAtomS.t3
  repeat' first | exact Sub.ret | exact Sub.none | exact Sub.loop | apply Sub.cond | (apply Sub.bind; intro _)
theorem laws_toAtomS.eq3 (v0 : List (Int × List Int)) (v1 : List (Int × List Int)) (v2 : Int) {b : (List (Int × List Int))} (h : laws_toAtomS.t3 some laws_toAtomS.l3 v0 v1 v2 = some b) : laws_toAtomS.l3 v0 v1 v2 = some b := tOf_intro laws_toAtomS.un (fun _ => by kernel_rfl) (loopAtL_step ((laws_toAtomS.k3 v0 v1 v2).trans (laws_toAtomS.s3 v0 v1 v2 b h)))
noncomputable def laws_toAtom.t {γ : Type} (ret : (Int × (List Int)) → Option γ) (v0 : Int) (v1 : List Int) : Option γ :=
  (laws_toIntS (v1)).bind fun (r0 : (List Int)) =>
  ret (v0, r0)
theorem laws_toAtom.k (v0 : Int) (v1 : List Int) : topL E (callT E tab) 91 Try.f91 (laws_toAtom.c v0 v1) = laws_toAtom.t (fun b => some (laws_toAtom.mk b)) v0 v1 := by kernel_rfl
theorem laws_toAtom.s (v0 : Int) (v1 : List Int) : Sub laws_toAtom.mk (laws_toAtom.t some v0 v1) (laws_toAtom.t (fun b => some (laws_toAtom.mk b)) v0 v1) := by
  unfold laws_toAtom.t
  repeat' first | exact Sub.ret | exact Sub.none | exact Sub.loop | apply Sub.cond | (apply Sub.bind; intro _)
theorem laws_toAtom.eq (v0 : Int) (v1 : List Int) {b : Int × (List Int)} (h : laws_toAtom.t some v0 v1 = some b) : laws_toAtom v0 v1 = some b := tOf_intro laws_toAtom.un (fun _ => by kernel_rfl) (vlim_fn (callT_le E tab) rfl rfl rfl ((laws_toAtom.k v0 v1).trans (laws_toAtom.s v0 v1 b h)))
noncomputable def spec_l10Var.t {γ : Type} (ret : (Bool) → Option γ) (v0 : Int) : Option γ :=
  bif Decidable.decide (v0 ≥ (0 : Int)) then
    ret (Decidable.decide (v0 < (6 : Int)))
  else
    ret (Bool.false)
theorem spec_l10Var.k (v0 : Int) : topL E (callT E tab) 58 Try.f58 (spec_l10Var.c v0) = spec_l10Var.t (fun b => some (spec_l10Var.mk b)) v0 := by kernel_rfl
theorem spec_l10Var.s (v0 : Int) : Sub spec_l10Var.mk (spec_l10Var.t some v0) (spec_l10Var.t (fun b => some (spec_l10Var.mk b)) v0) := by
  unfold spec_l10Var.t
  repeat' first | exact Sub.ret | exact Sub.none | exact Sub.loop | apply Sub.cond | (apply Sub.bind; intro _)
theorem spec_l10Var.eq (v0 : Int) {b : Bool} (h : spec_l10Var.t some v0 = some b) : spec_l10Var v0 = some b := tOf_intro spec_l10Var.un (fun _ => by kernel_rfl) (vlim_fn (callT_le E tab) rfl rfl rfl ((spec_l10Var.k v0).trans (spec_l10Var.s v0 b h)))
noncomputable def spec_l10Vars.q6 (v0 : List Int) (v1 : List (Int × List Int)) (v2 : Int) (v3 : Int) (v4 : List Int) (v5 : Int) (v6 : Int) : Option R := loopAtL E (callT E tab) 59 Try.f59 1 [.r, .r, .l, .r, .b, .o, .r, .r, .l, .b, .r, .r, .b] (nn 3 (vc (.d .fro (.sl (.int .i64)) v0) :: nn 5 (vc (.d .fro (.sl (.pair (.int .i64) (.sl (.int .i64)))) v1) :: vc (iL v2) :: vc (iL v3) :: nn 4 (vc (.d .fro (.sl (.int .i64)) v4) :: vc (iL v5) :: vc (iL v6) :: nn 9 ([])))))
noncomputable def spec_l10Vars.l6 (v0 : List Int) (v1 : List (Int × List Int)) (v2 : Int) (v3 : Int) (v4 : List Int) (v5 : Int) (v6 : Int) : Option ((List Int)) := tOf spec_l10Vars.mk (spec_l10Vars.q6 v0 v1 v2 v3 v4 v5 v6)
noncomputable def spec_l10Vars.q3 (v0 : List Int) (v1 : List (Int × List Int)) (v2 : Int) (v3 : Int) : Option R := loopAtL E (callT E tab) 59 Try.f59 1 [.r, .r, .l, .r, .b] (nn 3 (vc (.d .fro (.sl (.int .i64)) v0) :: nn 5 (vc (.d .fro (.sl (.pair (.int .i64) (.sl (.int .i64)))) v1) :: vc (iL v2) :: vc (iL v3) :: nn 16 ([]))))
noncomputable def spec_l10Vars.l3 (v0 : List Int) (v1 : List (Int × List Int)) (v2 : Int) (v3 : Int) : Option ((List Int)) := tOf spec_l10Vars.mk (spec_l10Vars.q3 v0 v1 v2 v3)
noncomputable def spec_l10Vars.t {γ : Type} (ret : ((List Int)) → Option γ) (lp6 : (List Int) → (List (Int × List Int)) → Int → Int → (List Int) → Int → Int → Option γ) (lp3 : (List Int) → (List (Int × List Int)) → Int → Int → Option γ) (v0 : List Int) (v1 : List (Int × List Int)) : Option γ :=
  lp3 ([]) (v1) ((↑v1.length : Int)) ((0 : Int))
noncomputable def spec_l10Vars.t6 {γ : Type} (ret : ((List Int)) → Option γ) (lp6 : (List Int) → (List (Int × List Int)) → Int → Int → (List Int) → Int → Int → Option γ) (lp3 : (List Int) → (List (Int × List Int)) → Int → Int → Option γ) (v0 : List Int) (v1 : List (Int × List Int)) (v2 : Int) (v3 : Int) (v4 : List Int) (v5 : Int) (v6 : Int) : Option γ :=
  bif Decidable.decide (v6 < v5) then
    bif Decidable.decide ((0 : Int) ≤ v6) then
      bif Decidable.decide (v6.toNat < v4.length) then
        (spec_l7Put (v0) (v4.getD v6.toNat (0 : Int))).bind fun (r0 : (List Int)) =>
        lp6 (r0) (v1) (v2) (v3) (v4) (v5) (Go.IntKind.i64.wrap (v6 + (1 : Int)))
      else
        none
    else
      none
  else
    lp3 (v0) (v1) (v2) (Go.IntKind.i64.wrap (v3 + (1 : Int)))
noncomputable def spec_l10Vars.t3 {γ : Type} (ret : ((List Int)) → Option γ) (lp6 : (List Int) → (List (Int × List Int)) → Int → Int → (List Int) → Int → Int → Option γ) (lp3 : (List Int) → (List (Int × List Int)) → Int → Int → Option γ) (v0 : List Int) (v1 : List (Int × List Int)) (v2 : Int) (v3 : Int) : Option γ :=
  bif Decidable.decide (v3 < v2) then
    bif Decidable.decide ((0 : Int) ≤ v3) then
      bif Decidable.decide (v3.toNat < v1.length) then
        lp6 (v0) (v1) (v2) (v3) ((v1.getD v3.toNat ((0 : Int), [])).snd) ((↑(v1.getD v3.toNat ((0 : Int), [])).snd.length : Int)) ((0 : Int))
      else
        none
    else
      none
  else
    ret (v0)
theorem spec_l10Vars.k (v0 : List Int) (v1 : List (Int × List Int)) : topL E (callT E tab) 59 Try.f59 (spec_l10Vars.c v0 v1) = spec_l10Vars.t (fun b => some (spec_l10Vars.mk b)) spec_l10Vars.q6 spec_l10Vars.q3 v0 v1 := by kernel_rfl
theorem spec_l10Vars.k6 (v0 : List Int) (v1 : List (Int × List Int)) (v2 : Int) (v3 : Int) (v4 : List Int) (v5 : Int) (v6 : Int) : roundL E (callT E tab) 59 Try.f59 1 [.r, .r, .l, .r, .b, .o, .r, .r, .l, .b, .r, .r, .b] (nn 3 (vc (.d .fro (.sl (.int .i64)) v0) :: nn 5 (vc (.d .fro (.sl (.pair (.int .i64) (.sl (.int .i64)))) v1) :: vc (iL v2) :: vc (iL v3) :: nn 4 (vc (.d .fro (.sl (.int .i64)) v4) :: vc (iL v5) :: vc (iL v6) :: nn 9 ([]))))) = spec_l10Vars.t6 (fun b => some (spec_l10Vars.mk b)) spec_l10Vars.q6 spec_l10Vars.q3 v0 v1 v2 v3 v4 v5 v6 := by kernel_rfl
theorem spec_l10Vars.k3 (v0 : List Int) (v1 : List (Int × List Int)) (v2 : Int) (v3 : Int) : roundL E (callT E tab) 59 Try.f59 1 [.r, .r, .l, .r, .b] (nn 3 (vc (.d .fro (.sl (.int .i64)) v0) :: nn 5 (vc (.d .fro (.sl (.pair (.int .i64) (.sl (.int .i64)))) v1) :: vc (iL v2) :: vc (iL v3) :: nn 16 ([])))) = spec_l10Vars.t3 (fun b => some (spec_l10Vars.mk b)) spec_l10Vars.q6 spec_l10Vars.q3 v0 v1 v2 v3 := by kernel_rfl
theorem spec_l10Vars.s (v0 : List Int) (v1 : List (Int × List Int)) : Sub spec_l10Vars.mk (spec_l10Vars.t some spec_l10Vars.l6 spec_l10Vars.l3 v0 v1) (spec_l10Vars.t (fun b => some (spec_l10Vars.mk b)) spec_l10Vars.q6 spec_l10Vars.q3 v0 v1) := by
  unfold spec_l10Vars.t
  repeat' first | exact Sub.ret | exact Sub.none | exact Sub.loop | apply Sub.cond | (apply Sub.bind; intro _)
theorem spec_l10Vars.eq (v0 : List Int) (v1 : List (Int × List Int)) {b : (List Int)} (h : spec_l10Vars.t some spec_l10Vars.l6 spec_l10Vars.l3 v0 v1 = some b) : spec_l10Vars v0 v1 = some b := tOf_intro spec_l10Vars.un (fun _ => by kernel_rfl) (vlim_fn (callT_le E tab) rfl rfl rfl ((spec_l10Vars.k v0 v1).trans (spec_l10Vars.s v0 v1 b h)))
theorem spec_l10Vars.s6 (v0 : List Int) (v1 : List (Int × List Int)) (v2 : Int) (v3 : Int) (v4 : List Int) (v5 : Int) (v6 : Int) : Sub spec_l10Vars.mk (spec_l10Vars.t6 some spec_l10Vars.l6 spec_l10Vars.l3 v0 v1 v2 v3 v4 v5 v6) (spec_l10Vars.t6 (fun b => some (spec_l10Vars.mk b)) spec_l10Vars.q6 spec_l10Vars.q3 v0 v1 v2 v3 v4 v5 v6) := by
  unfold spec_l10Vars.t6
  repeat' first | exact Sub.ret | exact Sub.none | exact Sub.loop | apply Sub.cond | (apply Sub.bind; intro _)
theorem spec_l10Vars.eq6 (v0 : List Int) (v1 : List (Int × List Int)) (v2 : Int) (v3 : Int) (v4 : List Int) (v5 : Int) (v6 : Int) {b : (List Int)} (h : spec_l10Vars.t6 some spec_l10Vars.l6 spec_l10Vars.l3 v0 v1 v2 v3 v4 v5 v6 = some b) : spec_l10Vars.l6 v0 v1 v2 v3 v4 v5 v6 = some b := tOf_intro spec_l10Vars.un (fun _ => by kernel_rfl) (loopAtL_step ((spec_l10Vars.k6 v0 v1 v2 v3 v4 v5 v6).trans (spec_l10Vars.s6 v0 v1 v2 v3 v4 v5 v6 b h)))
theorem spec_l10Vars.s3 (v0 : List Int) (v1 : List (Int × List Int)) (v2 : Int) (v3 : Int) : Sub spec_l10Vars.mk (spec_l10Vars.t3 some spec_l10Vars.l6 spec_l10Vars.l3 v0 v1 v2 v3) (spec_l10Vars.t3 (fun b => some (spec_l10Vars.mk b)) spec_l10Vars.q6 spec_l10Vars.q3 v0 v1 v2 v3) := by
  unfold spec_l10Vars.t3
  repeat' first | exact Sub.ret | exact Sub.none | exact Sub.loop | apply Sub.cond | (apply Sub.bind; intro _)
theorem spec_l10Vars.eq3 (v0 : List Int) (v1 : List (Int × List Int)) (v2 : Int) (v3 : Int) {b : (List Int)} (h : spec_l10Vars.t3 some spec_l10Vars.l6 spec_l10Vars.l3 v0 v1 v2 v3 = some b) : spec_l10Vars.l3 v0 v1 v2 v3 = some b := tOf_intro spec_l10Vars.un (fun _ => by kernel_rfl) (loopAtL_step ((spec_l10Vars.k3 v0 v1 v2 v3).trans (spec_l10Vars.s3 v0 v1 v2 v3 b h)))
noncomputable def spec_l7Put.q4 (v0 : List Int) (v1 : Int) (v2 : Int) : Option R := loopAtL E (callT E tab) 86 Try.f86 2 [.r, .r, .r, .l, .b] (vc (.d .fro (.sl (.int .i64)) v0) :: vc (iL v1) :: nn 3 (vc (iL v2) :: nn 33 ([])))
noncomputable def spec_l7Put.l4 (v0 : List Int) (v1 : Int) (v2 : Int) : Option ((List Int)) := tOf spec_l7Put.mk (spec_l7Put.q4 v0 v1 v2)
noncomputable def spec_l7Put.t {γ : Type} (ret : ((List Int)) → Option γ) (lp4 : (List Int) → Int → Int → Option γ) (v0 : List Int) (v1 : Int) : Option γ :=
  (spec_l1Has (v0) (v1)).bind fun (r0 : Bool) =>
  bif r0 then
    ret (v0)
  else
    lp4 (v0) (v1) ((0 : Int))
noncomputable def spec_l7Put.t4 {γ : Type} (ret : ((List Int)) → Option γ) (lp4 : (List Int) → Int → Int → Option γ) (v0 : List Int) (v1 : Int) (v2 : Int) : Option γ :=
  bif Decidable.decide (v2 < (↑v0.length : Int)) then
    bif Decidable.decide ((0 : Int) ≤ v2) then
      bif Decidable.decide (v2.toNat < v0.length) then
        bif Decidable.decide (v0.getD v2.toNat (0 : Int) < v1) then
          lp4 (v0) (v1) (Go.IntKind.i64.wrap (v2 + (1 : Int)))
        else
          bif Decidable.decide (Option.none.getD (0 : Int) ≤ v2) then
            bif Decidable.decide (v2 ≤ (↑v0.length : Int)) then
              bif Decidable.decide   ((List.take (v2 - Option.none.getD (0 : Int)).toNat (List.drop (Option.none.getD (0 : Int)).toNat v0)).length ≤     (4294967296 : Nat)) then
                bif Decidable.decide   ((List.take (v2 - Option.none.getD (0 : Int)).toNat (List.drop (Option.none.getD (0 : Int)).toNat v0)).length +       [v1].length ≤     (4294967296 : Nat)) then
                  bif Decidable.decide ((0 : Int) ≤ (Option.some v2).getD (0 : Int)) then
                    bif Decidable.decide ((Option.some v2).getD (0 : Int) ≤ (↑v0.length : Int)) then
                      bif Decidable.decide   ((List.take (v2 - Option.none.getD (0 : Int)).toNat (List.drop (Option.none.getD (0 : Int)).toNat v0) ++           [v1]).length +       (List.drop ((Option.some v2).getD (0 : Int)).toNat v0).length ≤     (4294967296 : Nat)) then
                        ret (List.take (v2 - Option.none.getD (0 : Int)).toNat (List.drop (Option.none.getD (0 : Int)).toNat v0) ++ [v1] ++   List.drop ((Option.some v2).getD (0 : Int)).toNat v0)
                      else
                        none
                    else
                      none
                  else
                    none
                else
                  none
              else
                none
            else
              none
          else
            none
      else
        none
    else
      none
  else
    bif Decidable.decide (Option.none.getD (0 : Int) ≤ v2) then
      bif Decidable.decide (v2 ≤ (↑v0.length : Int)) then
        bif Decidable.decide   ((List.take (v2 - Option.none.getD (0 : Int)).toNat (List.drop (Option.none.getD (0 : Int)).toNat v0)).length ≤     (4294967296 : Nat)) then
          bif Decidable.decide   ((List.take (v2 - Option.none.getD (0 : Int)).toNat (List.drop (Option.none.getD (0 : Int)).toNat v0)).length +       [v1].length ≤     (4294967296 : Nat)) then
            bif Decidable.decide ((0 : Int) ≤ (Option.some v2).getD (0 : Int)) then
              bif Decidable.decide ((Option.some v2).getD (0 : Int) ≤ (↑v0.length : Int)) then
                bif Decidable.decide   ((List.take (v2 - Option.none.getD (0 : Int)).toNat (List.drop (Option.none.getD (0 : Int)).toNat v0) ++           [v1]).length +       (List.drop ((Option.some v2).getD (0 : Int)).toNat v0).length ≤     (4294967296 : Nat)) then
                  ret (List.take (v2 - Option.none.getD (0 : Int)).toNat (List.drop (Option.none.getD (0 : Int)).toNat v0) ++ [v1] ++   List.drop ((Option.some v2).getD (0 : Int)).toNat v0)
                else
                  none
              else
                none
            else
              none
          else
            none
        else
          none
      else
        none
    else
      none
theorem spec_l7Put.k (v0 : List Int) (v1 : Int) : topL E (callT E tab) 86 Try.f86 (spec_l7Put.c v0 v1) = spec_l7Put.t (fun b => some (spec_l7Put.mk b)) spec_l7Put.q4 v0 v1 := by kernel_rfl
theorem spec_l7Put.k4 (v0 : List Int) (v1 : Int) (v2 : Int) : roundL E (callT E tab) 86 Try.f86 2 [.r, .r, .r, .l, .b] (vc (.d .fro (.sl (.int .i64)) v0) :: vc (iL v1) :: nn 3 (vc (iL v2) :: nn 33 ([]))) = spec_l7Put.t4 (fun b => some (spec_l7Put.mk b)) spec_l7Put.q4 v0 v1 v2 := by kernel_rfl
theorem spec_l7Put.s (v0 : List Int) (v1 : Int) : Sub spec_l7Put.mk (spec_l7Put.t some spec_l7Put.l4 v0 v1) (spec_l7Put.t (fun b => some (spec_l7Put.mk b)) spec_l7Put.q4 v0 v1) := by
  unfold spec_l7Put.t
  repeat' first | exact Sub.ret | exact Sub.none | exact Sub.loop | apply Sub.cond | (apply Sub.bind; intro _)
theorem spec_l7Put.eq (v0 : List Int) (v1 : Int) {b : (List Int)} (h : spec_l7Put.t some spec_l7Put.l4 v0 v1 = some b) : spec_l7Put v0 v1 = some b := tOf_intro spec_l7Put.un (fun _ => by kernel_rfl) (vlim_fn (callT_le E tab) rfl rfl rfl ((spec_l7Put.k v0 v1).trans (spec_l7Put.s v0 v1 b h)))
theorem spec_l7Put.s4 (v0 : List Int) (v1 : Int) (v2 : Int) : Sub spec_l7Put.mk (spec_l7Put.t4 some spec_l7Put.l4 v0 v1 v2) (spec_l7Put.t4 (fun b => some (spec_l7Put.mk b)) spec_l7Put.q4 v0 v1 v2) := by
  unfold spec_l7Put.t4
  repeat' first | exact Sub.ret | exact Sub.none | exact Sub.loop | apply Sub.cond | (apply Sub.bind; intro _)
theorem spec_l7Put.eq4 (v0 : List Int) (v1 : Int) (v2 : Int) {b : (List Int)} (h : spec_l7Put.t4 some spec_l7Put.l4 v0 v1 v2 = some b) : spec_l7Put.l4 v0 v1 v2 = some b := tOf_intro spec_l7Put.un (fun _ => by kernel_rfl) (loopAtL_step ((spec_l7Put.k4 v0 v1 v2).trans (spec_l7Put.s4 v0 v1 v2 b h)))
noncomputable def spec_l1Has.q2 (v0 : Int) (v1 : List Int) (v2 : Int) (v3 : Int) : Option R := loopAtL E (callT E tab) 73 Try.f73 2 [.r, .l, .r, .b] (nn 1 (vc (iL v0) :: nn 5 (vc (.d .fro (.sl (.int .i64)) v1) :: vc (iL v2) :: vc (iL v3) :: nn 7 ([]))))
noncomputable def spec_l1Has.l2 (v0 : Int) (v1 : List Int) (v2 : Int) (v3 : Int) : Option (Bool) := tOf spec_l1Has.mk (spec_l1Has.q2 v0 v1 v2 v3)
noncomputable def spec_l1Has.t {γ : Type} (ret : (Bool) → Option γ) (lp2 : Int → (List Int) → Int → Int → Option γ) (v0 : List Int) (v1 : Int) : Option γ :=
  lp2 (v1) (v0) ((↑v0.length : Int)) ((0 : Int))
noncomputable def spec_l1Has.t2 {γ : Type} (ret : (Bool) → Option γ) (lp2 : Int → (List Int) → Int → Int → Option γ) (v0 : Int) (v1 : List Int) (v2 : Int) (v3 : Int) : Option γ :=
  bif Decidable.decide (v3 < v2) then
    bif Decidable.decide ((0 : Int) ≤ v3) then
      bif Decidable.decide (v3.toNat < v1.length) then
        bif v1.getD v3.toNat (0 : Int) == v0 then
          ret (Bool.true)
        else
          lp2 (v0) (v1) (v2) (Go.IntKind.i64.wrap (v3 + (1 : Int)))
      else
        none
    else
      none
  else
    ret (Bool.false)
theorem spec_l1Has.k (v0 : List Int) (v1 : Int) : topL E (callT E tab) 73 Try.f73 (spec_l1Has.c v0 v1) = spec_l1Has.t (fun b => some (spec_l1Has.mk b)) spec_l1Has.q2 v0 v1 := by kernel_rfl
theorem spec_l1Has.k2 (v0 : Int) (v1 : List Int) (v2 : Int) (v3 : Int) : roundL E (callT E tab) 73 Try.f73 2 [.r, .l, .r, .b] (nn 1 (vc (iL v0) :: nn 5 (vc (.d .fro (.sl (.int .i64)) v1) :: vc (iL v2) :: vc (iL v3) :: nn 7 ([])))) = spec_l1Has.t2 (fun b => some (spec_l1Has.mk b)) spec_l1Has.q2 v0 v1 v2 v3 := by kernel_rfl
theorem spec_l1Has.s (v0 : List Int) (v1 : Int) : Sub spec_l1Has.mk (spec_l1Has.t some spec_l1Has.l2 v0 v1) (spec_l1Has.t (fun b => some (spec_l1Has.mk b)) spec_l1Has.q2 v0 v1) := by
  unfold spec_l1Has.t
  repeat' first | exact Sub.ret | exact Sub.none | exact Sub.loop | apply Sub.cond | (apply Sub.bind; intro _)
theorem spec_l1Has.eq (v0 : List Int) (v1 : Int) {b : Bool} (h : spec_l1Has.t some spec_l1Has.l2 v0 v1 = some b) : spec_l1Has v0 v1 = some b := tOf_intro spec_l1Has.un (fun _ => by kernel_rfl) (vlim_fn (callT_le E tab) rfl rfl rfl ((spec_l1Has.k v0 v1).trans (spec_l1Has.s v0 v1 b h)))
theorem spec_l1Has.s2 (v0 : Int) (v1 : List Int) (v2 : Int) (v3 : Int) : Sub spec_l1Has.mk (spec_l1Has.t2 some spec_l1Has.l2 v0 v1 v2 v3) (spec_l1Has.t2 (fun b => some (spec_l1Has.mk b)) spec_l1Has.q2 v0 v1 v2 v3) := by
  unfold spec_l1Has.t2
  repeat' first | exact Sub.ret | exact Sub.none | exact Sub.loop | apply Sub.cond | (apply Sub.bind; intro _)
theorem spec_l1Has.eq2 (v0 : Int) (v1 : List Int) (v2 : Int) (v3 : Int) {b : Bool} (h : spec_l1Has.t2 some spec_l1Has.l2 v0 v1 v2 v3 = some b) : spec_l1Has.l2 v0 v1 v2 v3 = some b := tOf_intro spec_l1Has.un (fun _ => by kernel_rfl) (loopAtL_step ((spec_l1Has.k2 v0 v1 v2 v3).trans (spec_l1Has.s2 v0 v1 v2 v3 b h)))
noncomputable def impl_areAll_int_impl_isVar.t {γ : Type} (ret : (Bool) → Option γ) (v0 : List Int) : Option γ :=
  (slices_ContainsFunc_int_int_impl_areAll_int_1_impl_isVar (v0)).bind fun (r0 : Bool) =>
  ret (!r0)
theorem impl_areAll_int_impl_isVar.k (v0 : List Int) : topL E (callT E tab) 63 Try.f63 (impl_areAll_int_impl_isVar.c v0) = impl_areAll_int_impl_isVar.t (fun b => some (impl_areAll_int_impl_isVar.mk b)) v0 := by kernel_rfl
theorem impl_areAll_int_impl_isVar.s (v0 : List Int) : Sub impl_areAll_int_impl_isVar.mk (impl_areAll_int_impl_isVar.t some v0) (impl_areAll_int_impl_isVar.t (fun b => some (impl_areAll_int_impl_isVar.mk b)) v0) := by
  unfold impl_areAll_int_impl_isVar.t
  repeat' first | exact Sub.ret | exact Sub.none | exact Sub.loop | apply Sub.cond | (apply Sub.bind; intro _)
theorem impl_areAll_int_impl_isVar.eq (v0 : List Int) {b : Bool} (h : impl_areAll_int_impl_isVar.t some v0 = some b) : impl_areAll_int_impl_isVar v0 = some b := tOf_intro impl_areAll_int_impl_isVar.un (fun _ => by kernel_rfl) (vlim_fn (callT_le E tab) rfl rfl rfl ((impl_areAll_int_impl_isVar.k v0).trans (impl_areAll_int_impl_isVar.s v0 b h)))
noncomputable def slices_ContainsFunc_int_int_impl_areAll_int_1_impl_isVar.t {γ : Type} (ret : (Bool) → Option γ) (v0 : List Int) : Option γ :=
  (slices_IndexFunc_int_int_impl_areAll_int_1_impl_isVar (v0)).bind fun (r0 : Int) =>
  ret (Decidable.decide (r0 ≥ (0 : Int)))
theorem slices_ContainsFunc_int_int_impl_areAll_int_1_impl_isVar.k (v0 : List Int) : topL E (callT E tab) 94 Try.f94 (slices_ContainsFunc_int_int_impl_areAll_int_1_impl_isVar.c v0) = slices_ContainsFunc_int_int_impl_areAll_int_1_impl_isVar.t (fun b => some (slices_ContainsFunc_int_int_impl_areAll_int_1_impl_isVar.mk b)) v0 := by kernel_rfl
theorem slices_ContainsFunc_int_int_impl_areAll_int_1_impl_isVar.s (v0 : List Int) : Sub slices_ContainsFunc_int_int_impl_areAll_int_1_impl_isVar.mk (slices_ContainsFunc_int_int_impl_areAll_int_1_impl_isVar.t some v0) (slices_ContainsFunc_int_int_impl_areAll_int_1_impl_isVar.t (fun b => some (slices_ContainsFunc_int_int_impl_areAll_int_1_impl_isVar.mk b)) v0) := by
  unfold slices_ContainsFunc_int_int_impl_areAll_int_1_impl_isVar.t
  repeat' first | exact Sub.ret | exact Sub.none | exact Sub.loop | apply Sub.cond | (apply Sub.bind; intro _)
theorem slices_ContainsFunc_int_int_impl_areAll_int_1_impl_isVar.eq (v0 : List Int) {b : Bool} (h : slices_ContainsFunc_int_int_impl_areAll_int_1_impl_isVar.t some v0 = some b) : slices_ContainsFunc_int_int_impl_areAll_int_1_impl_isVar v0 = some b := tOf_intro slices_ContainsFunc_int_int_impl_areAll_int_1_impl_isVar.un (fun _ => by kernel_rfl) (vlim_fn (callT_le E tab) rfl rfl rfl ((slices_ContainsFunc_int_int_impl_areAll_int_1_impl_isVar.k v0).trans (slices_ContainsFunc_int_int_impl_areAll_int_1_impl_isVar.s v0 b h)))
noncomputable def slices_IndexFunc_int_int_impl_areAll_int_1_impl_isVar.q2 (v0 : List Int) (v1 : Int) (v2 : Int) : Option R := loopAtL E (callT E tab) 108 Try.f108 2 [.r, .l, .r, .b] (vc (.d .fro (.sl (.int .i64)) v0) :: vc (.fn 95 [.rp [.fn 64 []] 0]) :: nn 5 (vc (iL v1) :: vc (iL v2) :: nn 10 ([])))
noncomputable def slices_IndexFunc_int_int_impl_areAll_int_1_impl_isVar.l2 (v0 : List Int) (v1 : Int) (v2 : Int) : Option (Int) := tOf slices_IndexFunc_int_int_impl_areAll_int_1_impl_isVar.mk (slices_IndexFunc_int_int_impl_areAll_int_1_impl_isVar.q2 v0 v1 v2)
noncomputable def slices_IndexFunc_int_int_impl_areAll_int_1_impl_isVar.t {γ : Type} (ret : (Int) → Option γ) (lp2 : (List Int) → Int → Int → Option γ) (v0 : List Int) : Option γ :=
  lp2 (v0) ((↑v0.length : Int)) ((0 : Int))
noncomputable def slices_IndexFunc_int_int_impl_areAll_int_1_impl_isVar.t2 {γ : Type} (ret : (Int) → Option γ) (lp2 : (List Int) → Int → Int → Option γ) (v0 : List Int) (v1 : Int) (v2 : Int) : Option γ :=
  bif Decidable.decide (v2 < v1) then
    bif Decidable.decide ((0 : Int) ≤ v2) then
      bif Decidable.decide (v2.toNat < v0.length) then
        (impl_areAll_int_1_impl_isVar (v0.getD v2.toNat (0 : Int))).bind fun (r0 : Bool) =>
        bif r0 then
          ret (v2)
        else
          lp2 (v0) (v1) (Go.IntKind.i64.wrap (v2 + (1 : Int)))
      else
        none
    else
      none
  else
    ret ((-1 : Int))
theorem slices_IndexFunc_int_int_impl_areAll_int_1_impl_isVar.k (v0 : List Int) : topL E (callT E tab) 108 Try.f108 (slices_IndexFunc_int_int_impl_areAll_int_1_impl_isVar.c v0) = slices_IndexFunc_int_int_impl_areAll_int_1_impl_isVar.t (fun b => some (slices_IndexFunc_int_int_impl_areAll_int_1_impl_isVar.mk b)) slices_IndexFunc_int_int_impl_areAll_int_1_impl_isVar.q2 v0 := by kernel_rfl
theorem slices_IndexFunc_int_int_impl_areAll_int_1_impl_isVar.k2 (v0 : List Int) (v1 : Int) (v2 : Int) : roundL E (callT E tab) 108 Try.f108 2 [.r, .l, .r, .b] (vc (.d .fro (.sl (.int .i64)) v0) :: vc (.fn 95 [.rp [.fn 64 []] 0]) :: nn 5 (vc (iL v1) :: vc (iL v2) :: nn 10 ([]))) = slices_IndexFunc_int_int_impl_areAll_int_1_impl_isVar.t2 (fun b => some (slices_IndexFunc_int_int_impl_areAll_int_1_impl_isVar.mk b)) slices_IndexFunc_int_int_impl_areAll_int_1_impl_isVar.q2 v0 v1 v2 := by kernel_rfl
theorem slices_IndexFunc_int_int_impl_areAll_int_1_impl_isVar.s (v0 : List Int) : Sub slices_IndexFunc_int_int_impl_areAll_int_1_impl_isVar.mk (slices_IndexFunc_int_int_impl_areAll_int_1_impl_isVar.t some slices_IndexFunc_int_int_impl_areAll_int_1_impl_isVar.l2 v0) (slices_IndexFunc_int_int_impl_areAll_int_1_impl_isVar.t (fun b => some (slices_IndexFunc_int_int_impl_areAll_int_1_impl_isVar.mk b)) slices_IndexFunc_int_int_impl_areAll_int_1_impl_isVar.q2 v0) := by
  unfold slices_IndexFunc_int_int_impl_areAll_int_1_impl_isVar.t
  repeat' first | exact Sub.ret | exact Sub.none | exact Sub.loop | apply Sub.cond | (apply Sub.bind; intro _)
theorem slices_IndexFunc_int_int_impl_areAll_int_1_impl_isVar.eq (v0 : List Int) {b : Int} (h : slices_IndexFunc_int_int_impl_areAll_int_1_impl_isVar.t some slices_IndexFunc_int_int_impl_areAll_int_1_impl_isVar.l2 v0 = some b) : slices_IndexFunc_int_int_impl_areAll_int_1_impl_isVar v0 = some b := tOf_intro slices_IndexFunc_int_int_impl_areAll_int_1_impl_isVar.un (fun _ => by kernel_rfl) (vlim_fn (callT_le E tab) rfl rfl rfl ((slices_IndexFunc_int_int_impl_areAll_int_1_impl_isVar.k v0).trans (slices_IndexFunc_int_int_impl_areAll_int_1_impl_isVar.s v0 b h)))
theorem slices_IndexFunc_int_int_impl_areAll_int_1_impl_isVar.s2 (v0 : List Int) (v1 : Int) (v2 : Int) : Sub slices_IndexFunc_int_int_impl_areAll_int_1_impl_isVar.mk (slices_IndexFunc_int_int_impl_areAll_int_1_impl_isVar.t2 some slices_IndexFunc_int_int_impl_areAll_int_1_impl_isVar.l2 v0 v1 v2) (slices_IndexFunc_int_int_impl_areAll_int_1_impl_isVar.t2 (fun b => some (slices_IndexFunc_int_int_impl_areAll_int_1_impl_isVar.mk b)) slices_IndexFunc_int_int_impl_areAll_int_1_impl_isVar.q2 v0 v1 v2) := by
  unfold slices_IndexFunc_int_int_impl_areAll_int_1_impl_isVar.t2
  repeat' first | exact Sub.ret | exact Sub.none | exact Sub.loop | apply Sub.cond | (apply Sub.bind; intro _)
theorem slices_IndexFunc_int_int_impl_areAll_int_1_impl_isVar.eq2 (v0 : List Int) (v1 : Int) (v2 : Int) {b : Int} (h : slices_IndexFunc_int_int_impl_areAll_int_1_impl_isVar.t2 some slices_IndexFunc_int_int_impl_areAll_int_1_impl_isVar.l2 v0 v1 v2 = some b) : slices_IndexFunc_int_int_impl_areAll_int_1_impl_isVar.l2 v0 v1 v2 = some b := tOf_intro slices_IndexFunc_int_int_impl_areAll_int_1_impl_isVar.un (fun _ => by kernel_rfl) (loopAtL_step ((slices_IndexFunc_int_int_impl_areAll_int_1_impl_isVar.k2 v0 v1 v2).trans (slices_IndexFunc_int_int_impl_areAll_int_1_impl_isVar.s2 v0 v1 v2 b h)))
end GoV

/- Equations of the program's functions (printed by wip/tools/emit.py). -/
namespace GoV
open Go Go.Proofs
set_option maxRecDepth 100000

noncomputable def impl_areAll_int_1_impl_isVar.t {γ : Type} (ret : (Bool) → Option γ) (v0 : Int) : Option γ :=
  (impl_isVar (v0)).bind fun (r0 : Bool) =>
  ret (!r0)
theorem impl_areAll_int_1_impl_isVar.k (v0 : Int) : topL E (callT E tab) 95 Try.f95 (impl_areAll_int_1_impl_isVar.c v0) = impl_areAll_int_1_impl_isVar.t (fun b => some (impl_areAll_int_1_impl_isVar.mk b)) v0 := by kernel_rfl
theorem impl_areAll_int_1_impl_isVar.s (v0 : Int) : Sub impl_areAll_int_1_impl_isVar.mk (impl_areAll_int_1_impl_isVar.t some v0) (impl_areAll_int_1_impl_isVar.t (fun b => some (impl_areAll_int_1_impl_isVar.mk b)) v0) := by
  unfold impl_areAll_int_1_impl_isVar.t
  repeat' first | exact Sub.ret | exact Sub.none | exact Sub.loop | apply Sub.cond | (apply Sub.bind; intro _)
theorem impl_areAll_int_1_impl_isVar.eq (v0 : Int) {b : Bool} (h : impl_areAll_int_1_impl_isVar.t some v0 = some b) : impl_areAll_int_1_impl_isVar v0 = some b := tOf_intro impl_areAll_int_1_impl_isVar.un (fun _ => by kernel_rfl) (vlim_fn (callT_le E tab) rfl rfl rfl ((impl_areAll_int_1_impl_isVar.k v0).trans (impl_areAll_int_1_impl_isVar.s v0 b h)))
noncomputable def impl_isVar.t {γ : Type} (ret : (Bool) → Option γ) (v0 : Int) : Option γ :=
  (impl_within (v0) ((0 : Int)) ((5 : Int))).bind fun (r0 : Bool) =>
  ret (r0)
theorem impl_isVar.k (v0 : Int) : topL E (callT E tab) 64 Try.f64 (impl_isVar.c v0) = impl_isVar.t (fun b => some (impl_isVar.mk b)) v0 := by kernel_rfl
theorem impl_isVar.s (v0 : Int) : Sub impl_isVar.mk (impl_isVar.t some v0) (impl_isVar.t (fun b => some (impl_isVar.mk b)) v0) := by
  unfold impl_isVar.t
  repeat' first | exact Sub.ret | exact Sub.none | exact Sub.loop | apply Sub.cond | (apply Sub.bind; intro _)
theorem impl_isVar.eq (v0 : Int) {b : Bool} (h : impl_isVar.t some v0 = some b) : impl_isVar v0 = some b := tOf_intro impl_isVar.un (fun _ => by kernel_rfl) (vlim_fn (callT_le E tab) rfl rfl rfl ((impl_isVar.k v0).trans (impl_isVar.s v0 b h)))
noncomputable def impl_vars.q3 (v0 : Int) (v1 : List (Int × List Int)) (v2 : Int) (v3 : Int) : Option R := loopAtL E (callT E tab) 65 Try.f65 1 [.r, .r, .l, .r, .b] (nn 3 (vc (iL v0) :: nn 2 (vc (.d .fro (.sl (.pair (.int .i64) (.sl (.int .i64)))) v1) :: vc (iL v2) :: vc (iL v3) :: nn 11 ([]))))
noncomputable def impl_vars.l3 (v0 : Int) (v1 : List (Int × List Int)) (v2 : Int) (v3 : Int) : Option ((List Int)) := tOf impl_vars.mk (impl_vars.q3 v0 v1 v2 v3)
noncomputable def impl_vars.t {γ : Type} (ret : ((List Int)) → Option γ) (lp3 : Int → (List (Int × List Int)) → Int → Int → Option γ) (v0 : List (Int × List Int)) : Option γ :=
  lp3 ((0 : Int)) (v0) ((↑v0.length : Int)) ((0 : Int))
noncomputable def impl_vars.t3 {γ : Type} (ret : ((List Int)) → Option γ) (lp3 : Int → (List (Int × List Int)) → Int → Int → Option γ) (v0 : Int) (v1 : List (Int × List Int)) (v2 : Int) (v3 : Int) : Option γ :=
  bif Decidable.decide (v3 < v2) then
    bif Decidable.decide ((0 : Int) ≤ v3) then
      bif Decidable.decide (v3.toNat < v1.length) then
        (impl_setOf ((v1.getD v3.toNat ((0 : Int), [])).snd)).bind fun (r0 : Int) =>
        lp3 (Go.IntKind.i64.wrap (↑(BitVec.ofInt Go.IntKind.i64.bits v0 ||| BitVec.ofInt Go.IntKind.i64.bits r0).toNat : Int)) (v1) (v2) (Go.IntKind.i64.wrap (v3 + (1 : Int)))
      else
        none
    else
      none
  else
    (impl_set_list (v0)).bind fun (r1 : (List Int)) =>
    ret (r1)
theorem impl_vars.k (v0 : List (Int × List Int)) : topL E (callT E tab) 65 Try.f65 (impl_vars.c v0) = impl_vars.t (fun b => some (impl_vars.mk b)) impl_vars.q3 v0 := by kernel_rfl
theorem impl_vars.k3 (v0 : Int) (v1 : List (Int × List Int)) (v2 : Int) (v3 : Int) : roundL E (callT E tab) 65 Try.f65 1 [.r, .r, .l, .r, .b] (nn 3 (vc (iL v0) :: nn 2 (vc (.d .fro (.sl (.pair (.int .i64) (.sl (.int .i64)))) v1) :: vc (iL v2) :: vc (iL v3) :: nn 11 ([])))) = impl_vars.t3 (fun b => some (impl_vars.mk b)) impl_vars.q3 v0 v1 v2 v3 := by kernel_rfl
theorem impl_vars.s (v0 : List (Int × List Int)) : Sub impl_vars.mk (impl_vars.t some impl_vars.l3 v0) (impl_vars.t (fun b => some (impl_vars.mk b)) impl_vars.q3 v0) := by
  unfold impl_vars.t
  repeat' first | exact Sub.ret | exact Sub.none | exact Sub.loop | apply Sub.cond | (apply Sub.bind; intro _)
theorem impl_vars.eq (v0 : List (Int × List Int)) {b : (List Int)} (h : impl_vars.t some impl_vars.l3 v0 = some b) : impl_vars v0 = some b := tOf_intro impl_vars.un (fun _ => by kernel_rfl) (vlim_fn (callT_le E tab) rfl rfl rfl ((impl_vars.k v0).trans (impl_vars.s v0 b h)))
theorem impl_vars.s3 (v0 : Int) (v1 : List (Int × List Int)) (v2 : Int) (v3 : Int) : Sub impl_vars.mk (impl_vars.t3 some impl_vars.l3 v0 v1 v2 v3) (impl_vars.t3 (fun b => some (impl_vars.mk b)) impl_vars.q3 v0 v1 v2 v3) := by
  unfold impl_vars.t3
  repeat' first | exact Sub.ret | exact Sub.none | exact Sub.loop | apply Sub.cond | (apply Sub.bind; intro _)
theorem impl_vars.eq3 (v0 : Int) (v1 : List (Int × List Int)) (v2 : Int) (v3 : Int) {b : (List Int)} (h : impl_vars.t3 some impl_vars.l3 v0 v1 v2 v3 = some b) : impl_vars.l3 v0 v1 v2 v3 = some b := tOf_intro impl_vars.un (fun _ => by kernel_rfl) (loopAtL_step ((impl_vars.k3 v0 v1 v2 v3).trans (impl_vars.s3 v0 v1 v2 v3 b h)))
noncomputable def laws_eqQuery.t {γ : Type} (ret : (Bool) → Option γ) (v0 : List Int) (v1 : List (Int × List Int)) (v2 : List Int) (v3 : List (Int × List Int)) : Option γ :=
  (laws_eqIntS (v0) (v2)).bind fun (r0 : Bool) =>
  bif !r0 then
    ret (Bool.false)
  else
    (laws_eqAtomS (v1) (v3)).bind fun (r1 : Bool) =>
    bif !r1 then
      ret (Bool.false)
    else
      ret (Bool.true)
theorem laws_eqQuery.k (v0 : List Int) (v1 : List (Int × List Int)) (v2 : List Int) (v3 : List (Int × List Int)) : topL E (callT E tab) 29 Try.f29 (laws_eqQuery.c v0 v1 v2 v3) = laws_eqQuery.t (fun b => some (laws_eqQuery.mk b)) v0 v1 v2 v3 := by kernel_rfl
theorem laws_eqQuery.s (v0 : List Int) (v1 : List (Int × List Int)) (v2 : List Int) (v3 : List (Int × List Int)) : Sub laws_eqQuery.mk (laws_eqQuery.t some v0 v1 v2 v3) (laws_eqQuery.t (fun b => some (laws_eqQuery.mk b)) v0 v1 v2 v3) := by
  unfold laws_eqQuery.t
  repeat' first | exact Sub.ret | exact Sub.none | exact Sub.loop | apply Sub.cond | (apply Sub.bind; intro _)
theorem laws_eqQuery.eq (v0 : List Int) (v1 : List (Int × List Int)) (v2 : List Int) (v3 : List (Int × List Int)) {b : Bool} (h : laws_eqQuery.t some v0 v1 v2 v3 = some b) : laws_eqQuery v0 v1 v2 v3 = some b := tOf_intro laws_eqQuery.un (fun _ => by kernel_rfl) (vlim_fn (callT_le E tab) rfl rfl rfl ((laws_eqQuery.k v0 v1 v2 v3).trans (laws_eqQuery.s v0 v1 v2 v3 b h)))
noncomputable def laws_eqAtomS.q4 (v0 : List (Int × List Int)) (v1 : List (Int × List Int)) (v2 : Int) : Option R := loopAtL E (callT E tab) 66 Try.f66 2 [.r, .r, .l, .r, .b] (vc (.d .fro (.sl (.pair (.int .i64) (.sl (.int .i64)))) v0) :: vc (.d .fro (.sl (.pair (.int .i64) (.sl (.int .i64)))) v1) :: nn 3 (vc (iL v2) :: nn 21 ([])))
noncomputable def laws_eqAtomS.l4 (v0 : List (Int × List Int)) (v1 : List (Int × List Int)) (v2 : Int) : Option (Bool) := tOf laws_eqAtomS.mk (laws_eqAtomS.q4 v0 v1 v2)
noncomputable def laws_eqAtomS.t {γ : Type} (ret : (Bool) → Option γ) (lp4 : (List (Int × List Int)) → (List (Int × List Int)) → Int → Option γ) (v0 : List (Int × List Int)) (v1 : List (Int × List Int)) : Option γ :=
  bif (↑v0.length : Int) != (↑v1.length : Int) then
    ret (Bool.false)
  else
    lp4 (v0) (v1) ((0 : Int))
noncomputable def laws_eqAtomS.t4 {γ : Type} (ret : (Bool) → Option γ) (lp4 : (List (Int × List Int)) → (List (Int × List Int)) → Int → Option γ) (v0 : List (Int × List Int)) (v1 : List (Int × List Int)) (v2 : Int) : Option γ :=
  bif Decidable.decide (v2 < (↑v0.length : Int)) then
    bif Decidable.decide ((0 : Int) ≤ v2) then
      bif Decidable.decide (v2.toNat < v0.length) then
        bif Decidable.decide ((0 : Int) ≤ v2) then
          bif Decidable.decide (v2.toNat < v1.length) then
            (laws_eqAtom ((v0.getD v2.toNat ((0 : Int), [])).fst) ((v0.getD v2.toNat ((0 : Int), [])).snd) ((v1.getD v2.toNat ((0 : Int), [])).fst) ((v1.getD v2.toNat ((0 : Int), [])).snd)).bind fun (r0 : Bool) =>
            bif !r0 then
              ret (Bool.false)
            else
              lp4 (v0) (v1) (Go.IntKind.i64.wrap (v2 + (1 : Int)))
          else
            none
        else
          none
      else
        none
    else
      none
  else
    ret (Bool.true)
theorem laws_eqAtomS.k (v0 : List (Int × List Int)) (v1 : List (Int × List Int)) : topL E (callT E tab) 66 Try.f66 (laws_eqAtomS.c v0 v1) = laws_eqAtomS.t (fun b => some (laws_eqAtomS.mk b)) laws_eqAtomS.q4 v0 v1 := by kernel_rfl
theorem laws_eqAtomS.k4 (v0 : List (Int × List Int)) (v1 : List (Int × List Int)) (v2 : Int) : roundL E (callT E tab) 66 Try.f66 2 [.r, .r, .l, .r, .b] (vc (.d .fro (.sl (.pair (.int .i64) (.sl (.int .i64)))) v0) :: vc (.d .fro (.sl (.pair (.int .i64) (.sl (.int .i64)))) v1) :: nn 3 (vc (iL v2) :: nn 21 ([]))) = laws_eqAtomS.t4 (fun b => some (laws_eqAtomS.mk b)) laws_eqAtomS.q4 v0 v1 v2 := by kernel_rfl
theorem laws_eqAtomS.s (v0 : List (Int × List Int)) (v1 : List (Int × List Int)) : Sub laws_eqAtomS.mk (laws_eqAtomS.t some laws_eqAtomS.l4 v0 v1) (laws_eqAtomS.t (fun b => some (laws_eqAtomS.mk b)) laws_eqAtomS.q4 v0 v1) := by
  unfold laws_eqAtomS.t
  repeat' first | exact Sub.ret | exact Sub.none | exact Sub.loop | apply Sub.cond | (apply Sub.bind; intro _)
theorem laws_eqAtomS.eq (v0 : List (Int × List Int)) (v1 : List (Int × List Int)) {b : Bool} (h : laws_eqAtomS.t some laws_eqAtomS.l4 v0 v1 = some b) : laws_eqAtomS v0 v1 = some b := tOf_intro laws_eqAtomS.un (fun _ => by kernel_rfl) (vlim_fn (callT_le E tab) rfl rfl rfl ((laws_eqAtomS.k v0 v1).trans (laws_eqAtomS.s v0 v1 b h)))
theorem laws_eqAtomS.s4 (v0 : List (Int × List Int)) (v1 : List (Int × List Int)) (v2 : Int) : Sub laws_eqAtomS.mk (laws_eqAtomS.t4 some laws_eqAtomS.l4 v0 v1 v2) (laws_eqAtomS.t4 (fun b => some (laws_eqAtomS.mk b)) laws_eqAtomS.q4 v0 v1 v2) := by
  unfold laws_eqAtomS.t4
  repeat' first | exact Sub.ret | exact Sub.none | exact Sub.loop | apply Sub.cond | (apply Sub.bind; intro _)
theorem laws_eqAtomS.eq4 (v0 : List (Int × List Int)) (v1 : List (Int × List Int)) (v2 : Int) {b : Bool} (h : laws_eqAtomS.t4 some laws_eqAtomS.l4 v0 v1 v2 = some b) : laws_eqAtomS.l4 v0 v1 v2 = some b := tOf_intro laws_eqAtomS.un (fun _ => by kernel_rfl) (loopAtL_step ((laws_eqAtomS.k4 v0 v1 v2).trans (laws_eqAtomS.s4 v0 v1 v2 b h)))
noncomputable def laws_eqAtom.t {γ : Type} (ret : (Bool) → Option γ) (v0 : Int) (v1 : List Int) (v2 : Int) (v3 : List Int) : Option γ :=
  bif v0 != v2 then
    ret (Bool.false)
  else
    (laws_eqIntS (v1) (v3)).bind fun (r0 : Bool) =>
    bif !r0 then
      ret (Bool.false)
    else
      ret (Bool.true)
theorem laws_eqAtom.k (v0 : Int) (v1 : List Int) (v2 : Int) (v3 : List Int) : topL E (callT E tab) 96 Try.f96 (laws_eqAtom.c v0 v1 v2 v3) = laws_eqAtom.t (fun b => some (laws_eqAtom.mk b)) v0 v1 v2 v3 := by kernel_rfl
theorem laws_eqAtom.s (v0 : Int) (v1 : List Int) (v2 : Int) (v3 : List Int) : Sub laws_eqAtom.mk (laws_eqAtom.t some v0 v1 v2 v3) (laws_eqAtom.t (fun b => some (laws_eqAtom.mk b)) v0 v1 v2 v3) := by
  unfold laws_eqAtom.t
  repeat' first | exact Sub.ret | exact Sub.none | exact Sub.loop | apply Sub.cond | (apply Sub.bind; intro _)
theorem laws_eqAtom.eq (v0 : Int) (v1 : List Int) (v2 : Int) (v3 : List Int) {b : Bool} (h : laws_eqAtom.t some v0 v1 v2 v3 = some b) : laws_eqAtom v0 v1 v2 v3 = some b := tOf_intro laws_eqAtom.un (fun _ => by kernel_rfl) (vlim_fn (callT_le E tab) rfl rfl rfl ((laws_eqAtom.k v0 v1 v2 v3).trans (laws_eqAtom.s v0 v1 v2 v3 b h)))
noncomputable def laws_FnExactGoodQuery.t {γ : Type} (ret : (Bool) → Option γ) (v0 : List Int) (v1 : List (Int × List Int)) (v2 : List Int) : Option γ :=
  bif Decidable.decide ((↑v2.length : Int) > (1048576 : Int)) then
    ret (Bool.true)
  else
    (laws_szQuery (v0) (v1) ((1048576 : Int))).bind fun (r0 : Int) =>
    bif Decidable.decide (r0 < (0 : Int)) then
      ret (Bool.true)
    else
      (laws_toQuery (v0) (v1)).bind fun (r1 : (List Int) × (List (Int × List Int))) =>
      (laws_toIntS (v2)).bind fun (r2 : (List Int)) =>
      (spec_GoodQuery (r1.fst) (r1.snd) (r2)).bind fun (r3 : Bool) =>
      (laws_toQuery (v0) (v1)).bind fun (r4 : (List Int) × (List (Int × List Int))) =>
      (laws_toIntS (v2)).bind fun (r5 : (List Int)) =>
      (impl_GoodQuery (r4.fst) (r4.snd) (r5)).bind fun (r6 : Bool) =>
      bif !r6 == r3 then
        ret (Bool.false)
      else
        (laws_toQuery (v0) (v1)).bind fun (r7 : (List Int) × (List (Int × List Int))) =>
        (laws_eqQuery (r4.fst) (r4.snd) (r7.fst) (r7.snd)).bind fun (r8 : Bool) =>
        bif !r8 then
          ret (Bool.false)
        else
          (laws_toIntS (v2)).bind fun (r9 : (List Int)) =>
          (laws_eqIntS (r5) (r9)).bind fun (r10 : Bool) =>
          bif !r10 then
            ret (Bool.false)
          else
            ret (Bool.true)
theorem laws_FnExactGoodQuery.k (v0 : List Int) (v1 : List (Int × List Int)) (v2 : List Int) : topL E (callT E tab) 6 Try.f6 (laws_FnExactGoodQuery.c v0 v1 v2) = laws_FnExactGoodQuery.t (fun b => some (laws_FnExactGoodQuery.mk b)) v0 v1 v2 := by kernel_rfl
theorem laws_FnExactGoodQuery.s (v0 : List Int) (v1 : List (Int × List Int)) (v2 : List Int) : Sub laws_FnExactGoodQuery.mk (laws_FnExactGoodQuery.t some v0 v1 v2) (laws_FnExactGoodQuery.t (fun b => some (laws_FnExactGoodQuery.mk b)) v0 v1 v2) := by
  unfold laws_FnExactGoodQuery.t
  repeat' first | exact Sub.ret | exact Sub.none | exact Sub.loop | apply Sub.cond | (apply Sub.bind; intro _)
theorem laws_FnExactGoodQuery.eq (v0 : List Int) (v1 : List (Int × List Int)) (v2 : List Int) {b : Bool} (h : laws_FnExactGoodQuery.t some v0 v1 v2 = some b) : laws_FnExactGoodQuery v0 v1 v2 = some b := tOf_intro laws_FnExactGoodQuery.un (fun _ => by kernel_rfl) (vlim_fn (callT_le E tab) rfl rfl rfl ((laws_FnExactGoodQuery.k v0 v1 v2).trans (laws_FnExactGoodQuery.s v0 v1 v2 b h)))
noncomputable def spec_GoodQuery.q9 (v0 : List Int) (v1 : List Int) (v2 : List (Int × List Int)) (v3 : List (Int × List Int)) (v4 : Int) (v5 : Int) (v6 : List Int) (v7 : Int) (v8 : Int) : Option R := loopAtL E (callT E tab) 33 Try.f33 2 [.r, .r, .l, .r, .b, .o, .r, .r, .l, .b, .r, .r, .r, .b] (nn 1 (vc (.d .fro (.sl (.int .i64)) v0) :: ⟨(.box false), [.d .fro (.sl (.int .i64)) v1, .d .fro (.sl (.pair (.int .i64) (.sl (.int .i64)))) v2], false, false, false, 0, 0⟩ :: nn 23 (vc (.d .fro (.sl (.pair (.int .i64) (.sl (.int .i64)))) v3) :: vc (iL v4) :: vc (iL v5) :: nn 25 (vc (.d .fro (.sl (.int .i64)) v6) :: vc (iL v7) :: vc (iL v8) :: nn 13 ([])))))
noncomputable def spec_GoodQuery.l9 (v0 : List Int) (v1 : List Int) (v2 : List (Int × List Int)) (v3 : List (Int × List Int)) (v4 : Int) (v5 : Int) (v6 : List Int) (v7 : Int) (v8 : Int) : Option (Bool) := tOf spec_GoodQuery.mk (spec_GoodQuery.q9 v0 v1 v2 v3 v4 v5 v6 v7 v8)
noncomputable def spec_GoodQuery.q4 (v0 : List Int) (v1 : List Int) (v2 : List (Int × List Int)) (v3 : List (Int × List Int)) (v4 : Int) (v5 : Int) : Option R := loopAtL E (callT E tab) 33 Try.f33 2 [.r, .r, .l, .r, .b] (nn 1 (vc (.d .fro (.sl (.int .i64)) v0) :: ⟨(.box false), [.d .fro (.sl (.int .i64)) v1, .d .fro (.sl (.pair (.int .i64) (.sl (.int .i64)))) v2], false, false, false, 0, 0⟩ :: nn 23 (vc (.d .fro (.sl (.pair (.int .i64) (.sl (.int .i64)))) v3) :: vc (iL v4) :: vc (iL v5) :: nn 41 ([]))))
noncomputable def spec_GoodQuery.l4 (v0 : List Int) (v1 : List Int) (v2 : List (Int × List Int)) (v3 : List (Int × List Int)) (v4 : Int) (v5 : Int) : Option (Bool) := tOf spec_GoodQuery.mk (spec_GoodQuery.q4 v0 v1 v2 v3 v4 v5)
noncomputable def spec_GoodQuery.t {γ : Type} (ret : (Bool) → Option γ) (lp9 : (List Int) → (List Int) → (List (Int × List Int)) → (List (Int × List Int)) → Int → Int → (List Int) → Int → Int → Option γ) (lp4 : (List Int) → (List Int) → (List (Int × List Int)) → (List (Int × List Int)) → Int → Int → Option γ) (v0 : List Int) (v1 : List (Int × List Int)) (v2 : List Int) : Option γ :=
  (spec_l10Tables (v2)).bind fun (r0 : Bool) =>
  bif !r0 then
    ret (Bool.false)
  else
    (spec_l1In ((↑v1.length : Int)) ((1 : Int)) ((5 : Int))).bind fun (r1 : Bool) =>
    bif !r1 then
      ret (Bool.false)
    else
      bif Decidable.decide ((↑v0.length : Int) > (6 : Int)) then
        ret (Bool.false)
      else
        lp4 (v2) (v0) (v1) (v1) ((↑v1.length : Int)) ((0 : Int))
noncomputable def spec_GoodQuery.t9 {γ : Type} (ret : (Bool) → Option γ) (lp9 : (List Int) → (List Int) → (List (Int × List Int)) → (List (Int × List Int)) → Int → Int → (List Int) → Int → Int → Option γ) (lp4 : (List Int) → (List Int) → (List (Int × List Int)) → (List (Int × List Int)) → Int → Int → Option γ) (v0 : List Int) (v1 : List Int) (v2 : List (Int × List Int)) (v3 : List (Int × List Int)) (v4 : Int) (v5 : Int) (v6 : List Int) (v7 : Int) (v8 : Int) : Option γ :=
  bif Decidable.decide (v8 < v7) then
    bif Decidable.decide ((0 : Int) ≤ v8) then
      bif Decidable.decide (v8.toNat < v6.length) then
        (spec_l10Var (v6.getD v8.toNat (0 : Int))).bind fun (r2 : Bool) =>
        bif !r2 then
          ret (Bool.false)
        else
          lp9 (v0) (v1) (v2) (v3) (v4) (v5) (v6) (v7) (Go.IntKind.i64.wrap (v8 + (1 : Int)))
      else
        none
    else
      none
  else
    lp4 (v0) (v1) (v2) (v3) (v4) (Go.IntKind.i64.wrap (v5 + (1 : Int)))
noncomputable def spec_GoodQuery.t4 {γ : Type} (ret : (Bool) → Option γ) (lp9 : (List Int) → (List Int) → (List (Int × List Int)) → (List (Int × List Int)) → Int → Int → (List Int) → Int → Int → Option γ) (lp4 : (List Int) → (List Int) → (List (Int × List Int)) → (List (Int × List Int)) → Int → Int → Option γ) (v0 : List Int) (v1 : List Int) (v2 : List (Int × List Int)) (v3 : List (Int × List Int)) (v4 : Int) (v5 : Int) : Option γ :=
  bif Decidable.decide (v5 < v4) then
    bif Decidable.decide ((0 : Int) ≤ v5) then
      bif Decidable.decide (v5.toNat < v3.length) then
        bif Decidable.decide ((v3.getD v5.toNat ((0 : Int), [])).fst < (0 : Int)) then
          ret (Bool.false)
        else
          bif Decidable.decide ((v3.getD v5.toNat ((0 : Int), [])).fst ≥ (↑v0.length : Int)) then
            ret (Bool.false)
          else
            bif Decidable.decide ((0 : Int) ≤ (v3.getD v5.toNat ((0 : Int), [])).fst) then
              bif Decidable.decide ((v3.getD v5.toNat ((0 : Int), [])).fst.toNat < v0.length) then
                bif (↑(v3.getD v5.toNat ((0 : Int), [])).snd.length : Int) != v0.getD (v3.getD v5.toNat ((0 : Int), [])).fst.toNat (0 : Int) then
                  ret (Bool.false)
                else
                  lp9 (v0) (v1) (v2) (v3) (v4) (v5) ((v3.getD v5.toNat ((0 : Int), [])).snd) ((↑(v3.getD v5.toNat ((0 : Int), [])).snd.length : Int)) ((0 : Int))
              else
                none
            else
              none
      else
        none
    else
      none
  else
    (spec_l10Vars (v1) (v2)).bind fun (r3 : (List Int)) =>
    (spec_l7All (r3) (v1)).bind fun (r4 : Bool) =>
    ret (r4)
theorem spec_GoodQuery.k (v0 : List Int) (v1 : List (Int × List Int)) (v2 : List Int) : topL E (callT E tab) 33 Try.f33 (spec_GoodQuery.c v0 v1 v2) = spec_GoodQuery.t (fun b => some (spec_GoodQuery.mk b)) spec_GoodQuery.q9 spec_GoodQuery.q4 v0 v1 v2 := by kernel_rfl
theorem spec_GoodQuery.k9 (v0 : List Int) (v1 : List Int) (v2 : List (Int × List Int)) (v3 : List (Int × List Int)) (v4 : Int) (v5 : Int) (v6 : List Int) (v7 : Int) (v8 : Int) : roundL E (callT E tab) 33 Try.f33 2 [.r, .r, .l, .r, .b, .o, .r, .r, .l, .b, .r, .r, .r, .b] (nn 1 (vc (.d .fro (.sl (.int .i64)) v0) :: ⟨(.box false), [.d .fro (.sl (.int .i64)) v1, .d .fro (.sl (.pair (.int .i64) (.sl (.int .i64)))) v2], false, false, false, 0, 0⟩ :: nn 23 (vc (.d .fro (.sl (.pair (.int .i64) (.sl (.int .i64)))) v3) :: vc (iL v4) :: vc (iL v5) :: nn 25 (vc (.d .fro (.sl (.int .i64)) v6) :: vc (iL v7) :: vc (iL v8) :: nn 13 ([]))))) = spec_GoodQuery.t9 (fun b => some (spec_GoodQuery.mk b)) spec_GoodQuery.q9 spec_GoodQuery.q4 v0 v1 v2 v3 v4 v5 v6 v7 v8 := by kernel_rfl
theorem spec_GoodQuery.k4 (v0 : List Int) (v1 : List Int) (v2 : List (Int × List Int)) (v3 : List (Int × List Int)) (v4 : Int) (v5 : Int) : roundL E (callT E tab) 33 Try.f33 2 [.r, .r, .l, .r, .b] (nn 1 (vc (.d .fro (.sl (.int .i64)) v0) :: ⟨(.box false), [.d .fro (.sl (.int .i64)) v1, .d .fro (.sl (.pair (.int .i64) (.sl (.int .i64)))) v2], false, false, false, 0, 0⟩ :: nn 23 (vc (.d .fro (.sl (.pair (.int .i64) (.sl (.int .i64)))) v3) :: vc (iL v4) :: vc (iL v5) :: nn 41 ([])))) = spec_GoodQuery.t4 (fun b => some (spec_GoodQuery.mk b)) spec_GoodQuery.q9 spec_GoodQuery.q4 v0 v1 v2 v3 v4 v5 := by kernel_rfl
theorem spec_GoodQuery.s (v0 : List Int) (v1 : List (Int × List Int)) (v2 : List Int) : Sub spec_GoodQuery.mk (spec_GoodQuery.t some spec_GoodQuery.l9 spec_GoodQuery.l4 v0 v1 v2) (spec_GoodQuery.t (fun b => some (spec_GoodQuery.mk b)) spec_GoodQuery.q9 spec_GoodQuery.q4 v0 v1 v2) := by
  unfold spec_GoodQuery.t
  repeat' first | exact Sub.ret | exact Sub.none | exact Sub.loop | apply Sub.cond | (apply Sub.bind; intro _)
theorem spec_GoodQuery.eq (v0 : List Int) (v1 : List (Int × List Int)) (v2 : List Int) {b : Bool} (h : spec_GoodQuery.t some spec_GoodQuery.l9 spec_GoodQuery.l4 v0 v1 v2 = some b) : spec_GoodQuery v0 v1 v2 = some b := tOf_intro spec_GoodQuery.un (fun _ => by kernel_rfl) (vlim_fn (callT_le E tab) rfl rfl rfl ((spec_GoodQuery.k v0 v1 v2).trans (spec_GoodQuery.s v0 v1 v2 b h)))
theorem spec_GoodQuery.s9 (v0 : List Int) (v1 : List Int) (v2 : List (Int × List Int)) (v3 : List (Int × List Int)) (v4 : Int) (v5 : Int) (v6 : List Int) (v7 : Int) (v8 : Int) : Sub spec_GoodQuery.mk (spec_GoodQuery.t9 some spec_GoodQuery.l9 spec_GoodQuery.l4 v0 v1 v2 v3 v4 v5 v6 v7 v8) (spec_GoodQuery.t9 (fun b => some (spec_GoodQuery.mk b)) spec_GoodQuery.q9 spec_GoodQuery.q4 v0 v1 v2 v3 v4 v5 v6 v7 v8) := by
  unfold spec_GoodQuery.t9
  repeat' first | exact Sub.ret | exact Sub.none | exact Sub.loop | apply Sub.cond | (apply Sub.bind; intro _)
theorem spec_GoodQuery.eq9 (v0 : List Int) (v1 : List Int) (v2 : List (Int × List Int)) (v3 : List (Int × List Int)) (v4 : Int) (v5 : Int) (v6 : List Int) (v7 : Int) (v8 : Int) {b : Bool} (h : spec_GoodQuery.t9 some spec_GoodQuery.l9 spec_GoodQuery.l4 v0 v1 v2 v3 v4 v5 v6 v7 v8 = some b) : spec_GoodQuery.l9 v0 v1 v2 v3 v4 v5 v6 v7 v8 = some b := tOf_intro spec_GoodQuery.un (fun _ => by kernel_rfl) (loopAtL_step ((spec_GoodQuery.k9 v0 v1 v2 v3 v4 v5 v6 v7 v8).trans (spec_GoodQuery.s9 v0 v1 v2 v3 v4 v5 v6 v7 v8 b h)))
theorem spec_GoodQuery.s4 (v0 : List Int) (v1 : List Int) (v2 : List (Int × List Int)) (v3 : List (Int × List Int)) (v4 : Int) (v5 : Int) : Sub spec_GoodQuery.mk (spec_GoodQuery.t4 some spec_GoodQuery.l9 spec_GoodQuery.l4 v0 v1 v2 v3 v4 v5) (spec_GoodQuery.t4 (fun b => some (spec_GoodQuery.mk b)) spec_GoodQuery.q9 spec_GoodQuery.q4 v0 v1 v2 v3 v4 v5) := by
  unfold spec_GoodQuery.t4
  repeat' first | exact Sub.ret | exact Sub.none | exact Sub.loop | apply Sub.cond | (apply Sub.bind; intro _)
theorem spec_GoodQuery.eq4 (v0 : List Int) (v1 : List Int) (v2 : List (Int × List Int)) (v3 : List (Int × List Int)) (v4 : Int) (v5 : Int) {b : Bool} (h : spec_GoodQuery.t4 some spec_GoodQuery.l9 spec_GoodQuery.l4 v0 v1 v2 v3 v4 v5 = some b) : spec_GoodQuery.l4 v0 v1 v2 v3 v4 v5 = some b := tOf_intro spec_GoodQuery.un (fun _ => by kernel_rfl) (loopAtL_step ((spec_GoodQuery.k4 v0 v1 v2 v3 v4 v5).trans (spec_GoodQuery.s4 v0 v1 v2 v3 v4 v5 b h)))
noncomputable def spec_l10Tables.q2 (v0 : List Int) (v1 : List Int) (v2 : Int) (v3 : Int) : Option R := loopAtL E (callT E tab) 68 Try.f68 1 [.r, .l, .r, .b] (vc (.d .fro (.sl (.int .i64)) v0) :: nn 4 (vc (.d .fro (.sl (.int .i64)) v1) :: vc (iL v2) :: vc (iL v3) :: nn 10 ([])))
noncomputable def spec_l10Tables.l2 (v0 : List Int) (v1 : List Int) (v2 : Int) (v3 : Int) : Option (Bool) := tOf spec_l10Tables.mk (spec_l10Tables.q2 v0 v1 v2 v3)
noncomputable def spec_l10Tables.t {γ : Type} (ret : (Bool) → Option γ) (lp2 : (List Int) → (List Int) → Int → Int → Option γ) (v0 : List Int) : Option γ :=
  lp2 (v0) (v0) ((↑v0.length : Int)) ((0 : Int))
noncomputable def spec_l10Tables.t2 {γ : Type} (ret : (Bool) → Option γ) (lp2 : (List Int) → (List Int) → Int → Int → Option γ) (v0 : List Int) (v1 : List Int) (v2 : Int) (v3 : Int) : Option γ :=
  bif Decidable.decide (v3 < v2) then
    bif Decidable.decide ((0 : Int) ≤ v3) then
      bif Decidable.decide (v3.toNat < v1.length) then
        (spec_l1In (v1.getD v3.toNat (0 : Int)) ((1 : Int)) ((3 : Int))).bind fun (r0 : Bool) =>
        bif !r0 then
          ret (Bool.false)
        else
          lp2 (v0) (v1) (v2) (Go.IntKind.i64.wrap (v3 + (1 : Int)))
      else
        none
    else
      none
  else
    (spec_l1In ((↑v0.length : Int)) ((1 : Int)) ((4 : Int))).bind fun (r1 : Bool) =>
    ret (r1)
theorem spec_l10Tables.k (v0 : List Int) : topL E (callT E tab) 68 Try.f68 (spec_l10Tables.c v0) = spec_l10Tables.t (fun b => some (spec_l10Tables.mk b)) spec_l10Tables.q2 v0 := by kernel_rfl
theorem spec_l10Tables.k2 (v0 : List Int) (v1 : List Int) (v2 : Int) (v3 : Int) : roundL E (callT E tab) 68 Try.f68 1 [.r, .l, .r, .b] (vc (.d .fro (.sl (.int .i64)) v0) :: nn 4 (vc (.d .fro (.sl (.int .i64)) v1) :: vc (iL v2) :: vc (iL v3) :: nn 10 ([]))) = spec_l10Tables.t2 (fun b => some (spec_l10Tables.mk b)) spec_l10Tables.q2 v0 v1 v2 v3 := by kernel_rfl
theorem spec_l10Tables.s (v0 : List Int) : Sub spec_l10Tables.mk (spec_l10Tables.t some spec_l10Tables.l2 v0) (spec_l10Tables.t (fun b => some (spec_l10Tables.mk b)) spec_l10Tables.q2 v0) := by
  unfold spec_l10Tables.t
  repeat' first | exact Sub.ret | exact Sub.none | exact Sub.loop | apply Sub.cond | (apply Sub.bind; intro _)
theorem spec_l10Tables.eq (v0 : List Int) {b : Bool} (h : spec_l10Tables.t some spec_l10Tables.l2 v0 = some b) : spec_l10Tables v0 = some b := tOf_intro spec_l10Tables.un (fun _ => by kernel_rfl) (vlim_fn (callT_le E tab) rfl rfl rfl ((spec_l10Tables.k v0).trans (spec_l10Tables.s v0 b h)))
theorem spec_l10Tables.s2 (v0 : List Int) (v1 : List Int) (v2 : Int) (v3 : Int) : Sub spec_l10Tables.mk (spec_l10Tables.t2 some spec_l10Tables.l2 v0 v1 v2 v3) (spec_l10Tables.t2 (fun b => some (spec_l10Tables.mk b)) spec_l10Tables.q2 v0 v1 v2 v3) := by
  unfold spec_l10Tables.t2
  repeat' first | exact Sub.ret | exact Sub.none | exact Sub.loop | apply Sub.cond | (apply Sub.bind; intro _)
theorem spec_l10Tables.eq2 (v0 : List Int) (v1 : List Int) (v2 : Int) (v3 : Int) {b : Bool} (h : spec_l10Tables.t2 some spec_l10Tables.l2 v0 v1 v2 v3 = some b) : spec_l10Tables.l2 v0 v1 v2 v3 = some b := tOf_intro spec_l10Tables.un (fun _ => by kernel_rfl) (loopAtL_step ((spec_l10Tables.k2 v0 v1 v2 v3).trans (spec_l10Tables.s2 v0 v1 v2 v3 b h)))
noncomputable def spec_l7All.q2 (v0 : List Int) (v1 : List Int) (v2 : Int) (v3 : Int) : Option R := loopAtL E (callT E tab) 70 Try.f70 2 [.r, .l, .r, .b] (vc (.d .fro (.sl (.int .i64)) v0) :: nn 6 (vc (.d .fro (.sl (.int .i64)) v1) :: vc (iL v2) :: vc (iL v3) :: nn 8 ([])))
noncomputable def spec_l7All.l2 (v0 : List Int) (v1 : List Int) (v2 : Int) (v3 : Int) : Option (Bool) := tOf spec_l7All.mk (spec_l7All.q2 v0 v1 v2 v3)
noncomputable def spec_l7All.t {γ : Type} (ret : (Bool) → Option γ) (lp2 : (List Int) → (List Int) → Int → Int → Option γ) (v0 : List Int) (v1 : List Int) : Option γ :=
  lp2 (v0) (v1) ((↑v1.length : Int)) ((0 : Int))
noncomputable def spec_l7All.t2 {γ : Type} (ret : (Bool) → Option γ) (lp2 : (List Int) → (List Int) → Int → Int → Option γ) (v0 : List Int) (v1 : List Int) (v2 : Int) (v3 : Int) : Option γ :=
  bif Decidable.decide (v3 < v2) then
    bif Decidable.decide ((0 : Int) ≤ v3) then
      bif Decidable.decide (v3.toNat < v1.length) then
        (spec_l1Has (v0) (v1.getD v3.toNat (0 : Int))).bind fun (r0 : Bool) =>
        bif !r0 then
          ret (Bool.false)
        else
          lp2 (v0) (v1) (v2) (Go.IntKind.i64.wrap (v3 + (1 : Int)))
      else
        none
    else
      none
  else
    ret (Bool.true)
theorem spec_l7All.k (v0 : List Int) (v1 : List Int) : topL E (callT E tab) 70 Try.f70 (spec_l7All.c v0 v1) = spec_l7All.t (fun b => some (spec_l7All.mk b)) spec_l7All.q2 v0 v1 := by kernel_rfl
theorem spec_l7All.k2 (v0 : List Int) (v1 : List Int) (v2 : Int) (v3 : Int) : roundL E (callT E tab) 70 Try.f70 2 [.r, .l, .r, .b] (vc (.d .fro (.sl (.int .i64)) v0) :: nn 6 (vc (.d .fro (.sl (.int .i64)) v1) :: vc (iL v2) :: vc (iL v3) :: nn 8 ([]))) = spec_l7All.t2 (fun b => some (spec_l7All.mk b)) spec_l7All.q2 v0 v1 v2 v3 := by kernel_rfl
theorem spec_l7All.s (v0 : List Int) (v1 : List Int) : Sub spec_l7All.mk (spec_l7All.t some spec_l7All.l2 v0 v1) (spec_l7All.t (fun b => some (spec_l7All.mk b)) spec_l7All.q2 v0 v1) := by
  unfold spec_l7All.t
  repeat' first | exact Sub.ret | exact Sub.none | exact Sub.loop | apply Sub.cond | (apply Sub.bind; intro _)
theorem spec_l7All.eq (v0 : List Int) (v1 : List Int) {b : Bool} (h : spec_l7All.t some spec_l7All.l2 v0 v1 = some b) : spec_l7All v0 v1 = some b := tOf_intro spec_l7All.un (fun _ => by kernel_rfl) (vlim_fn (callT_le E tab) rfl rfl rfl ((spec_l7All.k v0 v1).trans (spec_l7All.s v0 v1 b h)))
theorem spec_l7All.s2 (v0 : List Int) (v1 : List Int) (v2 : Int) (v3 : Int) : Sub spec_l7All.mk (spec_l7All.t2 some spec_l7All.l2 v0 v1 v2 v3) (spec_l7All.t2 (fun b => some (spec_l7All.mk b)) spec_l7All.q2 v0 v1 v2 v3) := by
  unfold spec_l7All.t2
  repeat' first | exact Sub.ret | exact Sub.none | exact Sub.loop | apply Sub.cond | (apply Sub.bind; intro _)
theorem spec_l7All.eq2 (v0 : List Int) (v1 : List Int) (v2 : Int) (v3 : Int) {b : Bool} (h : spec_l7All.t2 some spec_l7All.l2 v0 v1 v2 v3 = some b) : spec_l7All.l2 v0 v1 v2 v3 = some b := tOf_intro spec_l7All.un (fun _ => by kernel_rfl) (loopAtL_step ((spec_l7All.k2 v0 v1 v2 v3).trans (spec_l7All.s2 v0 v1 v2 v3 b h)))
noncomputable def impl_GoodQuery.t {γ : Type} (ret : (Bool) → Option γ) (v0 : List Int) (v1 : List (Int × List Int)) (v2 : List Int) : Option γ :=
  (impl_areTables (v2)).bind fun (r0 : Bool) =>
  bif r0 then
    (impl_isQuery (v0) (v1) (v2)).bind fun (r1 : Bool) =>
    ret (r1)
  else
    ret (Bool.false)
theorem impl_GoodQuery.k (v0 : List Int) (v1 : List (Int × List Int)) (v2 : List Int) : topL E (callT E tab) 34 Try.f34 (impl_GoodQuery.c v0 v1 v2) = impl_GoodQuery.t (fun b => some (impl_GoodQuery.mk b)) v0 v1 v2 := by kernel_rfl
theorem impl_GoodQuery.s (v0 : List Int) (v1 : List (Int × List Int)) (v2 : List Int) : Sub impl_GoodQuery.mk (impl_GoodQuery.t some v0 v1 v2) (impl_GoodQuery.t (fun b => some (impl_GoodQuery.mk b)) v0 v1 v2) := by
  unfold impl_GoodQuery.t
  repeat' first | exact Sub.ret | exact Sub.none | exact Sub.loop | apply Sub.cond | (apply Sub.bind; intro _)
theorem impl_GoodQuery.eq (v0 : List Int) (v1 : List (Int × List Int)) (v2 : List Int) {b : Bool} (h : impl_GoodQuery.t some v0 v1 v2 = some b) : impl_GoodQuery v0 v1 v2 = some b := tOf_intro impl_GoodQuery.un (fun _ => by kernel_rfl) (vlim_fn (callT_le E tab) rfl rfl rfl ((impl_GoodQuery.k v0 v1 v2).trans (impl_GoodQuery.s v0 v1 v2 b h)))
noncomputable def impl_areTables.t {γ : Type} (ret : (Bool) → Option γ) (v0 : List Int) : Option γ :=
  (impl_within ((↑v0.length : Int)) ((1 : Int)) ((4 : Int))).bind fun (r0 : Bool) =>
  bif r0 then
    (impl_areAll_int_impl_areTables_1 (v0)).bind fun (r1 : Bool) =>
    ret (r1)
  else
    ret (Bool.false)
theorem impl_areTables.k (v0 : List Int) : topL E (callT E tab) 71 Try.f71 (impl_areTables.c v0) = impl_areTables.t (fun b => some (impl_areTables.mk b)) v0 := by kernel_rfl
theorem impl_areTables.s (v0 : List Int) : Sub impl_areTables.mk (impl_areTables.t some v0) (impl_areTables.t (fun b => some (impl_areTables.mk b)) v0) := by
  unfold impl_areTables.t
  repeat' first | exact Sub.ret | exact Sub.none | exact Sub.loop | apply Sub.cond | (apply Sub.bind; intro _)
theorem impl_areTables.eq (v0 : List Int) {b : Bool} (h : impl_areTables.t some v0 = some b) : impl_areTables v0 = some b := tOf_intro impl_areTables.un (fun _ => by kernel_rfl) (vlim_fn (callT_le E tab) rfl rfl rfl ((impl_areTables.k v0).trans (impl_areTables.s v0 b h)))
noncomputable def impl_areAll_int_impl_areTables_1.t {γ : Type} (ret : (Bool) → Option γ) (v0 : List Int) : Option γ :=
  (slices_ContainsFunc_int_int_impl_areAll_int_1_impl_areTables_1 (v0)).bind fun (r0 : Bool) =>
  ret (!r0)
theorem impl_areAll_int_impl_areTables_1.k (v0 : List Int) : topL E (callT E tab) 63 Try.f63 (impl_areAll_int_impl_areTables_1.c v0) = impl_areAll_int_impl_areTables_1.t (fun b => some (impl_areAll_int_impl_areTables_1.mk b)) v0 := by kernel_rfl
theorem impl_areAll_int_impl_areTables_1.s (v0 : List Int) : Sub impl_areAll_int_impl_areTables_1.mk (impl_areAll_int_impl_areTables_1.t some v0) (impl_areAll_int_impl_areTables_1.t (fun b => some (impl_areAll_int_impl_areTables_1.mk b)) v0) := by
  unfold impl_areAll_int_impl_areTables_1.t
  repeat' first | exact Sub.ret | exact Sub.none | exact Sub.loop | apply Sub.cond | (apply Sub.bind; intro _)
theorem impl_areAll_int_impl_areTables_1.eq (v0 : List Int) {b : Bool} (h : impl_areAll_int_impl_areTables_1.t some v0 = some b) : impl_areAll_int_impl_areTables_1 v0 = some b := tOf_intro impl_areAll_int_impl_areTables_1.un (fun _ => by kernel_rfl) (vlim_fn (callT_le E tab) rfl rfl rfl ((impl_areAll_int_impl_areTables_1.k v0).trans (impl_areAll_int_impl_areTables_1.s v0 b h)))
noncomputable def slices_ContainsFunc_int_int_impl_areAll_int_1_impl_areTables_1.t {γ : Type} (ret : (Bool) → Option γ) (v0 : List Int) : Option γ :=
  (slices_IndexFunc_int_int_impl_areAll_int_1_impl_areTables_1 (v0)).bind fun (r0 : Int) =>
  ret (Decidable.decide (r0 ≥ (0 : Int)))
theorem slices_ContainsFunc_int_int_impl_areAll_int_1_impl_areTables_1.k (v0 : List Int) : topL E (callT E tab) 94 Try.f94 (slices_ContainsFunc_int_int_impl_areAll_int_1_impl_areTables_1.c v0) = slices_ContainsFunc_int_int_impl_areAll_int_1_impl_areTables_1.t (fun b => some (slices_ContainsFunc_int_int_impl_areAll_int_1_impl_areTables_1.mk b)) v0 := by kernel_rfl
theorem slices_ContainsFunc_int_int_impl_areAll_int_1_impl_areTables_1.s (v0 : List Int) : Sub slices_ContainsFunc_int_int_impl_areAll_int_1_impl_areTables_1.mk (slices_ContainsFunc_int_int_impl_areAll_int_1_impl_areTables_1.t some v0) (slices_ContainsFunc_int_int_impl_areAll_int_1_impl_areTables_1.t (fun b => some (slices_ContainsFunc_int_int_impl_areAll_int_1_impl_areTables_1.mk b)) v0) := by
  unfold slices_ContainsFunc_int_int_impl_areAll_int_1_impl_areTables_1.t
  repeat' first | exact Sub.ret | exact Sub.none | exact Sub.loop | apply Sub.cond | (apply Sub.bind; intro _)
theorem slices_ContainsFunc_int_int_impl_areAll_int_1_impl_areTables_1.eq (v0 : List Int) {b : Bool} (h : slices_ContainsFunc_int_int_impl_areAll_int_1_impl_areTables_1.t some v0 = some b) : slices_ContainsFunc_int_int_impl_areAll_int_1_impl_areTables_1 v0 = some b := tOf_intro slices_ContainsFunc_int_int_impl_areAll_int_1_impl_areTables_1.un (fun _ => by kernel_rfl) (vlim_fn (callT_le E tab) rfl rfl rfl ((slices_ContainsFunc_int_int_impl_areAll_int_1_impl_areTables_1.k v0).trans (slices_ContainsFunc_int_int_impl_areAll_int_1_impl_areTables_1.s v0 b h)))
noncomputable def slices_IndexFunc_int_int_impl_areAll_int_1_impl_areTables_1.q2 (v0 : List Int) (v1 : Int) (v2 : Int) : Option R := loopAtL E (callT E tab) 108 Try.f108 2 [.r, .l, .r, .b] (vc (.d .fro (.sl (.int .i64)) v0) :: vc (.fn 95 [.rp [.fn 97 []] 0]) :: nn 5 (vc (iL v1) :: vc (iL v2) :: nn 10 ([])))
noncomputable def slices_IndexFunc_int_int_impl_areAll_int_1_impl_areTables_1.l2 (v0 : List Int) (v1 : Int) (v2 : Int) : Option (Int) := tOf slices_IndexFunc_int_int_impl_areAll_int_1_impl_areTables_1.mk (slices_IndexFunc_int_int_impl_areAll_int_1_impl_areTables_1.q2 v0 v1 v2)
noncomputable def slices_IndexFunc_int_int_impl_areAll_int_1_impl_areTables_1.t {γ : Type} (ret : (Int) → Option γ) (lp2 : (List Int) → Int → Int → Option γ) (v0 : List Int) : Option γ :=
  lp2 (v0) ((↑v0.length : Int)) ((0 : Int))
noncomputable def slices_IndexFunc_int_int_impl_areAll_int_1_impl_areTables_1.t2 {γ : Type} (ret : (Int) → Option γ) (lp2 : (List Int) → Int → Int → Option γ) (v0 : List Int) (v1 : Int) (v2 : Int) : Option γ :=
  bif Decidable.decide (v2 < v1) then
    bif Decidable.decide ((0 : Int) ≤ v2) then
      bif Decidable.decide (v2.toNat < v0.length) then
        (impl_areAll_int_1_impl_areTables_1 (v0.getD v2.toNat (0 : Int))).bind fun (r0 : Bool) =>
        bif r0 then
          ret (v2)
        else
          lp2 (v0) (v1) (Go.IntKind.i64.wrap (v2 + (1 : Int)))
      else
        none
    else
      none
  else
    ret ((-1 : Int))
theorem slices_IndexFunc_int_int_impl_areAll_int_1_impl_areTables_1.k (v0 : List Int) : topL E (callT E tab) 108 Try.f108 (slices_IndexFunc_int_int_impl_areAll_int_1_impl_areTables_1.c v0) = slices_IndexFunc_int_int_impl_areAll_int_1_impl_areTables_1.t (fun b => some (slices_IndexFunc_int_int_impl_areAll_int_1_impl_areTables_1.mk b)) slices_IndexFunc_int_int_impl_areAll_int_1_impl_areTables_1.q2 v0 := by kernel_rfl
theorem slices_IndexFunc_int_int_impl_areAll_int_1_impl_areTables_1.k2 (v0 : List Int) (v1 : Int) (v2 : Int) : roundL E (callT E tab) 108 Try.f108 2 [.r, .l, .r, .b] (vc (.d .fro (.sl (.int .i64)) v0) :: vc (.fn 95 [.rp [.fn 97 []] 0]) :: nn 5 (vc (iL v1) :: vc (iL v2) :: nn 10 ([]))) = slices_IndexFunc_int_int_impl_areAll_int_1_impl_areTables_1.t2 (fun b => some (slices_IndexFunc_int_int_impl_areAll_int_1_impl_areTables_1.mk b)) slices_IndexFunc_int_int_impl_areAll_int_1_impl_areTables_1.q2 v0 v1 v2 := by kernel_rfl
theorem slices_IndexFunc_int_int_impl_areAll_int_1_impl_areTables_1.s (v0 : List Int) : Sub slices_IndexFunc_int_int_impl_areAll_int_1_impl_areTables_1.mk (slices_IndexFunc_int_int_impl_areAll_int_1_impl_areTables_1.t some slices_IndexFunc_int_int_impl_areAll_int_1_impl_areTables_1.l2 v0) (slices_IndexFunc_int_int_impl_areAll_int_1_impl_areTables_1.t (fun b => some (slices_IndexFunc_int_int_impl_areAll_int_1_impl_areTables_1.mk b)) slices_IndexFunc_int_int_impl_areAll_int_1_impl_areTables_1.q2 v0) := by
  unfold slices_IndexFunc_int_int_impl_areAll_int_1_impl_areTables_1.t
  repeat' first | exact Sub.ret | exact Sub.none | exact Sub.loop | apply Sub.cond | (apply Sub.bind; intro _)
theorem slices_IndexFunc_int_int_impl_areAll_int_1_impl_areTables_1.eq (v0 : List Int) {b : Int} (h : slices_IndexFunc_int_int_impl_areAll_int_1_impl_areTables_1.t some slices_IndexFunc_int_int_impl_areAll_int_1_impl_areTables_1.l2 v0 = some b) : slices_IndexFunc_int_int_impl_areAll_int_1_impl_areTables_1 v0 = some b := tOf_intro slices_IndexFunc_int_int_impl_areAll_int_1_impl_areTables_1.un (fun _ => by kernel_rfl) (vlim_fn (callT_le E tab) rfl rfl rfl ((slices_IndexFunc_int_int_impl_areAll_int_1_impl_areTables_1.k v0).trans (slices_IndexFunc_int_int_impl_areAll_int_1_impl_areTables_1.s v0 b h)))
theorem slices_IndexFunc_int_int_impl_areAll_int_1_impl_areTables_1.s2 (v0 : List Int) (v1 : Int) (v2 : Int) : Sub slices_IndexFunc_int_int_impl_areAll_int_1_impl_areTables_1.mk (slices_IndexFunc_int_int_impl_areAll_int_1_impl_areTables_1.t2 some slices_IndexFunc_int_int_impl_areAll_int_1_impl_areTables_1.l2 v0 v1 v2) (slices_IndexFunc_int_int_impl_areAll_int_1_impl_areTables_1.t2 (fun b => some (slices_IndexFunc_int_int_impl_areAll_int_1_impl_areTables_1.mk b)) slices_IndexFunc_int_int_impl_areAll_int_1_impl_areTables_1.q2 v0 v1 v2) := by
  unfold slices_IndexFunc_int_int_impl_areAll_int_1_impl_areTables_1.t2
  repeat' first | exact Sub.ret | exact Sub.none | exact Sub.loop | apply Sub.cond | (apply Sub.bind; intro _)
theorem slices_IndexFunc_int_int_impl_areAll_int_1_impl_areTables_1.eq2 (v0 : List Int) (v1 : Int) (v2 : Int) {b : Int} (h : slices_IndexFunc_int_int_impl_areAll_int_1_impl_areTables_1.t2 some slices_IndexFunc_int_int_impl_areAll_int_1_impl_areTables_1.l2 v0 v1 v2 = some b) : slices_IndexFunc_int_int_impl_areAll_int_1_impl_areTables_1.l2 v0 v1 v2 = some b := tOf_intro slices_IndexFunc_int_int_impl_areAll_int_1_impl_areTables_1.un (fun _ => by kernel_rfl) (loopAtL_step ((slices_IndexFunc_int_int_impl_areAll_int_1_impl_areTables_1.k2 v0 v1 v2).trans (slices_IndexFunc_int_int_impl_areAll_int_1_impl_areTables_1.s2 v0 v1 v2 b h)))
noncomputable def impl_areAll_int_1_impl_areTables_1.t {γ : Type} (ret : (Bool) → Option γ) (v0 : Int) : Option γ :=
  (impl_areTables_1 (v0)).bind fun (r0 : Bool) =>
  ret (!r0)
theorem impl_areAll_int_1_impl_areTables_1.k (v0 : Int) : topL E (callT E tab) 95 Try.f95 (impl_areAll_int_1_impl_areTables_1.c v0) = impl_areAll_int_1_impl_areTables_1.t (fun b => some (impl_areAll_int_1_impl_areTables_1.mk b)) v0 := by kernel_rfl
theorem impl_areAll_int_1_impl_areTables_1.s (v0 : Int) : Sub impl_areAll_int_1_impl_areTables_1.mk (impl_areAll_int_1_impl_areTables_1.t some v0) (impl_areAll_int_1_impl_areTables_1.t (fun b => some (impl_areAll_int_1_impl_areTables_1.mk b)) v0) := by
  unfold impl_areAll_int_1_impl_areTables_1.t
  repeat' first | exact Sub.ret | exact Sub.none | exact Sub.loop | apply Sub.cond | (apply Sub.bind; intro _)
theorem impl_areAll_int_1_impl_areTables_1.eq (v0 : Int) {b : Bool} (h : impl_areAll_int_1_impl_areTables_1.t some v0 = some b) : impl_areAll_int_1_impl_areTables_1 v0 = some b := tOf_intro impl_areAll_int_1_impl_areTables_1.un (fun _ => by kernel_rfl) (vlim_fn (callT_le E tab) rfl rfl rfl ((impl_areAll_int_1_impl_areTables_1.k v0).trans (impl_areAll_int_1_impl_areTables_1.s v0 b h)))
noncomputable def impl_areTables_1.t {γ : Type} (ret : (Bool) → Option γ) (v0 : Int) : Option γ :=
  (impl_within (v0) ((1 : Int)) ((3 : Int))).bind fun (r0 : Bool) =>
  ret (r0)
theorem impl_areTables_1.k (v0 : Int) : topL E (callT E tab) 97 Try.f97 (impl_areTables_1.c v0) = impl_areTables_1.t (fun b => some (impl_areTables_1.mk b)) v0 := by kernel_rfl
theorem impl_areTables_1.s (v0 : Int) : Sub impl_areTables_1.mk (impl_areTables_1.t some v0) (impl_areTables_1.t (fun b => some (impl_areTables_1.mk b)) v0) := by
  unfold impl_areTables_1.t
  repeat' first | exact Sub.ret | exact Sub.none | exact Sub.loop | apply Sub.cond | (apply Sub.bind; intro _)
theorem impl_areTables_1.eq (v0 : Int) {b : Bool} (h : impl_areTables_1.t some v0 = some b) : impl_areTables_1 v0 = some b := tOf_intro impl_areTables_1.un (fun _ => by kernel_rfl) (vlim_fn (callT_le E tab) rfl rfl rfl ((impl_areTables_1.k v0).trans (impl_areTables_1.s v0 b h)))
noncomputable def impl_isQuery.t {γ : Type} (ret : (Bool) → Option γ) (v0 : List Int) (v1 : List (Int × List Int)) (v2 : List Int) : Option γ :=
  (impl_within ((↑v1.length : Int)) ((1 : Int)) ((5 : Int))).bind fun (r0 : Bool) =>
  bif r0 then
    (impl_areAll_impl_Atom_impl_isQuery_1 (v1) (v2)).bind fun (r1 : Bool) =>
    bif r1 then
      (impl_isHead (v0) (v1)).bind fun (r2 : Bool) =>
      ret (r2)
    else
      ret (Bool.false)
  else
    ret (Bool.false)
theorem impl_isQuery.k (v0 : List Int) (v1 : List (Int × List Int)) (v2 : List Int) : topL E (callT E tab) 72 Try.f72 (impl_isQuery.c v0 v1 v2) = impl_isQuery.t (fun b => some (impl_isQuery.mk b)) v0 v1 v2 := by kernel_rfl
theorem impl_isQuery.s (v0 : List Int) (v1 : List (Int × List Int)) (v2 : List Int) : Sub impl_isQuery.mk (impl_isQuery.t some v0 v1 v2) (impl_isQuery.t (fun b => some (impl_isQuery.mk b)) v0 v1 v2) := by
  unfold impl_isQuery.t
  repeat' first | exact Sub.ret | exact Sub.none | exact Sub.loop | apply Sub.cond | (apply Sub.bind; intro _)
theorem impl_isQuery.eq (v0 : List Int) (v1 : List (Int × List Int)) (v2 : List Int) {b : Bool} (h : impl_isQuery.t some v0 v1 v2 = some b) : impl_isQuery v0 v1 v2 = some b := tOf_intro impl_isQuery.un (fun _ => by kernel_rfl) (vlim_fn (callT_le E tab) rfl rfl rfl ((impl_isQuery.k v0 v1 v2).trans (impl_isQuery.s v0 v1 v2 b h)))
noncomputable def impl_areAll_impl_Atom_impl_isQuery_1.t {γ : Type} (ret : (Bool) → Option γ) (v0 : List (Int × List Int)) (v1 : List Int) : Option γ :=
  (slices_ContainsFunc_impl_Atom_impl_Atom_impl_areAll_impl_Atom_1_impl_isQuery_1 (v0) (v1)).bind fun (r0 : Bool) =>
  ret (!r0)
theorem impl_areAll_impl_Atom_impl_isQuery_1.k (v0 : List (Int × List Int)) (v1 : List Int) : topL E (callT E tab) 61 Try.f61 (impl_areAll_impl_Atom_impl_isQuery_1.c v0 v1) = impl_areAll_impl_Atom_impl_isQuery_1.t (fun b => some (impl_areAll_impl_Atom_impl_isQuery_1.mk b)) v0 v1 := by kernel_rfl
theorem impl_areAll_impl_Atom_impl_isQuery_1.s (v0 : List (Int × List Int)) (v1 : List Int) : Sub impl_areAll_impl_Atom_impl_isQuery_1.mk (impl_areAll_impl_Atom_impl_isQuery_1.t some v0 v1) (impl_areAll_impl_Atom_impl_isQuery_1.t (fun b => some (impl_areAll_impl_Atom_impl_isQuery_1.mk b)) v0 v1) := by
  unfold impl_areAll_impl_Atom_impl_isQuery_1.t
  repeat' first | exact Sub.ret | exact Sub.none | exact Sub.loop | apply Sub.cond | (apply Sub.bind; intro _)
theorem impl_areAll_impl_Atom_impl_isQuery_1.eq (v0 : List (Int × List Int)) (v1 : List Int) {b : Bool} (h : impl_areAll_impl_Atom_impl_isQuery_1.t some v0 v1 = some b) : impl_areAll_impl_Atom_impl_isQuery_1 v0 v1 = some b := tOf_intro impl_areAll_impl_Atom_impl_isQuery_1.un (fun _ => by kernel_rfl) (vlim_fn (callT_le E tab) rfl rfl rfl ((impl_areAll_impl_Atom_impl_isQuery_1.k v0 v1).trans (impl_areAll_impl_Atom_impl_isQuery_1.s v0 v1 b h)))
noncomputable def slices_ContainsFunc_impl_Atom_impl_Atom_impl_areAll_impl_Atom_1_impl_isQuery_1.t {γ : Type} (ret : (Bool) → Option γ) (v0 : List (Int × List Int)) (v1 : List Int) : Option γ :=
  (slices_IndexFunc_impl_Atom_impl_Atom_impl_areAll_impl_Atom_1_impl_isQuery_1 (v0) (v1)).bind fun (r0 : Int) =>
  ret (Decidable.decide (r0 ≥ (0 : Int)))
theorem slices_ContainsFunc_impl_Atom_impl_Atom_impl_areAll_impl_Atom_1_impl_isQuery_1.k (v0 : List (Int × List Int)) (v1 : List Int) : topL E (callT E tab) 92 Try.f92 (slices_ContainsFunc_impl_Atom_impl_Atom_impl_areAll_impl_Atom_1_impl_isQuery_1.c v0 v1) = slices_ContainsFunc_impl_Atom_impl_Atom_impl_areAll_impl_Atom_1_impl_isQuery_1.t (fun b => some (slices_ContainsFunc_impl_Atom_impl_Atom_impl_areAll_impl_Atom_1_impl_isQuery_1.mk b)) v0 v1 := by kernel_rfl
theorem slices_ContainsFunc_impl_Atom_impl_Atom_impl_areAll_impl_Atom_1_impl_isQuery_1.s (v0 : List (Int × List Int)) (v1 : List Int) : Sub slices_ContainsFunc_impl_Atom_impl_Atom_impl_areAll_impl_Atom_1_impl_isQuery_1.mk (slices_ContainsFunc_impl_Atom_impl_Atom_impl_areAll_impl_Atom_1_impl_isQuery_1.t some v0 v1) (slices_ContainsFunc_impl_Atom_impl_Atom_impl_areAll_impl_Atom_1_impl_isQuery_1.t (fun b => some (slices_ContainsFunc_impl_Atom_impl_Atom_impl_areAll_impl_Atom_1_impl_isQuery_1.mk b)) v0 v1) := by
  unfold slices_ContainsFunc_impl_Atom_impl_Atom_impl_areAll_impl_Atom_1_impl_isQuery_1.t
  repeat' first | exact Sub.ret | exact Sub.none | exact Sub.loop | apply Sub.cond | (apply Sub.bind; intro _)
theorem slices_ContainsFunc_impl_Atom_impl_Atom_impl_areAll_impl_Atom_1_impl_isQuery_1.eq (v0 : List (Int × List Int)) (v1 : List Int) {b : Bool} (h : slices_ContainsFunc_impl_Atom_impl_Atom_impl_areAll_impl_Atom_1_impl_isQuery_1.t some v0 v1 = some b) : slices_ContainsFunc_impl_Atom_impl_Atom_impl_areAll_impl_Atom_1_impl_isQuery_1 v0 v1 = some b := tOf_intro slices_ContainsFunc_impl_Atom_impl_Atom_impl_areAll_impl_Atom_1_impl_isQuery_1.un (fun _ => by kernel_rfl) (vlim_fn (callT_le E tab) rfl rfl rfl ((slices_ContainsFunc_impl_Atom_impl_Atom_impl_areAll_impl_Atom_1_impl_isQuery_1.k v0 v1).trans (slices_ContainsFunc_impl_Atom_impl_Atom_impl_areAll_impl_Atom_1_impl_isQuery_1.s v0 v1 b h)))
end GoV

/- Equations of the program's functions (printed by wip/tools/emit.py). -/
namespace GoV
open Go Go.Proofs
set_option maxRecDepth 100000

noncomputable def slices_IndexFunc_impl_Atom_impl_Atom_impl_areAll_impl_Atom_1_impl_isQuery_1.q2 (v0 : List (Int × List Int)) (v1 : List Int) (v2 : Int) (v3 : Int) : Option R := loopAtL E (callT E tab) 107 Try.f107 2 [.r, .l, .r, .b] (vc (.d .fro (.sl (.pair (.int .i64) (.sl (.int .i64)))) v0) :: vc (.fn 93 [.rp [.fn 98 [.rp [.d .fro (.sl (.int .i64)) v1] 0]] 0]) :: nn 5 (vc (iL v2) :: vc (iL v3) :: nn 10 ([])))
noncomputable def slices_IndexFunc_impl_Atom_impl_Atom_impl_areAll_impl_Atom_1_impl_isQuery_1.l2 (v0 : List (Int × List Int)) (v1 : List Int) (v2 : Int) (v3 : Int) : Option (Int) := tOf slices_IndexFunc_impl_Atom_impl_Atom_impl_areAll_impl_Atom_1_impl_isQuery_1.mk (slices_IndexFunc_impl_Atom_impl_Atom_impl_areAll_impl_Atom_1_impl_isQuery_1.q2 v0 v1 v2 v3)
noncomputable def slices_IndexFunc_impl_Atom_impl_Atom_impl_areAll_impl_Atom_1_impl_isQuery_1.t {γ : Type} (ret : (Int) → Option γ) (lp2 : (List (Int × List Int)) → (List Int) → Int → Int → Option γ) (v0 : List (Int × List Int)) (v1 : List Int) : Option γ :=
  lp2 (v0) (v1) ((↑v0.length : Int)) ((0 : Int))
noncomputable def slices_IndexFunc_impl_Atom_impl_Atom_impl_areAll_impl_Atom_1_impl_isQuery_1.t2 {γ : Type} (ret : (Int) → Option γ) (lp2 : (List (Int × List Int)) → (List Int) → Int → Int → Option γ) (v0 : List (Int × List Int)) (v1 : List Int) (v2 : Int) (v3 : Int) : Option γ :=
  bif Decidable.decide (v3 < v2) then
    bif Decidable.decide ((0 : Int) ≤ v3) then
      bif Decidable.decide (v3.toNat < v0.length) then
        (impl_areAll_impl_Atom_1_impl_isQuery_1 ((v0.getD v3.toNat ((0 : Int), [])).fst) ((v0.getD v3.toNat ((0 : Int), [])).snd) (v1)).bind fun (r0 : Bool) =>
        bif r0 then
          ret (v3)
        else
          lp2 (v0) (v1) (v2) (Go.IntKind.i64.wrap (v3 + (1 : Int)))
      else
        none
    else
      none
  else
    ret ((-1 : Int))
theorem slices_IndexFunc_impl_Atom_impl_Atom_impl_areAll_impl_Atom_1_impl_isQuery_1.k (v0 : List (Int × List Int)) (v1 : List Int) : topL E (callT E tab) 107 Try.f107 (slices_IndexFunc_impl_Atom_impl_Atom_impl_areAll_impl_Atom_1_impl_isQuery_1.c v0 v1) = slices_IndexFunc_impl_Atom_impl_Atom_impl_areAll_impl_Atom_1_impl_isQuery_1.t (fun b => some (slices_IndexFunc_impl_Atom_impl_Atom_impl_areAll_impl_Atom_1_impl_isQuery_1.mk b)) slices_IndexFunc_impl_Atom_impl_Atom_impl_areAll_impl_Atom_1_impl_isQuery_1.q2 v0 v1 := by kernel_rfl
theorem slices_IndexFunc_impl_Atom_impl_Atom_impl_areAll_impl_Atom_1_impl_isQuery_1.k2 (v0 : List (Int × List Int)) (v1 : List Int) (v2 : Int) (v3 : Int) : roundL E (callT E tab) 107 Try.f107 2 [.r, .l, .r, .b] (vc (.d .fro (.sl (.pair (.int .i64) (.sl (.int .i64)))) v0) :: vc (.fn 93 [.rp [.fn 98 [.rp [.d .fro (.sl (.int .i64)) v1] 0]] 0]) :: nn 5 (vc (iL v2) :: vc (iL v3) :: nn 10 ([]))) = slices_IndexFunc_impl_Atom_impl_Atom_impl_areAll_impl_Atom_1_impl_isQuery_1.t2 (fun b => some (slices_IndexFunc_impl_Atom_impl_Atom_impl_areAll_impl_Atom_1_impl_isQuery_1.mk b)) slices_IndexFunc_impl_Atom_impl_Atom_impl_areAll_impl_Atom_1_impl_isQuery_1.q2 v0 v1 v2 v3 := by kernel_rfl
theorem slices_IndexFunc_impl_Atom_impl_Atom_impl_areAll_impl_Atom_1_impl_isQuery_1.s (v0 : List (Int × List Int)) (v1 : List Int) : Sub slices_IndexFunc_impl_Atom_impl_Atom_impl_areAll_impl_Atom_1_impl_isQuery_1.mk (slices_IndexFunc_impl_Atom_impl_Atom_impl_areAll_impl_Atom_1_impl_isQuery_1.t some slices_IndexFunc_impl_Atom_impl_Atom_impl_areAll_impl_Atom_1_impl_isQuery_1.l2 v0 v1) (slices_IndexFunc_impl_Atom_impl_Atom_impl_areAll_impl_Atom_1_impl_isQuery_1.t (fun b => some (slices_IndexFunc_impl_Atom_impl_Atom_impl_areAll_impl_Atom_1_impl_isQuery_1.mk b)) slices_IndexFunc_impl_Atom_impl_Atom_impl_areAll_impl_Atom_1_impl_isQuery_1.q2 v0 v1) := by
  unfold slices_IndexFunc_impl_Atom_impl_Atom_impl_areAll_impl_Atom_1_impl_isQuery_1.t
  repeat' first | exact Sub.ret | exact Sub.none | exact Sub.loop | apply Sub.cond | (apply Sub.bind; intro _)
theorem slices_IndexFunc_impl_Atom_impl_Atom_impl_areAll_impl_Atom_1_impl_isQuery_1.eq (v0 : List (Int × List Int)) (v1 : List Int) {b : Int} (h : slices_IndexFunc_impl_Atom_impl_Atom_impl_areAll_impl_Atom_1_impl_isQuery_1.t some slices_IndexFunc_impl_Atom_impl_Atom_impl_areAll_impl_Atom_1_impl_isQuery_1.l2 v0 v1 = some b) : slices_IndexFunc_impl_Atom_impl_Atom_impl_areAll_impl_Atom_1_impl_isQuery_1 v0 v1 = some b := tOf_intro slices_IndexFunc_impl_Atom_impl_Atom_impl_areAll_impl_Atom_1_impl_isQuery_1.un (fun _ => by kernel_rfl) (vlim_fn (callT_le E tab) rfl rfl rfl ((slices_IndexFunc_impl_Atom_impl_Atom_impl_areAll_impl_Atom_1_impl_isQuery_1.k v0 v1).trans (slices_IndexFunc_impl_Atom_impl_Atom_impl_areAll_impl_Atom_1_impl_isQuery_1.s v0 v1 b h)))
theorem slices_IndexFunc_impl_Atom_impl_Atom_impl_areAll_impl_Atom_1_impl_isQuery_1.s2 (v0 : List (Int × List Int)) (v1 : List Int) (v2 : Int) (v3 : Int) : Sub slices_IndexFunc_impl_Atom_impl_Atom_impl_areAll_impl_Atom_1_impl_isQuery_1.mk (slices_IndexFunc_impl_Atom_impl_Atom_impl_areAll_impl_Atom_1_impl_isQuery_1.t2 some slices_IndexFunc_impl_Atom_impl_Atom_impl_areAll_impl_Atom_1_impl_isQuery_1.l2 v0 v1 v2 v3) (slices_IndexFunc_impl_Atom_impl_Atom_impl_areAll_impl_Atom_1_impl_isQuery_1.t2 (fun b => some (slices_IndexFunc_impl_Atom_impl_Atom_impl_areAll_impl_Atom_1_impl_isQuery_1.mk b)) slices_IndexFunc_impl_Atom_impl_Atom_impl_areAll_impl_Atom_1_impl_isQuery_1.q2 v0 v1 v2 v3) := by
  unfold slices_IndexFunc_impl_Atom_impl_Atom_impl_areAll_impl_Atom_1_impl_isQuery_1.t2
  repeat' first | exact Sub.ret | exact Sub.none | exact Sub.loop | apply Sub.cond | (apply Sub.bind; intro _)
theorem slices_IndexFunc_impl_Atom_impl_Atom_impl_areAll_impl_Atom_1_impl_isQuery_1.eq2 (v0 : List (Int × List Int)) (v1 : List Int) (v2 : Int) (v3 : Int) {b : Int} (h : slices_IndexFunc_impl_Atom_impl_Atom_impl_areAll_impl_Atom_1_impl_isQuery_1.t2 some slices_IndexFunc_impl_Atom_impl_Atom_impl_areAll_impl_Atom_1_impl_isQuery_1.l2 v0 v1 v2 v3 = some b) : slices_IndexFunc_impl_Atom_impl_Atom_impl_areAll_impl_Atom_1_impl_isQuery_1.l2 v0 v1 v2 v3 = some b := tOf_intro slices_IndexFunc_impl_Atom_impl_Atom_impl_areAll_impl_Atom_1_impl_isQuery_1.un (fun _ => by kernel_rfl) (loopAtL_step ((slices_IndexFunc_impl_Atom_impl_Atom_impl_areAll_impl_Atom_1_impl_isQuery_1.k2 v0 v1 v2 v3).trans (slices_IndexFunc_impl_Atom_impl_Atom_impl_areAll_impl_Atom_1_impl_isQuery_1.s2 v0 v1 v2 v3 b h)))
noncomputable def impl_areAll_impl_Atom_1_impl_isQuery_1.t {γ : Type} (ret : (Bool) → Option γ) (v0 : Int) (v1 : List Int) (v2 : List Int) : Option γ :=
  (impl_isQuery_1 (v0) (v1) (v2)).bind fun (r0 : Bool) =>
  ret (!r0)
theorem impl_areAll_impl_Atom_1_impl_isQuery_1.k (v0 : Int) (v1 : List Int) (v2 : List Int) : topL E (callT E tab) 93 Try.f93 (impl_areAll_impl_Atom_1_impl_isQuery_1.c v0 v1 v2) = impl_areAll_impl_Atom_1_impl_isQuery_1.t (fun b => some (impl_areAll_impl_Atom_1_impl_isQuery_1.mk b)) v0 v1 v2 := by kernel_rfl
theorem impl_areAll_impl_Atom_1_impl_isQuery_1.s (v0 : Int) (v1 : List Int) (v2 : List Int) : Sub impl_areAll_impl_Atom_1_impl_isQuery_1.mk (impl_areAll_impl_Atom_1_impl_isQuery_1.t some v0 v1 v2) (impl_areAll_impl_Atom_1_impl_isQuery_1.t (fun b => some (impl_areAll_impl_Atom_1_impl_isQuery_1.mk b)) v0 v1 v2) := by
  unfold impl_areAll_impl_Atom_1_impl_isQuery_1.t
  repeat' first | exact Sub.ret | exact Sub.none | exact Sub.loop | apply Sub.cond | (apply Sub.bind; intro _)
theorem impl_areAll_impl_Atom_1_impl_isQuery_1.eq (v0 : Int) (v1 : List Int) (v2 : List Int) {b : Bool} (h : impl_areAll_impl_Atom_1_impl_isQuery_1.t some v0 v1 v2 = some b) : impl_areAll_impl_Atom_1_impl_isQuery_1 v0 v1 v2 = some b := tOf_intro impl_areAll_impl_Atom_1_impl_isQuery_1.un (fun _ => by kernel_rfl) (vlim_fn (callT_le E tab) rfl rfl rfl ((impl_areAll_impl_Atom_1_impl_isQuery_1.k v0 v1 v2).trans (impl_areAll_impl_Atom_1_impl_isQuery_1.s v0 v1 v2 b h)))
noncomputable def impl_isQuery_1.t {γ : Type} (ret : (Bool) → Option γ) (v0 : Int) (v1 : List Int) (v2 : List Int) : Option γ :=
  (impl_within (v0) ((0 : Int)) (Go.IntKind.i64.wrap ((↑v2.length : Int) - (1 : Int)))).bind fun (r0 : Bool) =>
  bif r0 then
    bif Decidable.decide ((0 : Int) ≤ v0) then
      bif Decidable.decide (v0.toNat < v2.length) then
        bif (↑v1.length : Int) == v2.getD v0.toNat (0 : Int) then
          (impl_areAll_int_impl_isVar (v1)).bind fun (r1 : Bool) =>
          ret (r1)
        else
          ret (Bool.false)
      else
        none
    else
      none
  else
    ret (Bool.false)
theorem impl_isQuery_1.k (v0 : Int) (v1 : List Int) (v2 : List Int) : topL E (callT E tab) 98 Try.f98 (impl_isQuery_1.c v0 v1 v2) = impl_isQuery_1.t (fun b => some (impl_isQuery_1.mk b)) v0 v1 v2 := by kernel_rfl
theorem impl_isQuery_1.s (v0 : Int) (v1 : List Int) (v2 : List Int) : Sub impl_isQuery_1.mk (impl_isQuery_1.t some v0 v1 v2) (impl_isQuery_1.t (fun b => some (impl_isQuery_1.mk b)) v0 v1 v2) := by
  unfold impl_isQuery_1.t
  repeat' first | exact Sub.ret | exact Sub.none | exact Sub.loop | apply Sub.cond | (apply Sub.bind; intro _)
theorem impl_isQuery_1.eq (v0 : Int) (v1 : List Int) (v2 : List Int) {b : Bool} (h : impl_isQuery_1.t some v0 v1 v2 = some b) : impl_isQuery_1 v0 v1 v2 = some b := tOf_intro impl_isQuery_1.un (fun _ => by kernel_rfl) (vlim_fn (callT_le E tab) rfl rfl rfl ((impl_isQuery_1.k v0 v1 v2).trans (impl_isQuery_1.s v0 v1 v2 b h)))
noncomputable def impl_isHead.t {γ : Type} (ret : (Bool) → Option γ) (v0 : List Int) (v1 : List (Int × List Int)) : Option γ :=
  (impl_vars (v1)).bind fun (r0 : (List Int)) =>
  bif Decidable.decide ((↑v0.length : Int) ≤ (6 : Int)) then
    (impl_areAll_int_impl_isHead_1 (v0) (r0)).bind fun (r1 : Bool) =>
    ret (r1)
  else
    ret (Bool.false)
theorem impl_isHead.k (v0 : List Int) (v1 : List (Int × List Int)) : topL E (callT E tab) 99 Try.f99 (impl_isHead.c v0 v1) = impl_isHead.t (fun b => some (impl_isHead.mk b)) v0 v1 := by kernel_rfl
theorem impl_isHead.s (v0 : List Int) (v1 : List (Int × List Int)) : Sub impl_isHead.mk (impl_isHead.t some v0 v1) (impl_isHead.t (fun b => some (impl_isHead.mk b)) v0 v1) := by
  unfold impl_isHead.t
  repeat' first | exact Sub.ret | exact Sub.none | exact Sub.loop | apply Sub.cond | (apply Sub.bind; intro _)
theorem impl_isHead.eq (v0 : List Int) (v1 : List (Int × List Int)) {b : Bool} (h : impl_isHead.t some v0 v1 = some b) : impl_isHead v0 v1 = some b := tOf_intro impl_isHead.un (fun _ => by kernel_rfl) (vlim_fn (callT_le E tab) rfl rfl rfl ((impl_isHead.k v0 v1).trans (impl_isHead.s v0 v1 b h)))
noncomputable def impl_areAll_int_impl_isHead_1.t {γ : Type} (ret : (Bool) → Option γ) (v0 : List Int) (v1 : List Int) : Option γ :=
  (slices_ContainsFunc_int_int_impl_areAll_int_1_impl_isHead_1 (v0) (v1)).bind fun (r0 : Bool) =>
  ret (!r0)
theorem impl_areAll_int_impl_isHead_1.k (v0 : List Int) (v1 : List Int) : topL E (callT E tab) 63 Try.f63 (impl_areAll_int_impl_isHead_1.c v0 v1) = impl_areAll_int_impl_isHead_1.t (fun b => some (impl_areAll_int_impl_isHead_1.mk b)) v0 v1 := by kernel_rfl
theorem impl_areAll_int_impl_isHead_1.s (v0 : List Int) (v1 : List Int) : Sub impl_areAll_int_impl_isHead_1.mk (impl_areAll_int_impl_isHead_1.t some v0 v1) (impl_areAll_int_impl_isHead_1.t (fun b => some (impl_areAll_int_impl_isHead_1.mk b)) v0 v1) := by
  unfold impl_areAll_int_impl_isHead_1.t
  repeat' first | exact Sub.ret | exact Sub.none | exact Sub.loop | apply Sub.cond | (apply Sub.bind; intro _)
theorem impl_areAll_int_impl_isHead_1.eq (v0 : List Int) (v1 : List Int) {b : Bool} (h : impl_areAll_int_impl_isHead_1.t some v0 v1 = some b) : impl_areAll_int_impl_isHead_1 v0 v1 = some b := tOf_intro impl_areAll_int_impl_isHead_1.un (fun _ => by kernel_rfl) (vlim_fn (callT_le E tab) rfl rfl rfl ((impl_areAll_int_impl_isHead_1.k v0 v1).trans (impl_areAll_int_impl_isHead_1.s v0 v1 b h)))
noncomputable def slices_ContainsFunc_int_int_impl_areAll_int_1_impl_isHead_1.t {γ : Type} (ret : (Bool) → Option γ) (v0 : List Int) (v1 : List Int) : Option γ :=
  (slices_IndexFunc_int_int_impl_areAll_int_1_impl_isHead_1 (v0) (v1)).bind fun (r0 : Int) =>
  ret (Decidable.decide (r0 ≥ (0 : Int)))
theorem slices_ContainsFunc_int_int_impl_areAll_int_1_impl_isHead_1.k (v0 : List Int) (v1 : List Int) : topL E (callT E tab) 94 Try.f94 (slices_ContainsFunc_int_int_impl_areAll_int_1_impl_isHead_1.c v0 v1) = slices_ContainsFunc_int_int_impl_areAll_int_1_impl_isHead_1.t (fun b => some (slices_ContainsFunc_int_int_impl_areAll_int_1_impl_isHead_1.mk b)) v0 v1 := by kernel_rfl
theorem slices_ContainsFunc_int_int_impl_areAll_int_1_impl_isHead_1.s (v0 : List Int) (v1 : List Int) : Sub slices_ContainsFunc_int_int_impl_areAll_int_1_impl_isHead_1.mk (slices_ContainsFunc_int_int_impl_areAll_int_1_impl_isHead_1.t some v0 v1) (slices_ContainsFunc_int_int_impl_areAll_int_1_impl_isHead_1.t (fun b => some (slices_ContainsFunc_int_int_impl_areAll_int_1_impl_isHead_1.mk b)) v0 v1) := by
  unfold slices_ContainsFunc_int_int_impl_areAll_int_1_impl_isHead_1.t
  repeat' first | exact Sub.ret | exact Sub.none | exact Sub.loop | apply Sub.cond | (apply Sub.bind; intro _)
theorem slices_ContainsFunc_int_int_impl_areAll_int_1_impl_isHead_1.eq (v0 : List Int) (v1 : List Int) {b : Bool} (h : slices_ContainsFunc_int_int_impl_areAll_int_1_impl_isHead_1.t some v0 v1 = some b) : slices_ContainsFunc_int_int_impl_areAll_int_1_impl_isHead_1 v0 v1 = some b := tOf_intro slices_ContainsFunc_int_int_impl_areAll_int_1_impl_isHead_1.un (fun _ => by kernel_rfl) (vlim_fn (callT_le E tab) rfl rfl rfl ((slices_ContainsFunc_int_int_impl_areAll_int_1_impl_isHead_1.k v0 v1).trans (slices_ContainsFunc_int_int_impl_areAll_int_1_impl_isHead_1.s v0 v1 b h)))
noncomputable def slices_IndexFunc_int_int_impl_areAll_int_1_impl_isHead_1.q2 (v0 : List Int) (v1 : List Int) (v2 : Int) (v3 : Int) : Option R := loopAtL E (callT E tab) 108 Try.f108 2 [.r, .l, .r, .b] (vc (.d .fro (.sl (.int .i64)) v0) :: vc (.fn 95 [.rp [.fn 109 [.rp [.d .fro (.sl (.int .i64)) v1] 0]] 0]) :: nn 5 (vc (iL v2) :: vc (iL v3) :: nn 10 ([])))
noncomputable def slices_IndexFunc_int_int_impl_areAll_int_1_impl_isHead_1.l2 (v0 : List Int) (v1 : List Int) (v2 : Int) (v3 : Int) : Option (Int) := tOf slices_IndexFunc_int_int_impl_areAll_int_1_impl_isHead_1.mk (slices_IndexFunc_int_int_impl_areAll_int_1_impl_isHead_1.q2 v0 v1 v2 v3)
noncomputable def slices_IndexFunc_int_int_impl_areAll_int_1_impl_isHead_1.t {γ : Type} (ret : (Int) → Option γ) (lp2 : (List Int) → (List Int) → Int → Int → Option γ) (v0 : List Int) (v1 : List Int) : Option γ :=
  lp2 (v0) (v1) ((↑v0.length : Int)) ((0 : Int))
noncomputable def slices_IndexFunc_int_int_impl_areAll_int_1_impl_isHead_1.t2 {γ : Type} (ret : (Int) → Option γ) (lp2 : (List Int) → (List Int) → Int → Int → Option γ) (v0 : List Int) (v1 : List Int) (v2 : Int) (v3 : Int) : Option γ :=
  bif Decidable.decide (v3 < v2) then
    bif Decidable.decide ((0 : Int) ≤ v3) then
      bif Decidable.decide (v3.toNat < v0.length) then
        (impl_areAll_int_1_impl_isHead_1 (v0.getD v3.toNat (0 : Int)) (v1)).bind fun (r0 : Bool) =>
        bif r0 then
          ret (v3)
        else
          lp2 (v0) (v1) (v2) (Go.IntKind.i64.wrap (v3 + (1 : Int)))
      else
        none
    else
      none
  else
    ret ((-1 : Int))
theorem slices_IndexFunc_int_int_impl_areAll_int_1_impl_isHead_1.k (v0 : List Int) (v1 : List Int) : topL E (callT E tab) 108 Try.f108 (slices_IndexFunc_int_int_impl_areAll_int_1_impl_isHead_1.c v0 v1) = slices_IndexFunc_int_int_impl_areAll_int_1_impl_isHead_1.t (fun b => some (slices_IndexFunc_int_int_impl_areAll_int_1_impl_isHead_1.mk b)) slices_IndexFunc_int_int_impl_areAll_int_1_impl_isHead_1.q2 v0 v1 := by kernel_rfl
theorem slices_IndexFunc_int_int_impl_areAll_int_1_impl_isHead_1.k2 (v0 : List Int) (v1 : List Int) (v2 : Int) (v3 : Int) : roundL E (callT E tab) 108 Try.f108 2 [.r, .l, .r, .b] (vc (.d .fro (.sl (.int .i64)) v0) :: vc (.fn 95 [.rp [.fn 109 [.rp [.d .fro (.sl (.int .i64)) v1] 0]] 0]) :: nn 5 (vc (iL v2) :: vc (iL v3) :: nn 10 ([]))) = slices_IndexFunc_int_int_impl_areAll_int_1_impl_isHead_1.t2 (fun b => some (slices_IndexFunc_int_int_impl_areAll_int_1_impl_isHead_1.mk b)) slices_IndexFunc_int_int_impl_areAll_int_1_impl_isHead_1.q2 v0 v1 v2 v3 := by kernel_rfl
theorem slices_IndexFunc_int_int_impl_areAll_int_1_impl_isHead_1.s (v0 : List Int) (v1 : List Int) : Sub slices_IndexFunc_int_int_impl_areAll_int_1_impl_isHead_1.mk (slices_IndexFunc_int_int_impl_areAll_int_1_impl_isHead_1.t some slices_IndexFunc_int_int_impl_areAll_int_1_impl_isHead_1.l2 v0 v1) (slices_IndexFunc_int_int_impl_areAll_int_1_impl_isHead_1.t (fun b => some (slices_IndexFunc_int_int_impl_areAll_int_1_impl_isHead_1.mk b)) slices_IndexFunc_int_int_impl_areAll_int_1_impl_isHead_1.q2 v0 v1) := by
  unfold slices_IndexFunc_int_int_impl_areAll_int_1_impl_isHead_1.t
  repeat' first | exact Sub.ret | exact Sub.none | exact Sub.loop | apply Sub.cond | (apply Sub.bind; intro _)
theorem slices_IndexFunc_int_int_impl_areAll_int_1_impl_isHead_1.eq (v0 : List Int) (v1 : List Int) {b : Int} (h : slices_IndexFunc_int_int_impl_areAll_int_1_impl_isHead_1.t some slices_IndexFunc_int_int_impl_areAll_int_1_impl_isHead_1.l2 v0 v1 = some b) : slices_IndexFunc_int_int_impl_areAll_int_1_impl_isHead_1 v0 v1 = some b := tOf_intro slices_IndexFunc_int_int_impl_areAll_int_1_impl_isHead_1.un (fun _ => by kernel_rfl) (vlim_fn (callT_le E tab) rfl rfl rfl ((slices_IndexFunc_int_int_impl_areAll_int_1_impl_isHead_1.k v0 v1).trans (slices_IndexFunc_int_int_impl_areAll_int_1_impl_isHead_1.s v0 v1 b h)))
theorem slices_IndexFunc_int_int_impl_areAll_int_1_impl_isHead_1.s2 (v0 : List Int) (v1 : List Int) (v2 : Int) (v3 : Int) : Sub slices_IndexFunc_int_int_impl_areAll_int_1_impl_isHead_1.mk (slices_IndexFunc_int_int_impl_areAll_int_1_impl_isHead_1.t2 some slices_IndexFunc_int_int_impl_areAll_int_1_impl_isHead_1.l2 v0 v1 v2 v3) (slices_IndexFunc_int_int_impl_areAll_int_1_impl_isHead_1.t2 (fun b => some (slices_IndexFunc_int_int_impl_areAll_int_1_impl_isHead_1.mk b)) slices_IndexFunc_int_int_impl_areAll_int_1_impl_isHead_1.q2 v0 v1 v2 v3) := by
  unfold slices_IndexFunc_int_int_impl_areAll_int_1_impl_isHead_1.t2
  repeat' first | exact Sub.ret | exact Sub.none | exact Sub.loop | apply Sub.cond | (apply Sub.bind; intro _)
theorem slices_IndexFunc_int_int_impl_areAll_int_1_impl_isHead_1.eq2 (v0 : List Int) (v1 : List Int) (v2 : Int) (v3 : Int) {b : Int} (h : slices_IndexFunc_int_int_impl_areAll_int_1_impl_isHead_1.t2 some slices_IndexFunc_int_int_impl_areAll_int_1_impl_isHead_1.l2 v0 v1 v2 v3 = some b) : slices_IndexFunc_int_int_impl_areAll_int_1_impl_isHead_1.l2 v0 v1 v2 v3 = some b := tOf_intro slices_IndexFunc_int_int_impl_areAll_int_1_impl_isHead_1.un (fun _ => by kernel_rfl) (loopAtL_step ((slices_IndexFunc_int_int_impl_areAll_int_1_impl_isHead_1.k2 v0 v1 v2 v3).trans (slices_IndexFunc_int_int_impl_areAll_int_1_impl_isHead_1.s2 v0 v1 v2 v3 b h)))
noncomputable def impl_areAll_int_1_impl_isHead_1.t {γ : Type} (ret : (Bool) → Option γ) (v0 : Int) (v1 : List Int) : Option γ :=
  (impl_isHead_1 (v0) (v1)).bind fun (r0 : Bool) =>
  ret (!r0)
theorem impl_areAll_int_1_impl_isHead_1.k (v0 : Int) (v1 : List Int) : topL E (callT E tab) 95 Try.f95 (impl_areAll_int_1_impl_isHead_1.c v0 v1) = impl_areAll_int_1_impl_isHead_1.t (fun b => some (impl_areAll_int_1_impl_isHead_1.mk b)) v0 v1 := by kernel_rfl
theorem impl_areAll_int_1_impl_isHead_1.s (v0 : Int) (v1 : List Int) : Sub impl_areAll_int_1_impl_isHead_1.mk (impl_areAll_int_1_impl_isHead_1.t some v0 v1) (impl_areAll_int_1_impl_isHead_1.t (fun b => some (impl_areAll_int_1_impl_isHead_1.mk b)) v0 v1) := by
  unfold impl_areAll_int_1_impl_isHead_1.t
  repeat' first | exact Sub.ret | exact Sub.none | exact Sub.loop | apply Sub.cond | (apply Sub.bind; intro _)
theorem impl_areAll_int_1_impl_isHead_1.eq (v0 : Int) (v1 : List Int) {b : Bool} (h : impl_areAll_int_1_impl_isHead_1.t some v0 v1 = some b) : impl_areAll_int_1_impl_isHead_1 v0 v1 = some b := tOf_intro impl_areAll_int_1_impl_isHead_1.un (fun _ => by kernel_rfl) (vlim_fn (callT_le E tab) rfl rfl rfl ((impl_areAll_int_1_impl_isHead_1.k v0 v1).trans (impl_areAll_int_1_impl_isHead_1.s v0 v1 b h)))
noncomputable def impl_isHead_1.t {γ : Type} (ret : (Bool) → Option γ) (v0 : Int) (v1 : List Int) : Option γ :=
  (slices_Contains_int_int (v1) (v0)).bind fun (r0 : Bool) =>
  ret (r0)
theorem impl_isHead_1.k (v0 : Int) (v1 : List Int) : topL E (callT E tab) 109 Try.f109 (impl_isHead_1.c v0 v1) = impl_isHead_1.t (fun b => some (impl_isHead_1.mk b)) v0 v1 := by kernel_rfl
theorem impl_isHead_1.s (v0 : Int) (v1 : List Int) : Sub impl_isHead_1.mk (impl_isHead_1.t some v0 v1) (impl_isHead_1.t (fun b => some (impl_isHead_1.mk b)) v0 v1) := by
  unfold impl_isHead_1.t
  repeat' first | exact Sub.ret | exact Sub.none | exact Sub.loop | apply Sub.cond | (apply Sub.bind; intro _)
theorem impl_isHead_1.eq (v0 : Int) (v1 : List Int) {b : Bool} (h : impl_isHead_1.t some v0 v1 = some b) : impl_isHead_1 v0 v1 = some b := tOf_intro impl_isHead_1.un (fun _ => by kernel_rfl) (vlim_fn (callT_le E tab) rfl rfl rfl ((impl_isHead_1.k v0 v1).trans (impl_isHead_1.s v0 v1 b h)))
noncomputable def slices_Contains_int_int.t {γ : Type} (ret : (Bool) → Option γ) (v0 : List Int) (v1 : Int) : Option γ :=
  (slices_Index_int_int (v0) (v1)).bind fun (r0 : Int) =>
  ret (Decidable.decide (r0 ≥ (0 : Int)))
theorem slices_Contains_int_int.k (v0 : List Int) (v1 : Int) : topL E (callT E tab) 110 Try.f110 (slices_Contains_int_int.c v0 v1) = slices_Contains_int_int.t (fun b => some (slices_Contains_int_int.mk b)) v0 v1 := by kernel_rfl
theorem slices_Contains_int_int.s (v0 : List Int) (v1 : Int) : Sub slices_Contains_int_int.mk (slices_Contains_int_int.t some v0 v1) (slices_Contains_int_int.t (fun b => some (slices_Contains_int_int.mk b)) v0 v1) := by
  unfold slices_Contains_int_int.t
  repeat' first | exact Sub.ret | exact Sub.none | exact Sub.loop | apply Sub.cond | (apply Sub.bind; intro _)
theorem slices_Contains_int_int.eq (v0 : List Int) (v1 : Int) {b : Bool} (h : slices_Contains_int_int.t some v0 v1 = some b) : slices_Contains_int_int v0 v1 = some b := tOf_intro slices_Contains_int_int.un (fun _ => by kernel_rfl) (vlim_fn (callT_le E tab) rfl rfl rfl ((slices_Contains_int_int.k v0 v1).trans (slices_Contains_int_int.s v0 v1 b h)))
noncomputable def slices_Index_int_int.q2 (v0 : List Int) (v1 : Int) (v2 : Int) (v3 : Int) : Option R := loopAtL E (callT E tab) 114 Try.f114 2 [.r, .l, .r, .b] (vc (.d .fro (.sl (.int .i64)) v0) :: vc (iL v1) :: nn 5 (vc (iL v2) :: vc (iL v3) :: nn 10 ([])))
noncomputable def slices_Index_int_int.l2 (v0 : List Int) (v1 : Int) (v2 : Int) (v3 : Int) : Option (Int) := tOf slices_Index_int_int.mk (slices_Index_int_int.q2 v0 v1 v2 v3)
noncomputable def slices_Index_int_int.t {γ : Type} (ret : (Int) → Option γ) (lp2 : (List Int) → Int → Int → Int → Option γ) (v0 : List Int) (v1 : Int) : Option γ :=
  lp2 (v0) (v1) ((↑v0.length : Int)) ((0 : Int))
noncomputable def slices_Index_int_int.t2 {γ : Type} (ret : (Int) → Option γ) (lp2 : (List Int) → Int → Int → Int → Option γ) (v0 : List Int) (v1 : Int) (v2 : Int) (v3 : Int) : Option γ :=
  bif Decidable.decide (v3 < v2) then
    bif Decidable.decide ((0 : Int) ≤ v3) then
      bif Decidable.decide (v3.toNat < v0.length) then
        bif v1 == v0.getD v3.toNat (0 : Int) then
          ret (v3)
        else
          lp2 (v0) (v1) (v2) (Go.IntKind.i64.wrap (v3 + (1 : Int)))
      else
        none
    else
      none
  else
    ret ((-1 : Int))
theorem slices_Index_int_int.k (v0 : List Int) (v1 : Int) : topL E (callT E tab) 114 Try.f114 (slices_Index_int_int.c v0 v1) = slices_Index_int_int.t (fun b => some (slices_Index_int_int.mk b)) slices_Index_int_int.q2 v0 v1 := by kernel_rfl
theorem slices_Index_int_int.k2 (v0 : List Int) (v1 : Int) (v2 : Int) (v3 : Int) : roundL E (callT E tab) 114 Try.f114 2 [.r, .l, .r, .b] (vc (.d .fro (.sl (.int .i64)) v0) :: vc (iL v1) :: nn 5 (vc (iL v2) :: vc (iL v3) :: nn 10 ([]))) = slices_Index_int_int.t2 (fun b => some (slices_Index_int_int.mk b)) slices_Index_int_int.q2 v0 v1 v2 v3 := by kernel_rfl
theorem slices_Index_int_int.s (v0 : List Int) (v1 : Int) : Sub slices_Index_int_int.mk (slices_Index_int_int.t some slices_Index_int_int.l2 v0 v1) (slices_Index_int_int.t (fun b => some (slices_Index_int_int.mk b)) slices_Index_int_int.q2 v0 v1) := by
  unfold slices_Index_int_int.t
  repeat' first | exact Sub.ret | exact Sub.none | exact Sub.loop | apply Sub.cond | (apply Sub.bind; intro _)
theorem slices_Index_int_int.eq (v0 : List Int) (v1 : Int) {b : Int} (h : slices_Index_int_int.t some slices_Index_int_int.l2 v0 v1 = some b) : slices_Index_int_int v0 v1 = some b := tOf_intro slices_Index_int_int.un (fun _ => by kernel_rfl) (vlim_fn (callT_le E tab) rfl rfl rfl ((slices_Index_int_int.k v0 v1).trans (slices_Index_int_int.s v0 v1 b h)))
theorem slices_Index_int_int.s2 (v0 : List Int) (v1 : Int) (v2 : Int) (v3 : Int) : Sub slices_Index_int_int.mk (slices_Index_int_int.t2 some slices_Index_int_int.l2 v0 v1 v2 v3) (slices_Index_int_int.t2 (fun b => some (slices_Index_int_int.mk b)) slices_Index_int_int.q2 v0 v1 v2 v3) := by
  unfold slices_Index_int_int.t2
  repeat' first | exact Sub.ret | exact Sub.none | exact Sub.loop | apply Sub.cond | (apply Sub.bind; intro _)
theorem slices_Index_int_int.eq2 (v0 : List Int) (v1 : Int) (v2 : Int) (v3 : Int) {b : Int} (h : slices_Index_int_int.t2 some slices_Index_int_int.l2 v0 v1 v2 v3 = some b) : slices_Index_int_int.l2 v0 v1 v2 v3 = some b := tOf_intro slices_Index_int_int.un (fun _ => by kernel_rfl) (loopAtL_step ((slices_Index_int_int.k2 v0 v1 v2 v3).trans (slices_Index_int_int.s2 v0 v1 v2 v3 b h)))
end GoV
