/- A part of the proof of FnExactPushDown: an interpreter of the model over plain data, its soundness, and what it makes of the functions that the statement reaches. Conditions: none beyond what the given statement itself says. -/
import Derived.Test.YtkndmlepfblabaaTH
set_option linter.unusedVariables false
set_option linter.unusedSimpArgs false
set_option linter.unnecessarySimpa false
set_option linter.unusedSectionVars false
/- The functions of the program, each told by what it answers in the end (printed by wip/tools/emit.py). -/
/-! Names of functions here: xs00 = slices_ContainsFunc_impl_Test_impl_Test_impl_areAll_impl_Test_1_impl_GoodTests_1, xs01 = slices_IndexFunc_impl_Test_impl_Test_impl_areAll_impl_Test_1_impl_GoodTests_1, xs02 = slices_ContainsFunc_int_int_impl_areAll_int_1_impl_areColumns_1, xs03 = slices_ContainsFunc_int_int_impl_areAll_int_1_impl_arePairs_1, xs04 = slices_ContainsFunc_int_int_impl_areAll_int_1_impl_isColumns, xs05 = slices_IndexFunc_int_int_impl_areAll_int_1_impl_areColumns_1, xs06 = slices_IndexFunc_int_int_impl_areAll_int_1_impl_arePairs_1, xs07 = slices_IndexFunc_int_int_impl_areAll_int_1_impl_isColumns, xs08 = slices_ContainsFunc_int_int_impl_unpaired_1, xi09 = impl_areAll_impl_Test_1_impl_GoodTests_1, xs0a = slices_IndexFunc_int_int_impl_unpaired_1, xi0b = impl_areAll_impl_Test_impl_GoodTests_1, xi0c = impl_areAll_int_1_impl_areColumns_1, xi0d = impl_areAll_int_1_impl_arePairs_1, xi0e = impl_areAll_int_impl_areColumns_1, xi0f = impl_areAll_int_1_impl_isColumns, xs0g = slices_Clone_impl_Test_impl_Test, xi0h = impl_areAll_int_impl_arePairs_1, xi0i = impl_areAll_int_impl_isColumns, xl0j = laws_FnExactPushDown, xs0k = slices_Clone_int_int, xi0l = impl_View_columnsOf -/
namespace GoV
open Go Go.Proofs
set_option maxRecDepth 100000

def xl0j.c (v0 : List Int) (v1 : List (Int × Int × Int × List (Int × Int × Int) × List Int × List (List Int))) : List Cell := ac [.d .fro (.sl (.int .i64)) v0, .d .fro (.sl (.pair (.int .i64) (.pair (.int .i64) (.pair (.int .i64) (.pair (.sl (.pair (.int .i64) (.pair (.int .i64) (.int .i64)))) (.pair (.sl (.int .i64)) (.sl (.sl (.int .i64))))))))) v1] :: []
def xl0j.mk (b : Bool) : R := (⟨.one, [bL b]⟩, nn 1 ([]))
def xl0j.un (r : R) : Bool := ((leafR r 0).dat .bool)
noncomputable def xl0j (v0 : List Int) (v1 : List (Int × Int × Int × List (Int × Int × Int) × List Int × List (List Int))) : Option (Bool) := tOf xl0j.mk (vlim E 3 (xl0j.c v0 v1))
def laws_szView.c (v0 : List Int) (v1 : List (Int × Int × Int × List (Int × Int × Int) × List Int × List (List Int))) (v2 : Int) : List Cell := ac [.d .fro (.sl (.int .i64)) v0, .d .fro (.sl (.pair (.int .i64) (.pair (.int .i64) (.pair (.int .i64) (.pair (.sl (.pair (.int .i64) (.pair (.int .i64) (.int .i64)))) (.pair (.sl (.int .i64)) (.sl (.sl (.int .i64))))))))) v1] :: vc (iL v2) :: []
def laws_szView.mk (b : Int) : R := (⟨.one, [iL b]⟩, nn 2 ([]))
def laws_szView.un (r : R) : Int := ((leafR r 0).dat (.int .i64))
noncomputable def laws_szView (v0 : List Int) (v1 : List (Int × Int × Int × List (Int × Int × Int) × List Int × List (List Int))) (v2 : Int) : Option (Int) := tOf laws_szView.mk (vlim E 4 (laws_szView.c v0 v1 v2))
def laws_szIntS.c (v0 : List Int) (v1 : Int) : List Cell := vc (.d .fro (.sl (.int .i64)) v0) :: vc (iL v1) :: []
def laws_szIntS.mk (b : Int) : R := (⟨.one, [iL b]⟩, nn 2 ([]))
def laws_szIntS.un (r : R) : Int := ((leafR r 0).dat (.int .i64))
noncomputable def laws_szIntS (v0 : List Int) (v1 : Int) : Option (Int) := tOf laws_szIntS.mk (vlim E 11 (laws_szIntS.c v0 v1))
def laws_szPartS.c (v0 : List (Int × Int × Int × List (Int × Int × Int) × List Int × List (List Int))) (v1 : Int) : List Cell := vc (.d .fro (.sl (.pair (.int .i64) (.pair (.int .i64) (.pair (.int .i64) (.pair (.sl (.pair (.int .i64) (.pair (.int .i64) (.int .i64)))) (.pair (.sl (.int .i64)) (.sl (.sl (.int .i64))))))))) v0) :: vc (iL v1) :: []
def laws_szPartS.mk (b : Int) : R := (⟨.one, [iL b]⟩, nn 2 ([]))
def laws_szPartS.un (r : R) : Int := ((leafR r 0).dat (.int .i64))
noncomputable def laws_szPartS (v0 : List (Int × Int × Int × List (Int × Int × Int) × List Int × List (List Int))) (v1 : Int) : Option (Int) := tOf laws_szPartS.mk (vlim E 12 (laws_szPartS.c v0 v1))
def laws_szPart.c (v0 : Int) (v1 : Int) (v2 : Int) (v3 : List (Int × Int × Int)) (v4 : List Int) (v5 : List (List Int)) (v6 : Int) : List Cell := ac [iL v0, iL v1, iL v2, .d .fro (.sl (.pair (.int .i64) (.pair (.int .i64) (.int .i64)))) v3, .d .fro (.sl (.int .i64)) v4, .d .fro (.sl (.sl (.int .i64))) v5] :: vc (iL v6) :: []
def laws_szPart.mk (b : Int) : R := (⟨.one, [iL b]⟩, nn 2 ([]))
def laws_szPart.un (r : R) : Int := ((leafR r 0).dat (.int .i64))
noncomputable def laws_szPart (v0 : Int) (v1 : Int) (v2 : Int) (v3 : List (Int × Int × Int)) (v4 : List Int) (v5 : List (List Int)) (v6 : Int) : Option (Int) := tOf laws_szPart.mk (vlim E 27 (laws_szPart.c v0 v1 v2 v3 v4 v5 v6))
def laws_szTestS.c (v0 : List (Int × Int × Int)) (v1 : Int) : List Cell := vc (.d .fro (.sl (.pair (.int .i64) (.pair (.int .i64) (.int .i64)))) v0) :: vc (iL v1) :: []
def laws_szTestS.mk (b : Int) : R := (⟨.one, [iL b]⟩, nn 2 ([]))
def laws_szTestS.un (r : R) : Int := ((leafR r 0).dat (.int .i64))
noncomputable def laws_szTestS (v0 : List (Int × Int × Int)) (v1 : Int) : Option (Int) := tOf laws_szTestS.mk (vlim E 43 (laws_szTestS.c v0 v1))
def laws_szIntSS.c (v0 : List (List Int)) (v1 : Int) : List Cell := vc (.d .fro (.sl (.sl (.int .i64))) v0) :: vc (iL v1) :: []
def laws_szIntSS.mk (b : Int) : R := (⟨.one, [iL b]⟩, nn 2 ([]))
def laws_szIntSS.un (r : R) : Int := ((leafR r 0).dat (.int .i64))
noncomputable def laws_szIntSS (v0 : List (List Int)) (v1 : Int) : Option (Int) := tOf laws_szIntSS.mk (vlim E 44 (laws_szIntSS.c v0 v1))
def laws_toView.c (v0 : List Int) (v1 : List (Int × Int × Int × List (Int × Int × Int) × List Int × List (List Int))) : List Cell := ac [.d .fro (.sl (.int .i64)) v0, .d .fro (.sl (.pair (.int .i64) (.pair (.int .i64) (.pair (.int .i64) (.pair (.sl (.pair (.int .i64) (.pair (.int .i64) (.int .i64)))) (.pair (.sl (.int .i64)) (.sl (.sl (.int .i64))))))))) v1] :: []
def laws_toView.mk (b : (List Int) × (List (Int × Int × Int × List (Int × Int × Int) × List Int × List (List Int)))) : R := (⟨.agg, [.d .deep (.sl (.int .i64)) b.1, .d .deep (.sl (.pair (.int .i64) (.pair (.int .i64) (.pair (.int .i64) (.pair (.sl (.pair (.int .i64) (.pair (.int .i64) (.int .i64)))) (.pair (.sl (.int .i64)) (.sl (.sl (.int .i64))))))))) b.2]⟩, nn 1 ([]))
def laws_toView.un (r : R) : (List Int) × (List (Int × Int × Int × List (Int × Int × Int) × List Int × List (List Int))) := ((leafR r 0).dat (.sl (.int .i64)), (leafR r 1).dat (.sl (.pair (.int .i64) (.pair (.int .i64) (.pair (.int .i64) (.pair (.sl (.pair (.int .i64) (.pair (.int .i64) (.int .i64)))) (.pair (.sl (.int .i64)) (.sl (.sl (.int .i64))))))))))
noncomputable def laws_toView (v0 : List Int) (v1 : List (Int × Int × Int × List (Int × Int × Int) × List Int × List (List Int))) : Option ((List Int) × (List (Int × Int × Int × List (Int × Int × Int) × List Int × List (List Int)))) := tOf laws_toView.mk (vlim E 6 (laws_toView.c v0 v1))
def laws_toIntS.c (v0 : List Int) : List Cell := vc (.d .fro (.sl (.int .i64)) v0) :: []
def laws_toIntS.mk (b : (List Int)) : R := (⟨.one, [.d .deep (.sl (.int .i64)) b]⟩, nn 1 ([]))
def laws_toIntS.un (r : R) : (List Int) := ((leafR r 0).dat (.sl (.int .i64)))
noncomputable def laws_toIntS (v0 : List Int) : Option ((List Int)) := tOf laws_toIntS.mk (vlim E 16 (laws_toIntS.c v0))
def laws_toPartS.c (v0 : List (Int × Int × Int × List (Int × Int × Int) × List Int × List (List Int))) : List Cell := vc (.d .fro (.sl (.pair (.int .i64) (.pair (.int .i64) (.pair (.int .i64) (.pair (.sl (.pair (.int .i64) (.pair (.int .i64) (.int .i64)))) (.pair (.sl (.int .i64)) (.sl (.sl (.int .i64))))))))) v0) :: []
def laws_toPartS.mk (b : (List (Int × Int × Int × List (Int × Int × Int) × List Int × List (List Int)))) : R := (⟨.one, [.d .deep (.sl (.pair (.int .i64) (.pair (.int .i64) (.pair (.int .i64) (.pair (.sl (.pair (.int .i64) (.pair (.int .i64) (.int .i64)))) (.pair (.sl (.int .i64)) (.sl (.sl (.int .i64))))))))) b]⟩, nn 1 ([]))
def laws_toPartS.un (r : R) : (List (Int × Int × Int × List (Int × Int × Int) × List Int × List (List Int))) := ((leafR r 0).dat (.sl (.pair (.int .i64) (.pair (.int .i64) (.pair (.int .i64) (.pair (.sl (.pair (.int .i64) (.pair (.int .i64) (.int .i64)))) (.pair (.sl (.int .i64)) (.sl (.sl (.int .i64))))))))))
noncomputable def laws_toPartS (v0 : List (Int × Int × Int × List (Int × Int × Int) × List Int × List (List Int))) : Option ((List (Int × Int × Int × List (Int × Int × Int) × List Int × List (List Int)))) := tOf laws_toPartS.mk (vlim E 17 (laws_toPartS.c v0))
def laws_toPart.c (v0 : Int) (v1 : Int) (v2 : Int) (v3 : List (Int × Int × Int)) (v4 : List Int) (v5 : List (List Int)) : List Cell := ac [iL v0, iL v1, iL v2, .d .fro (.sl (.pair (.int .i64) (.pair (.int .i64) (.int .i64)))) v3, .d .fro (.sl (.int .i64)) v4, .d .fro (.sl (.sl (.int .i64))) v5] :: []
def laws_toPart.mk (b : Int × Int × Int × (List (Int × Int × Int)) × (List Int) × (List (List Int))) : R := (⟨.agg, [iL b.1, iL b.2.1, iL b.2.2.1, .d .deep (.sl (.pair (.int .i64) (.pair (.int .i64) (.int .i64)))) b.2.2.2.1, .d .deep (.sl (.int .i64)) b.2.2.2.2.1, .d .deep (.sl (.sl (.int .i64))) b.2.2.2.2.2]⟩, nn 1 ([]))
def laws_toPart.un (r : R) : Int × Int × Int × (List (Int × Int × Int)) × (List Int) × (List (List Int)) := ((leafR r 0).dat (.int .i64), (leafR r 1).dat (.int .i64), (leafR r 2).dat (.int .i64), (leafR r 3).dat (.sl (.pair (.int .i64) (.pair (.int .i64) (.int .i64)))), (leafR r 4).dat (.sl (.int .i64)), (leafR r 5).dat (.sl (.sl (.int .i64))))
noncomputable def laws_toPart (v0 : Int) (v1 : Int) (v2 : Int) (v3 : List (Int × Int × Int)) (v4 : List Int) (v5 : List (List Int)) : Option (Int × Int × Int × (List (Int × Int × Int)) × (List Int) × (List (List Int))) := tOf laws_toPart.mk (vlim E 30 (laws_toPart.c v0 v1 v2 v3 v4 v5))
def laws_toTestS.c (v0 : List (Int × Int × Int)) : List Cell := vc (.d .fro (.sl (.pair (.int .i64) (.pair (.int .i64) (.int .i64)))) v0) :: []
def laws_toTestS.mk (b : (List (Int × Int × Int))) : R := (⟨.one, [.d .deep (.sl (.pair (.int .i64) (.pair (.int .i64) (.int .i64)))) b]⟩, nn 1 ([]))
def laws_toTestS.un (r : R) : (List (Int × Int × Int)) := ((leafR r 0).dat (.sl (.pair (.int .i64) (.pair (.int .i64) (.int .i64)))))
noncomputable def laws_toTestS (v0 : List (Int × Int × Int)) : Option ((List (Int × Int × Int))) := tOf laws_toTestS.mk (vlim E 49 (laws_toTestS.c v0))
def laws_toTest.c (v0 : Int) (v1 : Int) (v2 : Int) : List Cell := ac [iL v0, iL v1, iL v2] :: []
def laws_toTest.mk (b : Int × Int × Int) : R := (⟨.agg, [iL b.1, iL b.2.1, iL b.2.2]⟩, nn 1 ([]))
def laws_toTest.un (r : R) : Int × Int × Int := ((leafR r 0).dat (.int .i64), (leafR r 1).dat (.int .i64), (leafR r 2).dat (.int .i64))
noncomputable def laws_toTest (v0 : Int) (v1 : Int) (v2 : Int) : Option (Int × Int × Int) := tOf laws_toTest.mk (vlim E 59 (laws_toTest.c v0 v1 v2))
def laws_toIntSS.c (v0 : List (List Int)) : List Cell := vc (.d .fro (.sl (.sl (.int .i64))) v0) :: []
def laws_toIntSS.mk (b : (List (List Int))) : R := (⟨.one, [.d .deep (.sl (.sl (.int .i64))) b]⟩, nn 1 ([]))
def laws_toIntSS.un (r : R) : (List (List Int)) := ((leafR r 0).dat (.sl (.sl (.int .i64))))
noncomputable def laws_toIntSS (v0 : List (List Int)) : Option ((List (List Int))) := tOf laws_toIntSS.mk (vlim E 50 (laws_toIntSS.c v0))
def spec_PushDown.c (v0 : List Int) (v1 : List (Int × Int × Int × List (Int × Int × Int) × List Int × List (List Int))) : List Cell := ac [.d .fro (.sl (.int .i64)) v0, .d .fro (.sl (.pair (.int .i64) (.pair (.int .i64) (.pair (.int .i64) (.pair (.sl (.pair (.int .i64) (.pair (.int .i64) (.int .i64)))) (.pair (.sl (.int .i64)) (.sl (.sl (.int .i64))))))))) v1] :: []
def spec_PushDown.mk (b : (List Int) × (List (Int × Int × Int × List (Int × Int × Int) × List Int × List (List Int))) × Bool) : R := (⟨(.tup [some 2, none]), [.d .deep (.sl (.int .i64)) b.1, .d .deep (.sl (.pair (.int .i64) (.pair (.int .i64) (.pair (.int .i64) (.pair (.sl (.pair (.int .i64) (.pair (.int .i64) (.int .i64)))) (.pair (.sl (.int .i64)) (.sl (.sl (.int .i64))))))))) b.2.1, bL b.2.2]⟩, nn 1 ([]))
def spec_PushDown.un (r : R) : (List Int) × (List (Int × Int × Int × List (Int × Int × Int) × List Int × List (List Int))) × Bool := ((leafR r 0).dat (.sl (.int .i64)), (leafR r 1).dat (.sl (.pair (.int .i64) (.pair (.int .i64) (.pair (.int .i64) (.pair (.sl (.pair (.int .i64) (.pair (.int .i64) (.int .i64)))) (.pair (.sl (.int .i64)) (.sl (.sl (.int .i64))))))))), (leafR r 2).dat .bool)
noncomputable def spec_PushDown (v0 : List Int) (v1 : List (Int × Int × Int × List (Int × Int × Int) × List Int × List (List Int))) : Option ((List Int) × (List (Int × Int × Int × List (Int × Int × Int) × List Int × List (List Int))) × Bool) := tOf spec_PushDown.mk (vlim E 5 (spec_PushDown.c v0 v1))
def spec_l6Check.c (v0 : List Int) (v1 : List (Int × Int × Int × List (Int × Int × Int) × List Int × List (List Int))) : List Cell := ac [.d .fro (.sl (.int .i64)) v0, .d .fro (.sl (.pair (.int .i64) (.pair (.int .i64) (.pair (.int .i64) (.pair (.sl (.pair (.int .i64) (.pair (.int .i64) (.int .i64)))) (.pair (.sl (.int .i64)) (.sl (.sl (.int .i64))))))))) v1] :: []
def spec_l6Check.mk (b : (List Int) × Bool) : R := (⟨(.tup [none, none]), [.d .deep (.sl (.int .i64)) b.1, bL b.2]⟩, nn 1 ([]))
def spec_l6Check.un (r : R) : (List Int) × Bool := ((leafR r 0).dat (.sl (.int .i64)), (leafR r 1).dat .bool)
noncomputable def spec_l6Check (v0 : List Int) (v1 : List (Int × Int × Int × List (Int × Int × Int) × List Int × List (List Int))) : Option ((List Int) × Bool) := tOf spec_l6Check.mk (vlim E 13 (spec_l6Check.c v0 v1))
def spec_l1In.c (v0 : Int) (v1 : Int) (v2 : Int) : List Cell := vc (iL v0) :: vc (iL v1) :: vc (iL v2) :: []
def spec_l1In.mk (b : Bool) : R := (⟨.one, [bL b]⟩, nn 3 ([]))
def spec_l1In.un (r : R) : Bool := ((leafR r 0).dat .bool)
noncomputable def spec_l1In (v0 : Int) (v1 : Int) (v2 : Int) : Option (Bool) := tOf spec_l1In.mk (vlim E 28 (spec_l1In.c v0 v1 v2))
def spec_l6Columns.c (v0 : Int) (v1 : Int) (v2 : Int) (v3 : List (Int × Int × Int)) (v4 : List Int) (v5 : List (List Int)) (v6 : List Int) : List Cell := ac [iL v0, iL v1, iL v2, .d .fro (.sl (.pair (.int .i64) (.pair (.int .i64) (.int .i64)))) v3, .d .fro (.sl (.int .i64)) v4, .d .fro (.sl (.sl (.int .i64))) v5] :: vc (.d .fro (.sl (.int .i64)) v6) :: []
def spec_l6Columns.mk (b : Int × Bool) : R := (⟨(.tup [none, none]), [iL b.1, bL b.2]⟩, nn 2 ([]))
def spec_l6Columns.un (r : R) : Int × Bool := ((leafR r 0).dat (.int .i64), (leafR r 1).dat .bool)
noncomputable def spec_l6Columns (v0 : Int) (v1 : Int) (v2 : Int) (v3 : List (Int × Int × Int)) (v4 : List Int) (v5 : List (List Int)) (v6 : List Int) : Option (Int × Bool) := tOf spec_l6Columns.mk (vlim E 29 (spec_l6Columns.c v0 v1 v2 v3 v4 v5 v6))
def spec_GoodTests.c (v0 : List (Int × Int × Int)) (v1 : Int) : List Cell := vc (.d .fro (.sl (.pair (.int .i64) (.pair (.int .i64) (.int .i64)))) v0) :: vc (iL v1) :: []
def spec_GoodTests.mk (b : Bool) : R := (⟨.one, [bL b]⟩, nn 2 ([]))
def spec_GoodTests.un (r : R) : Bool := ((leafR r 0).dat .bool)
noncomputable def spec_GoodTests (v0 : List (Int × Int × Int)) (v1 : Int) : Option (Bool) := tOf spec_GoodTests.mk (vlim E 45 (spec_GoodTests.c v0 v1))
def spec_l1Columns.c (v0 : List Int) (v1 : Int) : List Cell := vc (.d .fro (.sl (.int .i64)) v0) :: vc (iL v1) :: []
def spec_l1Columns.mk (b : Bool) : R := (⟨.one, [bL b]⟩, nn 2 ([]))
def spec_l1Columns.un (r : R) : Bool := ((leafR r 0).dat .bool)
noncomputable def spec_l1Columns (v0 : List Int) (v1 : Int) : Option (Bool) := tOf spec_l1Columns.mk (vlim E 46 (spec_l1Columns.c v0 v1))
def spec_l1Pairs.c (v0 : List (List Int)) (v1 : Int) (v2 : Int) : List Cell := vc (.d .fro (.sl (.sl (.int .i64))) v0) :: vc (iL v1) :: vc (iL v2) :: []
def spec_l1Pairs.mk (b : Bool) : R := (⟨.one, [bL b]⟩, nn 3 ([]))
def spec_l1Pairs.un (r : R) : Bool := ((leafR r 0).dat .bool)
noncomputable def spec_l1Pairs (v0 : List (List Int)) (v1 : Int) (v2 : Int) : Option (Bool) := tOf spec_l1Pairs.mk (vlim E 47 (spec_l1Pairs.c v0 v1 v2))
def spec_l3Left.c (v0 : List (List Int)) (v1 : Int) : List Cell := vc (.d .fro (.sl (.sl (.int .i64))) v0) :: vc (iL v1) :: []
def spec_l3Left.mk (b : Int) : R := (⟨.one, [iL b]⟩, nn 2 ([]))
def spec_l3Left.un (r : R) : Int := ((leafR r 0).dat (.int .i64))
noncomputable def spec_l3Left (v0 : List (List Int)) (v1 : Int) : Option (Int) := tOf spec_l3Left.mk (vlim E 48 (spec_l3Left.c v0 v1))
def spec_l6Own.c (v0 : List Int) (v1 : List (Int × Int × Int × List (Int × Int × Int) × List Int × List (List Int))) : List Cell := ac [.d .fro (.sl (.int .i64)) v0, .d .fro (.sl (.pair (.int .i64) (.pair (.int .i64) (.pair (.int .i64) (.pair (.sl (.pair (.int .i64) (.pair (.int .i64) (.int .i64)))) (.pair (.sl (.int .i64)) (.sl (.sl (.int .i64))))))))) v1] :: []
def spec_l6Own.mk (b : (List Int) × (List (Int × Int × Int × List (Int × Int × Int) × List Int × List (List Int)))) : R := (⟨.agg, [.d .deep (.sl (.int .i64)) b.1, .d .deep (.sl (.pair (.int .i64) (.pair (.int .i64) (.pair (.int .i64) (.pair (.sl (.pair (.int .i64) (.pair (.int .i64) (.int .i64)))) (.pair (.sl (.int .i64)) (.sl (.sl (.int .i64))))))))) b.2]⟩, nn 1 ([]))
def spec_l6Own.un (r : R) : (List Int) × (List (Int × Int × Int × List (Int × Int × Int) × List Int × List (List Int))) := ((leafR r 0).dat (.sl (.int .i64)), (leafR r 1).dat (.sl (.pair (.int .i64) (.pair (.int .i64) (.pair (.int .i64) (.pair (.sl (.pair (.int .i64) (.pair (.int .i64) (.int .i64)))) (.pair (.sl (.int .i64)) (.sl (.sl (.int .i64))))))))))
noncomputable def spec_l6Own (v0 : List Int) (v1 : List (Int × Int × Int × List (Int × Int × Int) × List Int × List (List Int))) : Option ((List Int) × (List (Int × Int × Int × List (Int × Int × Int) × List Int × List (List Int)))) := tOf spec_l6Own.mk (vlim E 14 (spec_l6Own.c v0 v1))
def spec_l6OwnPart.c (v0 : Int) (v1 : Int) (v2 : Int) (v3 : List (Int × Int × Int)) (v4 : List Int) (v5 : List (List Int)) : List Cell := ac [iL v0, iL v1, iL v2, .d .fro (.sl (.pair (.int .i64) (.pair (.int .i64) (.int .i64)))) v3, .d .fro (.sl (.int .i64)) v4, .d .fro (.sl (.sl (.int .i64))) v5] :: []
def spec_l6OwnPart.mk (b : Int × Int × Int × (List (Int × Int × Int)) × (List Int) × (List (List Int))) : R := (⟨.agg, [iL b.1, iL b.2.1, iL b.2.2.1, .d .deep (.sl (.pair (.int .i64) (.pair (.int .i64) (.int .i64)))) b.2.2.2.1, .d .deep (.sl (.int .i64)) b.2.2.2.2.1, .d .deep (.sl (.sl (.int .i64))) b.2.2.2.2.2]⟩, nn 1 ([]))
def spec_l6OwnPart.un (r : R) : Int × Int × Int × (List (Int × Int × Int)) × (List Int) × (List (List Int)) := ((leafR r 0).dat (.int .i64), (leafR r 1).dat (.int .i64), (leafR r 2).dat (.int .i64), (leafR r 3).dat (.sl (.pair (.int .i64) (.pair (.int .i64) (.int .i64)))), (leafR r 4).dat (.sl (.int .i64)), (leafR r 5).dat (.sl (.sl (.int .i64))))
noncomputable def spec_l6OwnPart (v0 : Int) (v1 : Int) (v2 : Int) (v3 : List (Int × Int × Int)) (v4 : List Int) (v5 : List (List Int)) : Option (Int × Int × Int × (List (Int × Int × Int)) × (List Int) × (List (List Int))) := tOf spec_l6OwnPart.mk (vlim E 15 (spec_l6OwnPart.c v0 v1 v2 v3 v4 v5))
def impl_PushDown.c (v0 : List Int) (v1 : List (Int × Int × Int × List (Int × Int × Int) × List Int × List (List Int))) : List Cell := ac [.d .fro (.sl (.int .i64)) v0, .d .fro (.sl (.pair (.int .i64) (.pair (.int .i64) (.pair (.int .i64) (.pair (.sl (.pair (.int .i64) (.pair (.int .i64) (.int .i64)))) (.pair (.sl (.int .i64)) (.sl (.sl (.int .i64))))))))) v1] :: []
def impl_PushDown.mk (b : (List Int) × (List (Int × Int × Int × List (Int × Int × Int) × List Int × List (List Int))) × Bool) : R := (⟨(.tup [some 2, none]), [.d .deep (.sl (.int .i64)) b.1, .d .deep (.sl (.pair (.int .i64) (.pair (.int .i64) (.pair (.int .i64) (.pair (.sl (.pair (.int .i64) (.pair (.int .i64) (.int .i64)))) (.pair (.sl (.int .i64)) (.sl (.sl (.int .i64))))))))) b.2.1, bL b.2.2]⟩, nn 1 ([]))
def impl_PushDown.un (r : R) : (List Int) × (List (Int × Int × Int × List (Int × Int × Int) × List Int × List (List Int))) × Bool := ((leafR r 0).dat (.sl (.int .i64)), (leafR r 1).dat (.sl (.pair (.int .i64) (.pair (.int .i64) (.pair (.int .i64) (.pair (.sl (.pair (.int .i64) (.pair (.int .i64) (.int .i64)))) (.pair (.sl (.int .i64)) (.sl (.sl (.int .i64))))))))), (leafR r 2).dat .bool)
noncomputable def impl_PushDown (v0 : List Int) (v1 : List (Int × Int × Int × List (Int × Int × Int) × List Int × List (List Int))) : Option ((List Int) × (List (Int × Int × Int × List (Int × Int × Int) × List Int × List (List Int))) × Bool) := tOf impl_PushDown.mk (vlim E 7 (impl_PushDown.c v0 v1))
def impl_CheckView.c (v0 : List Int) (v1 : List (Int × Int × Int × List (Int × Int × Int) × List Int × List (List Int))) : List Cell := ac [.d .fro (.sl (.int .i64)) v0, .d .fro (.sl (.pair (.int .i64) (.pair (.int .i64) (.pair (.int .i64) (.pair (.sl (.pair (.int .i64) (.pair (.int .i64) (.int .i64)))) (.pair (.sl (.int .i64)) (.sl (.sl (.int .i64))))))))) v1] :: []
def impl_CheckView.mk (b : (List Int) × Bool) : R := (⟨(.tup [none, none]), [.d .deep (.sl (.int .i64)) b.1, bL b.2]⟩, nn 1 ([]))
def impl_CheckView.un (r : R) : (List Int) × Bool := ((leafR r 0).dat (.sl (.int .i64)), (leafR r 1).dat .bool)
noncomputable def impl_CheckView (v0 : List Int) (v1 : List (Int × Int × Int × List (Int × Int × Int) × List Int × List (List Int))) : Option ((List Int) × Bool) := tOf impl_CheckView.mk (vlim E 18 (impl_CheckView.c v0 v1))
def impl_within.c (v0 : Int) (v1 : Int) (v2 : Int) : List Cell := vc (iL v0) :: vc (iL v1) :: vc (iL v2) :: []
def impl_within.mk (b : Bool) : R := (⟨.one, [bL b]⟩, nn 3 ([]))
def impl_within.un (r : R) : Bool := ((leafR r 0).dat .bool)
noncomputable def impl_within (v0 : Int) (v1 : Int) (v2 : Int) : Option (Bool) := tOf impl_within.mk (vlim E 31 (impl_within.c v0 v1 v2))
def xi0i.c (v0 : List Int) : List Cell := vc (.d .fro (.sl (.int .i64)) v0) :: vc (.fn 33 []) :: []
def xi0i.mk (b : Bool) : R := (⟨.one, [bL b]⟩, nn 2 ([]))
def xi0i.un (r : R) : Bool := ((leafR r 0).dat .bool)
noncomputable def xi0i (v0 : List Int) : Option (Bool) := tOf xi0i.mk (vlim E 32 (xi0i.c v0))
def xs04.c (v0 : List Int) : List Cell := vc (.d .fro (.sl (.int .i64)) v0) :: vc (.fn 52 [.rp [.fn 33 []] 0]) :: []
def xs04.mk (b : Bool) : R := (⟨.one, [bL b]⟩, nn 2 ([]))
def xs04.un (r : R) : Bool := ((leafR r 0).dat .bool)
noncomputable def xs04 (v0 : List Int) : Option (Bool) := tOf xs04.mk (vlim E 51 (xs04.c v0))
def xs07.c (v0 : List Int) : List Cell := vc (.d .fro (.sl (.int .i64)) v0) :: vc (.fn 52 [.rp [.fn 33 []] 0]) :: []
def xs07.mk (b : Int) : R := (⟨.one, [iL b]⟩, nn 2 ([]))
def xs07.un (r : R) : Int := ((leafR r 0).dat (.int .i64))
noncomputable def xs07 (v0 : List Int) : Option (Int) := tOf xs07.mk (vlim E 60 (xs07.c v0))
def xi0f.c (v0 : Int) : List Cell := vc (iL v0) :: vc (.rp [.fn 33 []] 0) :: []
def xi0f.mk (b : Bool) : R := (⟨.one, [bL b]⟩, nn 2 ([]))
def xi0f.un (r : R) : Bool := ((leafR r 0).dat .bool)
noncomputable def xi0f (v0 : Int) : Option (Bool) := tOf xi0f.mk (vlim E 52 (xi0f.c v0))
def impl_isColumns.c (v0 : Int) : List Cell := vc (iL v0) :: []
def impl_isColumns.mk (b : Bool) : R := (⟨.one, [bL b]⟩, nn 1 ([]))
def impl_isColumns.un (r : R) : Bool := ((leafR r 0).dat .bool)
noncomputable def impl_isColumns (v0 : Int) : Option (Bool) := tOf impl_isColumns.mk (vlim E 33 (impl_isColumns.c v0))
def xi0l.c (v0 : List Int) (v1 : List (Int × Int × Int × List (Int × Int × Int) × List Int × List (List Int))) (v2 : Int) (v3 : Int) (v4 : Int) (v5 : List (Int × Int × Int)) (v6 : List Int) (v7 : List (List Int)) (v8 : List Int) : List Cell := ac [.d .fro (.sl (.int .i64)) v0, .d .fro (.sl (.pair (.int .i64) (.pair (.int .i64) (.pair (.int .i64) (.pair (.sl (.pair (.int .i64) (.pair (.int .i64) (.int .i64)))) (.pair (.sl (.int .i64)) (.sl (.sl (.int .i64))))))))) v1] :: ac [iL v2, iL v3, iL v4, .d .fro (.sl (.pair (.int .i64) (.pair (.int .i64) (.int .i64)))) v5, .d .fro (.sl (.int .i64)) v6, .d .fro (.sl (.sl (.int .i64))) v7] :: vc (.d .fro (.sl (.int .i64)) v8) :: []
def xi0l.mk (b : Int × Bool) : R := (⟨(.tup [none, none]), [iL b.1, bL b.2]⟩, nn 3 ([]))
def xi0l.un (r : R) : Int × Bool := ((leafR r 0).dat (.int .i64), (leafR r 1).dat .bool)
noncomputable def xi0l (v0 : List Int) (v1 : List (Int × Int × Int × List (Int × Int × Int) × List Int × List (List Int))) (v2 : Int) (v3 : Int) (v4 : Int) (v5 : List (Int × Int × Int)) (v6 : List Int) (v7 : List (List Int)) (v8 : List Int) : Option (Int × Bool) := tOf xi0l.mk (vlim E 34 (xi0l.c v0 v1 v2 v3 v4 v5 v6 v7 v8))
def impl_GoodTests.c (v0 : List (Int × Int × Int)) (v1 : Int) : List Cell := vc (.d .fro (.sl (.pair (.int .i64) (.pair (.int .i64) (.int .i64)))) v0) :: vc (iL v1) :: []
def impl_GoodTests.mk (b : Bool) : R := (⟨.one, [bL b]⟩, nn 2 ([]))
def impl_GoodTests.un (r : R) : Bool := ((leafR r 0).dat .bool)
noncomputable def impl_GoodTests (v0 : List (Int × Int × Int)) (v1 : Int) : Option (Bool) := tOf impl_GoodTests.mk (vlim E 53 (impl_GoodTests.c v0 v1))
def xi0b.c (v0 : List (Int × Int × Int)) (v1 : Int) : List Cell := vc (.d .fro (.sl (.pair (.int .i64) (.pair (.int .i64) (.int .i64)))) v0) :: vc (.fn 62 [.rp [iL v1] 0]) :: []
def xi0b.mk (b : Bool) : R := (⟨.one, [bL b]⟩, nn 2 ([]))
def xi0b.un (r : R) : Bool := ((leafR r 0).dat .bool)
noncomputable def xi0b (v0 : List (Int × Int × Int)) (v1 : Int) : Option (Bool) := tOf xi0b.mk (vlim E 61 (xi0b.c v0 v1))
def xs00.c (v0 : List (Int × Int × Int)) (v1 : Int) : List Cell := vc (.d .fro (.sl (.pair (.int .i64) (.pair (.int .i64) (.int .i64)))) v0) :: vc (.fn 71 [.rp [.fn 62 [.rp [iL v1] 0]] 0]) :: []
def xs00.mk (b : Bool) : R := (⟨.one, [bL b]⟩, nn 2 ([]))
def xs00.un (r : R) : Bool := ((leafR r 0).dat .bool)
noncomputable def xs00 (v0 : List (Int × Int × Int)) (v1 : Int) : Option (Bool) := tOf xs00.mk (vlim E 70 (xs00.c v0 v1))
def xs01.c (v0 : List (Int × Int × Int)) (v1 : Int) : List Cell := vc (.d .fro (.sl (.pair (.int .i64) (.pair (.int .i64) (.int .i64)))) v0) :: vc (.fn 71 [.rp [.fn 62 [.rp [iL v1] 0]] 0]) :: []
def xs01.mk (b : Int) : R := (⟨.one, [iL b]⟩, nn 2 ([]))
def xs01.un (r : R) : Int := ((leafR r 0).dat (.int .i64))
noncomputable def xs01 (v0 : List (Int × Int × Int)) (v1 : Int) : Option (Int) := tOf xs01.mk (vlim E 75 (xs01.c v0 v1))
def xi09.c (v0 : Int) (v1 : Int) (v2 : Int) (v3 : Int) : List Cell := ac [iL v0, iL v1, iL v2] :: vc (.rp [.fn 62 [.rp [iL v3] 0]] 0) :: []
def xi09.mk (b : Bool) : R := (⟨.one, [bL b]⟩, nn 2 ([]))
def xi09.un (r : R) : Bool := ((leafR r 0).dat .bool)
noncomputable def xi09 (v0 : Int) (v1 : Int) (v2 : Int) (v3 : Int) : Option (Bool) := tOf xi09.mk (vlim E 71 (xi09.c v0 v1 v2 v3))
def impl_GoodTests_1.c (v0 : Int) (v1 : Int) (v2 : Int) (v3 : Int) : List Cell := ac [iL v0, iL v1, iL v2] :: vc (.rp [iL v3] 0) :: []
def impl_GoodTests_1.mk (b : Bool) : R := (⟨.one, [bL b]⟩, nn 2 ([]))
def impl_GoodTests_1.un (r : R) : Bool := ((leafR r 0).dat .bool)
noncomputable def impl_GoodTests_1 (v0 : Int) (v1 : Int) (v2 : Int) (v3 : Int) : Option (Bool) := tOf impl_GoodTests_1.mk (vlim E 62 (impl_GoodTests_1.c v0 v1 v2 v3))
def impl_isPlace.c (v0 : Int) (v1 : Int) : List Cell := vc (iL v0) :: vc (iL v1) :: []
def impl_isPlace.mk (b : Bool) : R := (⟨.one, [bL b]⟩, nn 2 ([]))
def impl_isPlace.un (r : R) : Bool := ((leafR r 0).dat .bool)
noncomputable def impl_isPlace (v0 : Int) (v1 : Int) : Option (Bool) := tOf impl_isPlace.mk (vlim E 63 (impl_isPlace.c v0 v1))
def impl_isCell.c (v0 : Int) : List Cell := vc (iL v0) :: []
def impl_isCell.mk (b : Bool) : R := (⟨.one, [bL b]⟩, nn 1 ([]))
def impl_isCell.un (r : R) : Bool := ((leafR r 0).dat .bool)
noncomputable def impl_isCell (v0 : Int) : Option (Bool) := tOf impl_isCell.mk (vlim E 64 (impl_isCell.c v0))
def impl_areColumns.c (v0 : List Int) (v1 : Int) : List Cell := vc (.d .fro (.sl (.int .i64)) v0) :: vc (iL v1) :: []
def impl_areColumns.mk (b : Bool) : R := (⟨.one, [bL b]⟩, nn 2 ([]))
def impl_areColumns.un (r : R) : Bool := ((leafR r 0).dat .bool)
noncomputable def impl_areColumns (v0 : List Int) (v1 : Int) : Option (Bool) := tOf impl_areColumns.mk (vlim E 54 (impl_areColumns.c v0 v1))
def xi0e.c (v0 : List Int) (v1 : Int) : List Cell := vc (.d .fro (.sl (.int .i64)) v0) :: vc (.fn 65 [.rp [iL v1] 0]) :: []
def xi0e.mk (b : Bool) : R := (⟨.one, [bL b]⟩, nn 2 ([]))
def xi0e.un (r : R) : Bool := ((leafR r 0).dat .bool)
noncomputable def xi0e (v0 : List Int) (v1 : Int) : Option (Bool) := tOf xi0e.mk (vlim E 32 (xi0e.c v0 v1))
def xs02.c (v0 : List Int) (v1 : Int) : List Cell := vc (.d .fro (.sl (.int .i64)) v0) :: vc (.fn 52 [.rp [.fn 65 [.rp [iL v1] 0]] 0]) :: []
def xs02.mk (b : Bool) : R := (⟨.one, [bL b]⟩, nn 2 ([]))
def xs02.un (r : R) : Bool := ((leafR r 0).dat .bool)
noncomputable def xs02 (v0 : List Int) (v1 : Int) : Option (Bool) := tOf xs02.mk (vlim E 51 (xs02.c v0 v1))
def xs05.c (v0 : List Int) (v1 : Int) : List Cell := vc (.d .fro (.sl (.int .i64)) v0) :: vc (.fn 52 [.rp [.fn 65 [.rp [iL v1] 0]] 0]) :: []
def xs05.mk (b : Int) : R := (⟨.one, [iL b]⟩, nn 2 ([]))
def xs05.un (r : R) : Int := ((leafR r 0).dat (.int .i64))
noncomputable def xs05 (v0 : List Int) (v1 : Int) : Option (Int) := tOf xs05.mk (vlim E 60 (xs05.c v0 v1))
def xi0c.c (v0 : Int) (v1 : Int) : List Cell := vc (iL v0) :: vc (.rp [.fn 65 [.rp [iL v1] 0]] 0) :: []
def xi0c.mk (b : Bool) : R := (⟨.one, [bL b]⟩, nn 2 ([]))
def xi0c.un (r : R) : Bool := ((leafR r 0).dat .bool)
noncomputable def xi0c (v0 : Int) (v1 : Int) : Option (Bool) := tOf xi0c.mk (vlim E 52 (xi0c.c v0 v1))
def impl_areColumns_1.c (v0 : Int) (v1 : Int) : List Cell := vc (iL v0) :: vc (.rp [iL v1] 0) :: []
def impl_areColumns_1.mk (b : Bool) : R := (⟨.one, [bL b]⟩, nn 2 ([]))
def impl_areColumns_1.un (r : R) : Bool := ((leafR r 0).dat .bool)
noncomputable def impl_areColumns_1 (v0 : Int) (v1 : Int) : Option (Bool) := tOf impl_areColumns_1.mk (vlim E 65 (impl_areColumns_1.c v0 v1))
def impl_arePairs.c (v0 : List (List Int)) (v1 : Int) (v2 : Int) : List Cell := vc (.d .fro (.sl (.sl (.int .i64))) v0) :: vc (iL v1) :: vc (iL v2) :: []
def impl_arePairs.mk (b : Bool) : R := (⟨.one, [bL b]⟩, nn 3 ([]))
def impl_arePairs.un (r : R) : Bool := ((leafR r 0).dat .bool)
noncomputable def impl_arePairs (v0 : List (List Int)) (v1 : Int) (v2 : Int) : Option (Bool) := tOf impl_arePairs.mk (vlim E 55 (impl_arePairs.c v0 v1 v2))
def xi0h.c (v0 : List (List Int)) (v1 : Int) (v2 : Int) : List Cell := vc (.d .fro (.sl (.sl (.int .i64))) v0) :: vc (.fn 67 [.rp [iL v1] 0, .rp [iL v2] 0]) :: []
def xi0h.mk (b : Bool) : R := (⟨.one, [bL b]⟩, nn 2 ([]))
def xi0h.un (r : R) : Bool := ((leafR r 0).dat .bool)
noncomputable def xi0h (v0 : List (List Int)) (v1 : Int) (v2 : Int) : Option (Bool) := tOf xi0h.mk (vlim E 66 (xi0h.c v0 v1 v2))
def xs03.c (v0 : List (List Int)) (v1 : Int) (v2 : Int) : List Cell := vc (.d .fro (.sl (.sl (.int .i64))) v0) :: vc (.fn 73 [.rp [.fn 67 [.rp [iL v1] 0, .rp [iL v2] 0]] 0]) :: []
def xs03.mk (b : Bool) : R := (⟨.one, [bL b]⟩, nn 2 ([]))
def xs03.un (r : R) : Bool := ((leafR r 0).dat .bool)
noncomputable def xs03 (v0 : List (List Int)) (v1 : Int) (v2 : Int) : Option (Bool) := tOf xs03.mk (vlim E 72 (xs03.c v0 v1 v2))
def xs06.c (v0 : List (List Int)) (v1 : Int) (v2 : Int) : List Cell := vc (.d .fro (.sl (.sl (.int .i64))) v0) :: vc (.fn 73 [.rp [.fn 67 [.rp [iL v1] 0, .rp [iL v2] 0]] 0]) :: []
def xs06.mk (b : Int) : R := (⟨.one, [iL b]⟩, nn 2 ([]))
def xs06.un (r : R) : Int := ((leafR r 0).dat (.int .i64))
noncomputable def xs06 (v0 : List (List Int)) (v1 : Int) (v2 : Int) : Option (Int) := tOf xs06.mk (vlim E 76 (xs06.c v0 v1 v2))
def xi0d.c (v0 : List Int) (v1 : Int) (v2 : Int) : List Cell := vc (.d .fro (.sl (.int .i64)) v0) :: vc (.rp [.fn 67 [.rp [iL v1] 0, .rp [iL v2] 0]] 0) :: []
def xi0d.mk (b : Bool) : R := (⟨.one, [bL b]⟩, nn 2 ([]))
def xi0d.un (r : R) : Bool := ((leafR r 0).dat .bool)
noncomputable def xi0d (v0 : List Int) (v1 : Int) (v2 : Int) : Option (Bool) := tOf xi0d.mk (vlim E 73 (xi0d.c v0 v1 v2))
def impl_arePairs_1.c (v0 : List Int) (v1 : Int) (v2 : Int) : List Cell := vc (.d .fro (.sl (.int .i64)) v0) :: vc (.rp [iL v1] 0) :: vc (.rp [iL v2] 0) :: []
def impl_arePairs_1.mk (b : Bool) : R := (⟨.one, [bL b]⟩, nn 3 ([]))
def impl_arePairs_1.un (r : R) : Bool := ((leafR r 0).dat .bool)
noncomputable def impl_arePairs_1 (v0 : List Int) (v1 : Int) (v2 : Int) : Option (Bool) := tOf impl_arePairs_1.mk (vlim E 67 (impl_arePairs_1.c v0 v1 v2))
def impl_joinedColumns.c (v0 : Int) (v1 : Int) (v2 : List (List Int)) : List Cell := vc (iL v0) :: vc (iL v1) :: vc (.d .fro (.sl (.sl (.int .i64))) v2) :: []
def impl_joinedColumns.mk (b : Int) : R := (⟨.one, [iL b]⟩, nn 3 ([]))
def impl_joinedColumns.un (r : R) : Int := ((leafR r 0).dat (.int .i64))
noncomputable def impl_joinedColumns (v0 : Int) (v1 : Int) (v2 : List (List Int)) : Option (Int) := tOf impl_joinedColumns.mk (vlim E 56 (impl_joinedColumns.c v0 v1 v2))
def impl_unpaired.c (v0 : Int) (v1 : List (List Int)) : List Cell := vc (iL v0) :: vc (.d .fro (.sl (.sl (.int .i64))) v1) :: []
def impl_unpaired.mk (b : (List Int)) : R := (⟨.one, [.d .deep (.sl (.int .i64)) b]⟩, nn 2 ([]))
def impl_unpaired.un (r : R) : (List Int) := ((leafR r 0).dat (.sl (.int .i64)))
noncomputable def impl_unpaired (v0 : Int) (v1 : List (List Int)) : Option ((List Int)) := tOf impl_unpaired.mk (vlim E 68 (impl_unpaired.c v0 v1))
def xs08.c (v0 : List (List Int)) (v1 : Int) : List Cell := vc (.d .fro (.sl (.sl (.int .i64))) v0) :: vc (.fn 74 [.rp [iL v1] 0]) :: []
def xs08.mk (b : Bool) : R := (⟨.one, [bL b]⟩, nn 2 ([]))
def xs08.un (r : R) : Bool := ((leafR r 0).dat .bool)
noncomputable def xs08 (v0 : List (List Int)) (v1 : Int) : Option (Bool) := tOf xs08.mk (vlim E 72 (xs08.c v0 v1))
def xs0a.c (v0 : List (List Int)) (v1 : Int) : List Cell := vc (.d .fro (.sl (.sl (.int .i64))) v0) :: vc (.fn 74 [.rp [iL v1] 0]) :: []
def xs0a.mk (b : Int) : R := (⟨.one, [iL b]⟩, nn 2 ([]))
def xs0a.un (r : R) : Int := ((leafR r 0).dat (.int .i64))
noncomputable def xs0a (v0 : List (List Int)) (v1 : Int) : Option (Int) := tOf xs0a.mk (vlim E 76 (xs0a.c v0 v1))
def impl_unpaired_1.c (v0 : List Int) (v1 : Int) : List Cell := vc (.d .fro (.sl (.int .i64)) v0) :: vc (.rp [iL v1] 0) :: []
def impl_unpaired_1.mk (b : Bool) : R := (⟨.one, [bL b]⟩, nn 2 ([]))
def impl_unpaired_1.un (r : R) : Bool := ((leafR r 0).dat .bool)
noncomputable def impl_unpaired_1 (v0 : List Int) (v1 : Int) : Option (Bool) := tOf impl_unpaired_1.mk (vlim E 74 (impl_unpaired_1.c v0 v1))
def impl_Part_uses.c (v0 : Int) (v1 : Int) (v2 : Int) (v3 : List (Int × Int × Int)) (v4 : List Int) (v5 : List (List Int)) : List Cell := ac [iL v0, iL v1, iL v2, .d .fro (.sl (.pair (.int .i64) (.pair (.int .i64) (.int .i64)))) v3, .d .fro (.sl (.int .i64)) v4, .d .fro (.sl (.sl (.int .i64))) v5] :: []
def impl_Part_uses.mk (b : Bool) : R := (⟨.one, [bL b]⟩, nn 1 ([]))
def impl_Part_uses.un (r : R) : Bool := ((leafR r 0).dat .bool)
noncomputable def impl_Part_uses (v0 : Int) (v1 : Int) (v2 : Int) (v3 : List (Int × Int × Int)) (v4 : List Int) (v5 : List (List Int)) : Option (Bool) := tOf impl_Part_uses.mk (vlim E 35 (impl_Part_uses.c v0 v1 v2 v3 v4 v5))
def impl_View_own.c (v0 : List Int) (v1 : List (Int × Int × Int × List (Int × Int × Int) × List Int × List (List Int))) : List Cell := ac [.d .fro (.sl (.int .i64)) v0, .d .fro (.sl (.pair (.int .i64) (.pair (.int .i64) (.pair (.int .i64) (.pair (.sl (.pair (.int .i64) (.pair (.int .i64) (.int .i64)))) (.pair (.sl (.int .i64)) (.sl (.sl (.int .i64))))))))) v1] :: []
def impl_View_own.mk (b : (List Int) × (List (Int × Int × Int × List (Int × Int × Int) × List Int × List (List Int)))) : R := (⟨.agg, [.d .deep (.sl (.int .i64)) b.1, .d .deep (.sl (.pair (.int .i64) (.pair (.int .i64) (.pair (.int .i64) (.pair (.sl (.pair (.int .i64) (.pair (.int .i64) (.int .i64)))) (.pair (.sl (.int .i64)) (.sl (.sl (.int .i64))))))))) b.2]⟩, nn 1 ([]))
def impl_View_own.un (r : R) : (List Int) × (List (Int × Int × Int × List (Int × Int × Int) × List Int × List (List Int))) := ((leafR r 0).dat (.sl (.int .i64)), (leafR r 1).dat (.sl (.pair (.int .i64) (.pair (.int .i64) (.pair (.int .i64) (.pair (.sl (.pair (.int .i64) (.pair (.int .i64) (.int .i64)))) (.pair (.sl (.int .i64)) (.sl (.sl (.int .i64))))))))))
noncomputable def impl_View_own (v0 : List Int) (v1 : List (Int × Int × Int × List (Int × Int × Int) × List Int × List (List Int))) : Option ((List Int) × (List (Int × Int × Int × List (Int × Int × Int) × List Int × List (List Int)))) := tOf impl_View_own.mk (vlim E 19 (impl_View_own.c v0 v1))
def xs0k.c (v0 : List Int) : List Cell := vc (.d .fro (.sl (.int .i64)) v0) :: []
def xs0k.mk (b : (List Int)) : R := (⟨.one, [.d .deep (.sl (.int .i64)) b]⟩, nn 1 ([]))
def xs0k.un (r : R) : (List Int) := ((leafR r 0).dat (.sl (.int .i64)))
noncomputable def xs0k (v0 : List Int) : Option ((List Int)) := tOf xs0k.mk (vlim E 36 (xs0k.c v0))
def impl_Part_own.c (v0 : Int) (v1 : Int) (v2 : Int) (v3 : List (Int × Int × Int)) (v4 : List Int) (v5 : List (List Int)) : List Cell := ac [iL v0, iL v1, iL v2, .d .fro (.sl (.pair (.int .i64) (.pair (.int .i64) (.int .i64)))) v3, .d .fro (.sl (.int .i64)) v4, .d .fro (.sl (.sl (.int .i64))) v5] :: []
def impl_Part_own.mk (b : Int × Int × Int × (List (Int × Int × Int)) × (List Int) × (List (List Int))) : R := (⟨.agg, [iL b.1, iL b.2.1, iL b.2.2.1, .d .deep (.sl (.pair (.int .i64) (.pair (.int .i64) (.int .i64)))) b.2.2.2.1, .d .deep (.sl (.int .i64)) b.2.2.2.2.1, .d .deep (.sl (.sl (.int .i64))) b.2.2.2.2.2]⟩, nn 1 ([]))
def impl_Part_own.un (r : R) : Int × Int × Int × (List (Int × Int × Int)) × (List Int) × (List (List Int)) := ((leafR r 0).dat (.int .i64), (leafR r 1).dat (.int .i64), (leafR r 2).dat (.int .i64), (leafR r 3).dat (.sl (.pair (.int .i64) (.pair (.int .i64) (.int .i64)))), (leafR r 4).dat (.sl (.int .i64)), (leafR r 5).dat (.sl (.sl (.int .i64))))
noncomputable def impl_Part_own (v0 : Int) (v1 : Int) (v2 : Int) (v3 : List (Int × Int × Int)) (v4 : List Int) (v5 : List (List Int)) : Option (Int × Int × Int × (List (Int × Int × Int)) × (List Int) × (List (List Int))) := tOf impl_Part_own.mk (vlim E 20 (impl_Part_own.c v0 v1 v2 v3 v4 v5))
def xs0g.c (v0 : List (Int × Int × Int)) : List Cell := vc (.d .fro (.sl (.pair (.int .i64) (.pair (.int .i64) (.int .i64)))) v0) :: []
def xs0g.mk (b : (List (Int × Int × Int))) : R := (⟨.one, [.d .deep (.sl (.pair (.int .i64) (.pair (.int .i64) (.int .i64)))) b]⟩, nn 1 ([]))
def xs0g.un (r : R) : (List (Int × Int × Int)) := ((leafR r 0).dat (.sl (.pair (.int .i64) (.pair (.int .i64) (.int .i64)))))
noncomputable def xs0g (v0 : List (Int × Int × Int)) : Option ((List (Int × Int × Int))) := tOf xs0g.mk (vlim E 37 (xs0g.c v0))
def laws_eqView.c (v0 : List Int) (v1 : List (Int × Int × Int × List (Int × Int × Int) × List Int × List (List Int))) (v2 : List Int) (v3 : List (Int × Int × Int × List (Int × Int × Int) × List Int × List (List Int))) : List Cell := ac [.d .fro (.sl (.int .i64)) v0, .d .fro (.sl (.pair (.int .i64) (.pair (.int .i64) (.pair (.int .i64) (.pair (.sl (.pair (.int .i64) (.pair (.int .i64) (.int .i64)))) (.pair (.sl (.int .i64)) (.sl (.sl (.int .i64))))))))) v1] :: ac [.d .fro (.sl (.int .i64)) v2, .d .fro (.sl (.pair (.int .i64) (.pair (.int .i64) (.pair (.int .i64) (.pair (.sl (.pair (.int .i64) (.pair (.int .i64) (.int .i64)))) (.pair (.sl (.int .i64)) (.sl (.sl (.int .i64))))))))) v3] :: []
def laws_eqView.mk (b : Bool) : R := (⟨.one, [bL b]⟩, nn 2 ([]))
def laws_eqView.un (r : R) : Bool := ((leafR r 0).dat .bool)
noncomputable def laws_eqView (v0 : List Int) (v1 : List (Int × Int × Int × List (Int × Int × Int) × List Int × List (List Int))) (v2 : List Int) (v3 : List (Int × Int × Int × List (Int × Int × Int) × List Int × List (List Int))) : Option (Bool) := tOf laws_eqView.mk (vlim E 8 (laws_eqView.c v0 v1 v2 v3))
def laws_eqIntS.c (v0 : List Int) (v1 : List Int) : List Cell := vc (.d .fro (.sl (.int .i64)) v0) :: vc (.d .fro (.sl (.int .i64)) v1) :: []
def laws_eqIntS.mk (b : Bool) : R := (⟨.one, [bL b]⟩, nn 2 ([]))
def laws_eqIntS.un (r : R) : Bool := ((leafR r 0).dat .bool)
noncomputable def laws_eqIntS (v0 : List Int) (v1 : List Int) : Option (Bool) := tOf laws_eqIntS.mk (vlim E 21 (laws_eqIntS.c v0 v1))
def laws_eqPartS.c (v0 : List (Int × Int × Int × List (Int × Int × Int) × List Int × List (List Int))) (v1 : List (Int × Int × Int × List (Int × Int × Int) × List Int × List (List Int))) : List Cell := vc (.d .fro (.sl (.pair (.int .i64) (.pair (.int .i64) (.pair (.int .i64) (.pair (.sl (.pair (.int .i64) (.pair (.int .i64) (.int .i64)))) (.pair (.sl (.int .i64)) (.sl (.sl (.int .i64))))))))) v0) :: vc (.d .fro (.sl (.pair (.int .i64) (.pair (.int .i64) (.pair (.int .i64) (.pair (.sl (.pair (.int .i64) (.pair (.int .i64) (.int .i64)))) (.pair (.sl (.int .i64)) (.sl (.sl (.int .i64))))))))) v1) :: []
def laws_eqPartS.mk (b : Bool) : R := (⟨.one, [bL b]⟩, nn 2 ([]))
def laws_eqPartS.un (r : R) : Bool := ((leafR r 0).dat .bool)
noncomputable def laws_eqPartS (v0 : List (Int × Int × Int × List (Int × Int × Int) × List Int × List (List Int))) (v1 : List (Int × Int × Int × List (Int × Int × Int) × List Int × List (List Int))) : Option (Bool) := tOf laws_eqPartS.mk (vlim E 22 (laws_eqPartS.c v0 v1))
def laws_eqPart.c (v0 : Int) (v1 : Int) (v2 : Int) (v3 : List (Int × Int × Int)) (v4 : List Int) (v5 : List (List Int)) (v6 : Int) (v7 : Int) (v8 : Int) (v9 : List (Int × Int × Int)) (v10 : List Int) (v11 : List (List Int)) : List Cell := ac [iL v0, iL v1, iL v2, .d .fro (.sl (.pair (.int .i64) (.pair (.int .i64) (.int .i64)))) v3, .d .fro (.sl (.int .i64)) v4, .d .fro (.sl (.sl (.int .i64))) v5] :: ac [iL v6, iL v7, iL v8, .d .fro (.sl (.pair (.int .i64) (.pair (.int .i64) (.int .i64)))) v9, .d .fro (.sl (.int .i64)) v10, .d .fro (.sl (.sl (.int .i64))) v11] :: []
def laws_eqPart.mk (b : Bool) : R := (⟨.one, [bL b]⟩, nn 2 ([]))
def laws_eqPart.un (r : R) : Bool := ((leafR r 0).dat .bool)
noncomputable def laws_eqPart (v0 : Int) (v1 : Int) (v2 : Int) (v3 : List (Int × Int × Int)) (v4 : List Int) (v5 : List (List Int)) (v6 : Int) (v7 : Int) (v8 : Int) (v9 : List (Int × Int × Int)) (v10 : List Int) (v11 : List (List Int)) : Option (Bool) := tOf laws_eqPart.mk (vlim E 38 (laws_eqPart.c v0 v1 v2 v3 v4 v5 v6 v7 v8 v9 v10 v11))
def laws_eqTestS.c (v0 : List (Int × Int × Int)) (v1 : List (Int × Int × Int)) : List Cell := vc (.d .fro (.sl (.pair (.int .i64) (.pair (.int .i64) (.int .i64)))) v0) :: vc (.d .fro (.sl (.pair (.int .i64) (.pair (.int .i64) (.int .i64)))) v1) :: []
def laws_eqTestS.mk (b : Bool) : R := (⟨.one, [bL b]⟩, nn 2 ([]))
def laws_eqTestS.un (r : R) : Bool := ((leafR r 0).dat .bool)
noncomputable def laws_eqTestS (v0 : List (Int × Int × Int)) (v1 : List (Int × Int × Int)) : Option (Bool) := tOf laws_eqTestS.mk (vlim E 57 (laws_eqTestS.c v0 v1))
def laws_eqTest.c (v0 : Int) (v1 : Int) (v2 : Int) (v3 : Int) (v4 : Int) (v5 : Int) : List Cell := ac [iL v0, iL v1, iL v2] :: ac [iL v3, iL v4, iL v5] :: []
def laws_eqTest.mk (b : Bool) : R := (⟨.one, [bL b]⟩, nn 2 ([]))
def laws_eqTest.un (r : R) : Bool := ((leafR r 0).dat .bool)
noncomputable def laws_eqTest (v0 : Int) (v1 : Int) (v2 : Int) (v3 : Int) (v4 : Int) (v5 : Int) : Option (Bool) := tOf laws_eqTest.mk (vlim E 69 (laws_eqTest.c v0 v1 v2 v3 v4 v5))
def laws_eqIntSS.c (v0 : List (List Int)) (v1 : List (List Int)) : List Cell := vc (.d .fro (.sl (.sl (.int .i64))) v0) :: vc (.d .fro (.sl (.sl (.int .i64))) v1) :: []
def laws_eqIntSS.mk (b : Bool) : R := (⟨.one, [bL b]⟩, nn 2 ([]))
def laws_eqIntSS.un (r : R) : Bool := ((leafR r 0).dat .bool)
noncomputable def laws_eqIntSS (v0 : List (List Int)) (v1 : List (List Int)) : Option (Bool) := tOf laws_eqIntSS.mk (vlim E 58 (laws_eqIntSS.c v0 v1))
def laws_markView_311.c (v0 : List Int) (v1 : List (Int × Int × Int × List (Int × Int × Int) × List Int × List (List Int))) (v2 : Int) : List Cell := ⟨(.val .agg), [.d .deep (.sl (.int .i64)) v0, .d .deep (.sl (.pair (.int .i64) (.pair (.int .i64) (.pair (.int .i64) (.pair (.sl (.pair (.int .i64) (.pair (.int .i64) (.int .i64)))) (.pair (.sl (.int .i64)) (.sl (.sl (.int .i64))))))))) v1], true, false, false, 0, 0⟩ :: vc (iL v2) :: []
def laws_markView_311.mk (b : Int × (List Int) × (List (Int × Int × Int × List (Int × Int × Int) × List Int × List (List Int)))) : R := (⟨.one, [iL b.1]⟩, ⟨(.val .agg), [.d .deep (.sl (.int .i64)) b.2.1, .d .deep (.sl (.pair (.int .i64) (.pair (.int .i64) (.pair (.int .i64) (.pair (.sl (.pair (.int .i64) (.pair (.int .i64) (.int .i64)))) (.pair (.sl (.int .i64)) (.sl (.sl (.int .i64))))))))) b.2.2], true, false, false, 0, 0⟩ :: nn 1 ([]))
def laws_markView_311.un (r : R) : Int × (List Int) × (List (Int × Int × Int × List (Int × Int × Int) × List Int × List (List Int))) := ((leafR r 0).dat (.int .i64), (leafF r 0 0).dat (.sl (.int .i64)), (leafF r 0 1).dat (.sl (.pair (.int .i64) (.pair (.int .i64) (.pair (.int .i64) (.pair (.sl (.pair (.int .i64) (.pair (.int .i64) (.int .i64)))) (.pair (.sl (.int .i64)) (.sl (.sl (.int .i64))))))))))
noncomputable def laws_markView_311 (v0 : List Int) (v1 : List (Int × Int × Int × List (Int × Int × Int) × List Int × List (List Int))) (v2 : Int) : Option (Int × (List Int) × (List (Int × Int × Int × List (Int × Int × Int) × List Int × List (List Int)))) := tOf laws_markView_311.mk (vlim E 9 (laws_markView_311.c v0 v1 v2))
def laws_markIntS_83f.c (v0 : List Int) (v1 : Int) : List Cell := ⟨(.val .one), [.d .deep (.sl (.int .i64)) v0], true, false, false, 0, 0⟩ :: vc (iL v1) :: []
def laws_markIntS_83f.mk (b : Int × (List Int)) : R := (⟨.one, [iL b.1]⟩, ⟨(.val .one), [.d .deep (.sl (.int .i64)) b.2], true, false, false, 0, 0⟩ :: nn 1 ([]))
def laws_markIntS_83f.un (r : R) : Int × (List Int) := ((leafR r 0).dat (.int .i64), (leafF r 0 0).dat (.sl (.int .i64)))
noncomputable def laws_markIntS_83f (v0 : List Int) (v1 : Int) : Option (Int × (List Int)) := tOf laws_markIntS_83f.mk (vlim E 23 (laws_markIntS_83f.c v0 v1))
def laws_markPartS_6b8.c (v0 : List (Int × Int × Int × List (Int × Int × Int) × List Int × List (List Int))) (v1 : Int) : List Cell := ⟨(.val .one), [.d .deep (.sl (.pair (.int .i64) (.pair (.int .i64) (.pair (.int .i64) (.pair (.sl (.pair (.int .i64) (.pair (.int .i64) (.int .i64)))) (.pair (.sl (.int .i64)) (.sl (.sl (.int .i64))))))))) v0], true, false, false, 0, 0⟩ :: vc (iL v1) :: []
def laws_markPartS_6b8.mk (b : Int × (List (Int × Int × Int × List (Int × Int × Int) × List Int × List (List Int)))) : R := (⟨.one, [iL b.1]⟩, ⟨(.val .one), [.d .deep (.sl (.pair (.int .i64) (.pair (.int .i64) (.pair (.int .i64) (.pair (.sl (.pair (.int .i64) (.pair (.int .i64) (.int .i64)))) (.pair (.sl (.int .i64)) (.sl (.sl (.int .i64))))))))) b.2], true, false, false, 0, 0⟩ :: nn 1 ([]))
def laws_markPartS_6b8.un (r : R) : Int × (List (Int × Int × Int × List (Int × Int × Int) × List Int × List (List Int))) := ((leafR r 0).dat (.int .i64), (leafF r 0 0).dat (.sl (.pair (.int .i64) (.pair (.int .i64) (.pair (.int .i64) (.pair (.sl (.pair (.int .i64) (.pair (.int .i64) (.int .i64)))) (.pair (.sl (.int .i64)) (.sl (.sl (.int .i64))))))))))
noncomputable def laws_markPartS_6b8 (v0 : List (Int × Int × Int × List (Int × Int × Int) × List Int × List (List Int))) (v1 : Int) : Option (Int × (List (Int × Int × Int × List (Int × Int × Int) × List Int × List (List Int)))) := tOf laws_markPartS_6b8.mk (vlim E 24 (laws_markPartS_6b8.c v0 v1))
def laws_markTestS_5b1.c (v0 : List (Int × Int × Int)) (v1 : Int) : List Cell := ⟨(.val .one), [.d .deep (.sl (.pair (.int .i64) (.pair (.int .i64) (.int .i64)))) v0], true, false, false, 0, 0⟩ :: vc (iL v1) :: []
def laws_markTestS_5b1.mk (b : Int × (List (Int × Int × Int))) : R := (⟨.one, [iL b.1]⟩, ⟨(.val .one), [.d .deep (.sl (.pair (.int .i64) (.pair (.int .i64) (.int .i64)))) b.2], true, false, false, 0, 0⟩ :: nn 1 ([]))
def laws_markTestS_5b1.un (r : R) : Int × (List (Int × Int × Int)) := ((leafR r 0).dat (.int .i64), (leafF r 0 0).dat (.sl (.pair (.int .i64) (.pair (.int .i64) (.int .i64)))))
noncomputable def laws_markTestS_5b1 (v0 : List (Int × Int × Int)) (v1 : Int) : Option (Int × (List (Int × Int × Int))) := tOf laws_markTestS_5b1.mk (vlim E 39 (laws_markTestS_5b1.c v0 v1))
def laws_markIntSS_1f6.c (v0 : List (List Int)) (v1 : Int) : List Cell := ⟨(.val .one), [.d .deep (.sl (.sl (.int .i64))) v0], true, false, false, 0, 0⟩ :: vc (iL v1) :: []
def laws_markIntSS_1f6.mk (b : Int × (List (List Int))) : R := (⟨.one, [iL b.1]⟩, ⟨(.val .one), [.d .deep (.sl (.sl (.int .i64))) b.2], true, false, false, 0, 0⟩ :: nn 1 ([]))
def laws_markIntSS_1f6.un (r : R) : Int × (List (List Int)) := ((leafR r 0).dat (.int .i64), (leafF r 0 0).dat (.sl (.sl (.int .i64))))
noncomputable def laws_markIntSS_1f6 (v0 : List (List Int)) (v1 : Int) : Option (Int × (List (List Int))) := tOf laws_markIntSS_1f6.mk (vlim E 40 (laws_markIntSS_1f6.c v0 v1))
def laws_heldView.c (v0 : List Int) (v1 : List (Int × Int × Int × List (Int × Int × Int) × List Int × List (List Int))) (v2 : Int) : List Cell := ac [.d .fro (.sl (.int .i64)) v0, .d .fro (.sl (.pair (.int .i64) (.pair (.int .i64) (.pair (.int .i64) (.pair (.sl (.pair (.int .i64) (.pair (.int .i64) (.int .i64)))) (.pair (.sl (.int .i64)) (.sl (.sl (.int .i64))))))))) v1] :: vc (iL v2) :: []
def laws_heldView.mk (b : Int) : R := (⟨.one, [iL b]⟩, nn 2 ([]))
def laws_heldView.un (r : R) : Int := ((leafR r 0).dat (.int .i64))
noncomputable def laws_heldView (v0 : List Int) (v1 : List (Int × Int × Int × List (Int × Int × Int) × List Int × List (List Int))) (v2 : Int) : Option (Int) := tOf laws_heldView.mk (vlim E 10 (laws_heldView.c v0 v1 v2))
def laws_heldIntS.c (v0 : List Int) (v1 : Int) : List Cell := vc (.d .fro (.sl (.int .i64)) v0) :: vc (iL v1) :: []
def laws_heldIntS.mk (b : Int) : R := (⟨.one, [iL b]⟩, nn 2 ([]))
def laws_heldIntS.un (r : R) : Int := ((leafR r 0).dat (.int .i64))
noncomputable def laws_heldIntS (v0 : List Int) (v1 : Int) : Option (Int) := tOf laws_heldIntS.mk (vlim E 25 (laws_heldIntS.c v0 v1))
def laws_heldPartS.c (v0 : List (Int × Int × Int × List (Int × Int × Int) × List Int × List (List Int))) (v1 : Int) : List Cell := vc (.d .fro (.sl (.pair (.int .i64) (.pair (.int .i64) (.pair (.int .i64) (.pair (.sl (.pair (.int .i64) (.pair (.int .i64) (.int .i64)))) (.pair (.sl (.int .i64)) (.sl (.sl (.int .i64))))))))) v0) :: vc (iL v1) :: []
def laws_heldPartS.mk (b : Int) : R := (⟨.one, [iL b]⟩, nn 2 ([]))
def laws_heldPartS.un (r : R) : Int := ((leafR r 0).dat (.int .i64))
noncomputable def laws_heldPartS (v0 : List (Int × Int × Int × List (Int × Int × Int) × List Int × List (List Int))) (v1 : Int) : Option (Int) := tOf laws_heldPartS.mk (vlim E 26 (laws_heldPartS.c v0 v1))
def laws_heldTestS.c (v0 : List (Int × Int × Int)) (v1 : Int) : List Cell := vc (.d .fro (.sl (.pair (.int .i64) (.pair (.int .i64) (.int .i64)))) v0) :: vc (iL v1) :: []
def laws_heldTestS.mk (b : Int) : R := (⟨.one, [iL b]⟩, nn 2 ([]))
def laws_heldTestS.un (r : R) : Int := ((leafR r 0).dat (.int .i64))
noncomputable def laws_heldTestS (v0 : List (Int × Int × Int)) (v1 : Int) : Option (Int) := tOf laws_heldTestS.mk (vlim E 41 (laws_heldTestS.c v0 v1))
def laws_heldIntSS.c (v0 : List (List Int)) (v1 : Int) : List Cell := vc (.d .fro (.sl (.sl (.int .i64))) v0) :: vc (iL v1) :: []
def laws_heldIntSS.mk (b : Int) : R := (⟨.one, [iL b]⟩, nn 2 ([]))
def laws_heldIntSS.un (r : R) : Int := ((leafR r 0).dat (.int .i64))
noncomputable def laws_heldIntSS (v0 : List (List Int)) (v1 : Int) : Option (Int) := tOf laws_heldIntSS.mk (vlim E 42 (laws_heldIntSS.c v0 v1))
def tabT : List (Nat × List (List Cell × Tb)) := [
 (3, [(xl0j.c [] [], .one (Bool) xl0j.mk)]),
 (4, [(laws_szView.c [] [] 0, .one (Int) laws_szView.mk)]),
 (5, [(spec_PushDown.c [] [], .one ((List Int) × (List (Int × Int × Int × List (Int × Int × Int) × List Int × List (List Int))) × Bool) spec_PushDown.mk)]),
 (6, [(laws_toView.c [] [], .one ((List Int) × (List (Int × Int × Int × List (Int × Int × Int) × List Int × List (List Int)))) laws_toView.mk)]),
 (7, [(impl_PushDown.c [] [], .one ((List Int) × (List (Int × Int × Int × List (Int × Int × Int) × List Int × List (List Int))) × Bool) impl_PushDown.mk)]),
 (8, [(laws_eqView.c [] [] [] [], .one (Bool) laws_eqView.mk)]),
 (9, [(laws_markView_311.c [] [] 0, .one (Int × (List Int) × (List (Int × Int × Int × List (Int × Int × Int) × List Int × List (List Int)))) laws_markView_311.mk)]),
 (10, [(laws_heldView.c [] [] 0, .one (Int) laws_heldView.mk)]),
 (11, [(laws_szIntS.c [] 0, .one (Int) laws_szIntS.mk)]),
 (12, [(laws_szPartS.c [] 0, .one (Int) laws_szPartS.mk)]),
 (13, [(spec_l6Check.c [] [], .one ((List Int) × Bool) spec_l6Check.mk)]),
 (14, [(spec_l6Own.c [] [], .one ((List Int) × (List (Int × Int × Int × List (Int × Int × Int) × List Int × List (List Int)))) spec_l6Own.mk)]),
 (15, [(spec_l6OwnPart.c 0 0 0 [] [] [], .one (Int × Int × Int × (List (Int × Int × Int)) × (List Int) × (List (List Int))) spec_l6OwnPart.mk)]),
 (16, [(laws_toIntS.c [], .one ((List Int)) laws_toIntS.mk)]),
 (17, [(laws_toPartS.c [], .one ((List (Int × Int × Int × List (Int × Int × Int) × List Int × List (List Int)))) laws_toPartS.mk)]),
 (18, [(impl_CheckView.c [] [], .one ((List Int) × Bool) impl_CheckView.mk)]),
 (19, [(impl_View_own.c [] [], .one ((List Int) × (List (Int × Int × Int × List (Int × Int × Int) × List Int × List (List Int)))) impl_View_own.mk)]),
 (20, [(impl_Part_own.c 0 0 0 [] [] [], .one (Int × Int × Int × (List (Int × Int × Int)) × (List Int) × (List (List Int))) impl_Part_own.mk)]),
 (21, [(laws_eqIntS.c [] [], .one (Bool) laws_eqIntS.mk)]),
 (22, [(laws_eqPartS.c [] [], .one (Bool) laws_eqPartS.mk)]),
 (23, [(laws_markIntS_83f.c [] 0, .one (Int × (List Int)) laws_markIntS_83f.mk)]),
 (24, [(laws_markPartS_6b8.c [] 0, .one (Int × (List (Int × Int × Int × List (Int × Int × Int) × List Int × List (List Int)))) laws_markPartS_6b8.mk)]),
 (25, [(laws_heldIntS.c [] 0, .one (Int) laws_heldIntS.mk)]),
 (26, [(laws_heldPartS.c [] 0, .one (Int) laws_heldPartS.mk)]),
 (27, [(laws_szPart.c 0 0 0 [] [] [] 0, .one (Int) laws_szPart.mk)]),
 (28, [(spec_l1In.c 0 0 0, .one (Bool) spec_l1In.mk)]),
 (29, [(spec_l6Columns.c 0 0 0 [] [] [] [], .one (Int × Bool) spec_l6Columns.mk)]),
 (30, [(laws_toPart.c 0 0 0 [] [] [], .one (Int × Int × Int × (List (Int × Int × Int)) × (List Int) × (List (List Int))) laws_toPart.mk)]),
 (31, [(impl_within.c 0 0 0, .one (Bool) impl_within.mk)]),
 (32, [(xi0i.c [], .one (Bool) xi0i.mk), (xi0e.c [] 0, .one (Bool) xi0e.mk)]),
 (33, [(impl_isColumns.c 0, .one (Bool) impl_isColumns.mk)]),
 (34, [(xi0l.c [] [] 0 0 0 [] [] [] [], .one (Int × Bool) xi0l.mk)]),
 (35, [(impl_Part_uses.c 0 0 0 [] [] [], .one (Bool) impl_Part_uses.mk)]),
 (36, [(xs0k.c [], .one ((List Int)) xs0k.mk)]),
 (37, [(xs0g.c [], .one ((List (Int × Int × Int))) xs0g.mk)]),
 (38, [(laws_eqPart.c 0 0 0 [] [] [] 0 0 0 [] [] [], .one (Bool) laws_eqPart.mk)]),
 (39, [(laws_markTestS_5b1.c [] 0, .one (Int × (List (Int × Int × Int))) laws_markTestS_5b1.mk)]),
 (40, [(laws_markIntSS_1f6.c [] 0, .one (Int × (List (List Int))) laws_markIntSS_1f6.mk)]),
 (41, [(laws_heldTestS.c [] 0, .one (Int) laws_heldTestS.mk)]),
 (42, [(laws_heldIntSS.c [] 0, .one (Int) laws_heldIntSS.mk)]),
 (43, [(laws_szTestS.c [] 0, .one (Int) laws_szTestS.mk)]),
 (44, [(laws_szIntSS.c [] 0, .one (Int) laws_szIntSS.mk)]),
 (45, [(spec_GoodTests.c [] 0, .one (Bool) spec_GoodTests.mk)]),
 (46, [(spec_l1Columns.c [] 0, .one (Bool) spec_l1Columns.mk)]),
 (47, [(spec_l1Pairs.c [] 0 0, .one (Bool) spec_l1Pairs.mk)]),
 (48, [(spec_l3Left.c [] 0, .one (Int) spec_l3Left.mk)]),
 (49, [(laws_toTestS.c [], .one ((List (Int × Int × Int))) laws_toTestS.mk)]),
 (50, [(laws_toIntSS.c [], .one ((List (List Int))) laws_toIntSS.mk)]),
 (51, [(xs04.c [], .one (Bool) xs04.mk), (xs02.c [] 0, .one (Bool) xs02.mk)]),
 (52, [(xi0f.c 0, .one (Bool) xi0f.mk), (xi0c.c 0 0, .one (Bool) xi0c.mk)]),
 (53, [(impl_GoodTests.c [] 0, .one (Bool) impl_GoodTests.mk)]),
 (54, [(impl_areColumns.c [] 0, .one (Bool) impl_areColumns.mk)]),
 (55, [(impl_arePairs.c [] 0 0, .one (Bool) impl_arePairs.mk)]),
 (56, [(impl_joinedColumns.c 0 0 [], .one (Int) impl_joinedColumns.mk)]),
 (57, [(laws_eqTestS.c [] [], .one (Bool) laws_eqTestS.mk)]),
 (58, [(laws_eqIntSS.c [] [], .one (Bool) laws_eqIntSS.mk)]),
 (59, [(laws_toTest.c 0 0 0, .one (Int × Int × Int) laws_toTest.mk)]),
 (60, [(xs07.c [], .one (Int) xs07.mk), (xs05.c [] 0, .one (Int) xs05.mk)]),
 (61, [(xi0b.c [] 0, .one (Bool) xi0b.mk)]),
 (62, [(impl_GoodTests_1.c 0 0 0 0, .one (Bool) impl_GoodTests_1.mk)]),
 (63, [(impl_isPlace.c 0 0, .one (Bool) impl_isPlace.mk)]),
 (64, [(impl_isCell.c 0, .one (Bool) impl_isCell.mk)]),
 (65, [(impl_areColumns_1.c 0 0, .one (Bool) impl_areColumns_1.mk)]),
 (66, [(xi0h.c [] 0 0, .one (Bool) xi0h.mk)]),
 (67, [(impl_arePairs_1.c [] 0 0, .one (Bool) impl_arePairs_1.mk)]),
 (68, [(impl_unpaired.c 0 [], .one ((List Int)) impl_unpaired.mk)]),
 (69, [(laws_eqTest.c 0 0 0 0 0 0, .one (Bool) laws_eqTest.mk)]),
 (70, [(xs00.c [] 0, .one (Bool) xs00.mk)]),
 (71, [(xi09.c 0 0 0 0, .one (Bool) xi09.mk)]),
 (72, [(xs03.c [] 0 0, .one (Bool) xs03.mk), (xs08.c [] 0, .one (Bool) xs08.mk)]),
 (73, [(xi0d.c [] 0 0, .one (Bool) xi0d.mk)]),
 (74, [(impl_unpaired_1.c [] 0, .one (Bool) impl_unpaired_1.mk)]),
 (75, [(xs01.c [] 0, .one (Int) xs01.mk)]),
 (76, [(xs06.c [] 0 0, .one (Int) xs06.mk), (xs0a.c [] 0, .one (Int) xs0a.mk)])]
def tab : FuncId → List Cell → Tb := fun g cs => match assoc tabT g with | some l => pickT l cs | none => .no
end GoV

/- Equations of the program's functions (printed by wip/tools/emit.py). -/
namespace GoV
open Go Go.Proofs
set_option maxRecDepth 100000

noncomputable def xl0j.t {γ : Type} (ret : (Bool) → Option γ) (v0 : List Int) (v1 : List (Int × Int × Int × List (Int × Int × Int) × List Int × List (List Int))) : Option γ :=
 (laws_szView (v0) (v1) ((1048576 : Int))).bind fun (r0 : Int) =>
 bif decide (r0 < (0 : Int)) then
  ret (Bool.true)
 else
  (laws_toView (v0) (v1)).bind fun (r1 : (List Int) × (List (Int × Int × Int × List (Int × Int × Int) × List Int × List (List Int)))) =>
  (spec_PushDown (r1.fst) (r1.snd)).bind fun (r2 : (List Int) × (List (Int × Int × Int × List (Int × Int × Int) × List Int × List (List Int))) × Bool) =>
  (laws_toView (v0) (v1)).bind fun (r3 : (List Int) × (List (Int × Int × Int × List (Int × Int × Int) × List Int × List (List Int)))) =>
  (impl_PushDown (r3.fst) (r3.snd)).bind fun (r4 : (List Int) × (List (Int × Int × Int × List (Int × Int × Int) × List Int × List (List Int))) × Bool) =>
  (laws_eqView (r4.fst) (r4.snd.fst) (r2.fst) (r2.snd.fst)).bind fun (r5 : Bool) =>
  bif !r5 then
   ret (Bool.false)
  else
   bif !r4.snd.snd == r2.snd.snd then
    ret (Bool.false)
   else
    (laws_toView (v0) (v1)).bind fun (r6 : (List Int) × (List (Int × Int × Int × List (Int × Int × Int) × List Int × List (List Int)))) =>
    (laws_eqView (r3.fst) (r3.snd) (r6.fst) (r6.snd)).bind fun (r7 : Bool) =>
    bif !r7 then
     ret (Bool.false)
    else
     (laws_markView_311 (r3.fst) (r3.snd) ((1 : Int))).bind fun (r8 : Int × (List Int) × (List (Int × Int × Int × List (Int × Int × Int) × List Int × List (List Int)))) =>
     bif decide (r8.fst < (0 : Int)) then
      ret (Bool.false)
     else
      (laws_eqView (r4.fst) (r4.snd.fst) (r2.fst) (r2.snd.fst)).bind fun (r9 : Bool) =>
      bif !r9 then
       ret (Bool.false)
      else
       bif !r4.snd.snd == r2.snd.snd then
        ret (Bool.false)
       else
        (laws_markView_311 (r4.fst) (r4.snd.fst) ((1 : Int))).bind fun (r10 : Int × (List Int) × (List (Int × Int × Int × List (Int × Int × Int) × List Int × List (List Int)))) =>
        (laws_heldView (r10.snd.fst) (r10.snd.snd) ((1 : Int))).bind fun (r11 : Int) =>
        bif decide (r11 < (0 : Int)) then
         ret (Bool.false)
        else
         bif r11 != r10.fst then
          ret (Bool.false)
         else
          (laws_toView (v0) (v1)).bind fun (r12 : (List Int) × (List (Int × Int × Int × List (Int × Int × Int) × List Int × List (List Int)))) =>
          (impl_PushDown (r12.fst) (r12.snd)).bind fun (r13 : (List Int) × (List (Int × Int × Int × List (Int × Int × Int) × List Int × List (List Int))) × Bool) =>
          (laws_eqView (r13.fst) (r13.snd.fst) (r2.fst) (r2.snd.fst)).bind fun (r14 : Bool) =>
          bif !r14 then
           ret (Bool.false)
          else
           bif !r13.snd.snd == r2.snd.snd then
            ret (Bool.false)
           else
            (laws_heldView (r10.snd.fst) (r10.snd.snd) ((1 : Int))).bind fun (r15 : Int) =>
            bif decide (r15 < (0 : Int)) then
             ret (Bool.false)
            else
             bif r15 != r10.fst then
              ret (Bool.false)
             else
              ret (Bool.true)
theorem xl0j.k (v0 : List Int) (v1 : List (Int × Int × Int × List (Int × Int × Int) × List Int × List (List Int))) : topL E (callT E tab) 3 Try.f3 (xl0j.c v0 v1) = xl0j.t (fun b => some (xl0j.mk b)) v0 v1 := by kernel_rfl
theorem xl0j.eq (v0 : List Int) (v1 : List (Int × Int × Int × List (Int × Int × Int) × List Int × List (List Int))) {b : Bool} (h : xl0j.t some v0 v1 = some b) : xl0j v0 v1 = some b := tOf_intro xl0j.un (fun _ => by kernel_rfl) (vlim_fn (callT_le E tab) rfl rfl rfl ((xl0j.k v0 v1).trans ((by unfold xl0j.t; repeat' first | exact Sub.ret | exact Sub.none | exact Sub.loop | apply Sub.cond | (apply Sub.bind; intro _) : Sub xl0j.mk _ _) b h)))
noncomputable def laws_szView.t {γ : Type} (ret : (Int) → Option γ) (v0 : List Int) (v1 : List (Int × Int × Int × List (Int × Int × Int) × List Int × List (List Int))) (v2 : Int) : Option γ :=
 (laws_szIntS (v0) (v2)).bind fun (r0 : Int) =>
 bif decide (r0 < (0 : Int)) then
  ret ((-1 : Int))
 else
  (laws_szPartS (v1) (r0)).bind fun (r1 : Int) =>
  bif decide (r1 < (0 : Int)) then
   ret ((-1 : Int))
  else
   ret (r1)
theorem laws_szView.k (v0 : List Int) (v1 : List (Int × Int × Int × List (Int × Int × Int) × List Int × List (List Int))) (v2 : Int) : topL E (callT E tab) 4 Try.f4 (laws_szView.c v0 v1 v2) = laws_szView.t (fun b => some (laws_szView.mk b)) v0 v1 v2 := by kernel_rfl
theorem laws_szView.eq (v0 : List Int) (v1 : List (Int × Int × Int × List (Int × Int × Int) × List Int × List (List Int))) (v2 : Int) {b : Int} (h : laws_szView.t some v0 v1 v2 = some b) : laws_szView v0 v1 v2 = some b := tOf_intro laws_szView.un (fun _ => by kernel_rfl) (vlim_fn (callT_le E tab) rfl rfl rfl ((laws_szView.k v0 v1 v2).trans ((by unfold laws_szView.t; repeat' first | exact Sub.ret | exact Sub.none | exact Sub.loop | apply Sub.cond | (apply Sub.bind; intro _) : Sub laws_szView.mk _ _) b h)))
noncomputable def laws_szIntS.t {γ : Type} (ret : (Int) → Option γ) (v0 : List Int) (v1 : Int) : Option γ :=
 bif decide (IntKind.i64.wrap (v1 - (↑v0.length : Int)) < (0 : Int)) then
  ret ((-1 : Int))
 else
  ret (IntKind.i64.wrap (v1 - (↑v0.length : Int)))
theorem laws_szIntS.k (v0 : List Int) (v1 : Int) : topL E (callT E tab) 11 Try.f11 (laws_szIntS.c v0 v1) = laws_szIntS.t (fun b => some (laws_szIntS.mk b)) v0 v1 := by kernel_rfl
theorem laws_szIntS.eq (v0 : List Int) (v1 : Int) {b : Int} (h : laws_szIntS.t some v0 v1 = some b) : laws_szIntS v0 v1 = some b := tOf_intro laws_szIntS.un (fun _ => by kernel_rfl) (vlim_fn (callT_le E tab) rfl rfl rfl ((laws_szIntS.k v0 v1).trans ((by unfold laws_szIntS.t; repeat' first | exact Sub.ret | exact Sub.none | exact Sub.loop | apply Sub.cond | (apply Sub.bind; intro _) : Sub laws_szIntS.mk _ _) b h)))
noncomputable def laws_szPartS.q5 (v0 : List (Int × Int × Int × List (Int × Int × Int) × List Int × List (List Int))) (v1 : Int) (v2 : Int) : Option R := loopAtL E (callT E tab) 12 Try.f12 2 [.r, .r, .r, .l, .r, .b] (vc (.d .fro (.sl (.pair (.int .i64) (.pair (.int .i64) (.pair (.int .i64) (.pair (.sl (.pair (.int .i64) (.pair (.int .i64) (.int .i64)))) (.pair (.sl (.int .i64)) (.sl (.sl (.int .i64))))))))) v0) :: vc (iL v1) :: nn 3 (vc (iL v2) :: nn 21 ([])))
noncomputable def laws_szPartS.l5 (v0 : List (Int × Int × Int × List (Int × Int × Int) × List Int × List (List Int))) (v1 : Int) (v2 : Int) : Option (Int) := tOf laws_szPartS.mk (laws_szPartS.q5 v0 v1 v2)
noncomputable def laws_szPartS.t {γ : Type} (ret : (Int) → Option γ) (lp5 : (List (Int × Int × Int × List (Int × Int × Int) × List Int × List (List Int))) → Int → Int → Option γ) (v0 : List (Int × Int × Int × List (Int × Int × Int) × List Int × List (List Int))) (v1 : Int) : Option γ :=
 bif decide (IntKind.i64.wrap (v1 - (↑v0.length : Int)) < (0 : Int)) then
  ret ((-1 : Int))
 else
  lp5 (v0) (IntKind.i64.wrap (v1 - (↑v0.length : Int))) ((0 : Int))
noncomputable def laws_szPartS.t5 {γ : Type} (ret : (Int) → Option γ) (lp5 : (List (Int × Int × Int × List (Int × Int × Int) × List Int × List (List Int))) → Int → Int → Option γ) (v0 : List (Int × Int × Int × List (Int × Int × Int) × List Int × List (List Int))) (v1 : Int) (v2 : Int) : Option γ :=
 bif decide (v2 < (↑v0.length : Int)) then
  bif decide ((0 : Int) ≤ v2) then
   bif decide (v2.toNat < v0.length) then
    (laws_szPart ((v0.getD v2.toNat ((0 : Int), (0 : Int), (0 : Int), [], [], [])).fst) ((v0.getD v2.toNat ((0 : Int), (0 : Int), (0 : Int), [], [], [])).snd.fst) ((v0.getD v2.toNat ((0 : Int), (0 : Int), (0 : Int), [], [], [])).snd.snd.fst) ((v0.getD v2.toNat ((0 : Int), (0 : Int), (0 : Int), [], [], [])).snd.snd.snd.fst) ((v0.getD v2.toNat ((0 : Int), (0 : Int), (0 : Int), [], [], [])).snd.snd.snd.snd.fst) ((v0.getD v2.toNat ((0 : Int), (0 : Int), (0 : Int), [], [], [])).snd.snd.snd.snd.snd) (v1)).bind fun (r0 : Int) =>
    bif decide (r0 < (0 : Int)) then
     ret ((-1 : Int))
    else
     lp5 (v0) (r0) (IntKind.i64.wrap (v2 + (1 : Int)))
   else
    none
  else
   none
 else
  ret (v1)
theorem laws_szPartS.k (v0 : List (Int × Int × Int × List (Int × Int × Int) × List Int × List (List Int))) (v1 : Int) : topL E (callT E tab) 12 Try.f12 (laws_szPartS.c v0 v1) = laws_szPartS.t (fun b => some (laws_szPartS.mk b)) laws_szPartS.q5 v0 v1 := by kernel_rfl
theorem laws_szPartS.k5 (v0 : List (Int × Int × Int × List (Int × Int × Int) × List Int × List (List Int))) (v1 : Int) (v2 : Int) : roundL E (callT E tab) 12 Try.f12 2 [.r, .r, .r, .l, .r, .b] (vc (.d .fro (.sl (.pair (.int .i64) (.pair (.int .i64) (.pair (.int .i64) (.pair (.sl (.pair (.int .i64) (.pair (.int .i64) (.int .i64)))) (.pair (.sl (.int .i64)) (.sl (.sl (.int .i64))))))))) v0) :: vc (iL v1) :: nn 3 (vc (iL v2) :: nn 21 ([]))) = laws_szPartS.t5 (fun b => some (laws_szPartS.mk b)) laws_szPartS.q5 v0 v1 v2 := by kernel_rfl
theorem laws_szPartS.eq (v0 : List (Int × Int × Int × List (Int × Int × Int) × List Int × List (List Int))) (v1 : Int) {b : Int} (h : laws_szPartS.t some laws_szPartS.l5 v0 v1 = some b) : laws_szPartS v0 v1 = some b := tOf_intro laws_szPartS.un (fun _ => by kernel_rfl) (vlim_fn (callT_le E tab) rfl rfl rfl ((laws_szPartS.k v0 v1).trans ((by unfold laws_szPartS.t; repeat' first | exact Sub.ret | exact Sub.none | exact Sub.loop | apply Sub.cond | (apply Sub.bind; intro _) : Sub laws_szPartS.mk _ _) b h)))
theorem laws_szPartS.eq5 (v0 : List (Int × Int × Int × List (Int × Int × Int) × List Int × List (List Int))) (v1 : Int) (v2 : Int) {b : Int} (h : laws_szPartS.t5 some laws_szPartS.l5 v0 v1 v2 = some b) : laws_szPartS.l5 v0 v1 v2 = some b := tOf_intro laws_szPartS.un (fun _ => by kernel_rfl) (loopAtL_step ((laws_szPartS.k5 v0 v1 v2).trans ((by unfold laws_szPartS.t5; repeat' first | exact Sub.ret | exact Sub.none | exact Sub.loop | apply Sub.cond | (apply Sub.bind; intro _) : Sub laws_szPartS.mk _ _) b h)))
noncomputable def laws_szPart.t {γ : Type} (ret : (Int) → Option γ) (v0 : Int) (v1 : Int) (v2 : Int) (v3 : List (Int × Int × Int)) (v4 : List Int) (v5 : List (List Int)) (v6 : Int) : Option γ :=
 (laws_szTestS (v3) (v6)).bind fun (r0 : Int) =>
 bif decide (r0 < (0 : Int)) then
  ret ((-1 : Int))
 else
  (laws_szIntS (v4) (r0)).bind fun (r1 : Int) =>
  bif decide (r1 < (0 : Int)) then
   ret ((-1 : Int))
  else
   (laws_szIntSS (v5) (r1)).bind fun (r2 : Int) =>
   bif decide (r2 < (0 : Int)) then
    ret ((-1 : Int))
   else
    ret (r2)
theorem laws_szPart.k (v0 : Int) (v1 : Int) (v2 : Int) (v3 : List (Int × Int × Int)) (v4 : List Int) (v5 : List (List Int)) (v6 : Int) : topL E (callT E tab) 27 Try.f27 (laws_szPart.c v0 v1 v2 v3 v4 v5 v6) = laws_szPart.t (fun b => some (laws_szPart.mk b)) v0 v1 v2 v3 v4 v5 v6 := by kernel_rfl
theorem laws_szPart.eq (v0 : Int) (v1 : Int) (v2 : Int) (v3 : List (Int × Int × Int)) (v4 : List Int) (v5 : List (List Int)) (v6 : Int) {b : Int} (h : laws_szPart.t some v0 v1 v2 v3 v4 v5 v6 = some b) : laws_szPart v0 v1 v2 v3 v4 v5 v6 = some b := tOf_intro laws_szPart.un (fun _ => by kernel_rfl) (vlim_fn (callT_le E tab) rfl rfl rfl ((laws_szPart.k v0 v1 v2 v3 v4 v5 v6).trans ((by unfold laws_szPart.t; repeat' first | exact Sub.ret | exact Sub.none | exact Sub.loop | apply Sub.cond | (apply Sub.bind; intro _) : Sub laws_szPart.mk _ _) b h)))
noncomputable def laws_szTestS.t {γ : Type} (ret : (Int) → Option γ) (v0 : List (Int × Int × Int)) (v1 : Int) : Option γ :=
 bif decide (IntKind.i64.wrap (v1 - (↑v0.length : Int)) < (0 : Int)) then
  ret ((-1 : Int))
 else
  ret (IntKind.i64.wrap (v1 - (↑v0.length : Int)))
theorem laws_szTestS.k (v0 : List (Int × Int × Int)) (v1 : Int) : topL E (callT E tab) 43 Try.f43 (laws_szTestS.c v0 v1) = laws_szTestS.t (fun b => some (laws_szTestS.mk b)) v0 v1 := by kernel_rfl
theorem laws_szTestS.eq (v0 : List (Int × Int × Int)) (v1 : Int) {b : Int} (h : laws_szTestS.t some v0 v1 = some b) : laws_szTestS v0 v1 = some b := tOf_intro laws_szTestS.un (fun _ => by kernel_rfl) (vlim_fn (callT_le E tab) rfl rfl rfl ((laws_szTestS.k v0 v1).trans ((by unfold laws_szTestS.t; repeat' first | exact Sub.ret | exact Sub.none | exact Sub.loop | apply Sub.cond | (apply Sub.bind; intro _) : Sub laws_szTestS.mk _ _) b h)))
noncomputable def laws_szIntSS.q5 (v0 : List (List Int)) (v1 : Int) (v2 : Int) : Option R := loopAtL E (callT E tab) 44 Try.f44 2 [.r, .r, .r, .l, .r, .b] (vc (.d .fro (.sl (.sl (.int .i64))) v0) :: vc (iL v1) :: nn 3 (vc (iL v2) :: nn 21 ([])))
noncomputable def laws_szIntSS.l5 (v0 : List (List Int)) (v1 : Int) (v2 : Int) : Option (Int) := tOf laws_szIntSS.mk (laws_szIntSS.q5 v0 v1 v2)
noncomputable def laws_szIntSS.t {γ : Type} (ret : (Int) → Option γ) (lp5 : (List (List Int)) → Int → Int → Option γ) (v0 : List (List Int)) (v1 : Int) : Option γ :=
 bif decide (IntKind.i64.wrap (v1 - (↑v0.length : Int)) < (0 : Int)) then
  ret ((-1 : Int))
 else
  lp5 (v0) (IntKind.i64.wrap (v1 - (↑v0.length : Int))) ((0 : Int))
noncomputable def laws_szIntSS.t5 {γ : Type} (ret : (Int) → Option γ) (lp5 : (List (List Int)) → Int → Int → Option γ) (v0 : List (List Int)) (v1 : Int) (v2 : Int) : Option γ :=
 bif decide (v2 < (↑v0.length : Int)) then
  bif decide ((0 : Int) ≤ v2) then
   bif decide (v2.toNat < v0.length) then
    (laws_szIntS (v0.getD v2.toNat []) (v1)).bind fun (r0 : Int) =>
    bif decide (r0 < (0 : Int)) then
     ret ((-1 : Int))
    else
     lp5 (v0) (r0) (IntKind.i64.wrap (v2 + (1 : Int)))
   else
    none
  else
   none
 else
  ret (v1)
theorem laws_szIntSS.k (v0 : List (List Int)) (v1 : Int) : topL E (callT E tab) 44 Try.f44 (laws_szIntSS.c v0 v1) = laws_szIntSS.t (fun b => some (laws_szIntSS.mk b)) laws_szIntSS.q5 v0 v1 := by kernel_rfl
theorem laws_szIntSS.k5 (v0 : List (List Int)) (v1 : Int) (v2 : Int) : roundL E (callT E tab) 44 Try.f44 2 [.r, .r, .r, .l, .r, .b] (vc (.d .fro (.sl (.sl (.int .i64))) v0) :: vc (iL v1) :: nn 3 (vc (iL v2) :: nn 21 ([]))) = laws_szIntSS.t5 (fun b => some (laws_szIntSS.mk b)) laws_szIntSS.q5 v0 v1 v2 := by kernel_rfl
theorem laws_szIntSS.eq (v0 : List (List Int)) (v1 : Int) {b : Int} (h : laws_szIntSS.t some laws_szIntSS.l5 v0 v1 = some b) : laws_szIntSS v0 v1 = some b := tOf_intro laws_szIntSS.un (fun _ => by kernel_rfl) (vlim_fn (callT_le E tab) rfl rfl rfl ((laws_szIntSS.k v0 v1).trans ((by unfold laws_szIntSS.t; repeat' first | exact Sub.ret | exact Sub.none | exact Sub.loop | apply Sub.cond | (apply Sub.bind; intro _) : Sub laws_szIntSS.mk _ _) b h)))
theorem laws_szIntSS.eq5 (v0 : List (List Int)) (v1 : Int) (v2 : Int) {b : Int} (h : laws_szIntSS.t5 some laws_szIntSS.l5 v0 v1 v2 = some b) : laws_szIntSS.l5 v0 v1 v2 = some b := tOf_intro laws_szIntSS.un (fun _ => by kernel_rfl) (loopAtL_step ((laws_szIntSS.k5 v0 v1 v2).trans ((by unfold laws_szIntSS.t5; repeat' first | exact Sub.ret | exact Sub.none | exact Sub.loop | apply Sub.cond | (apply Sub.bind; intro _) : Sub laws_szIntSS.mk _ _) b h)))
noncomputable def laws_toView.t {γ : Type} (ret : ((List Int) × (List (Int × Int × Int × List (Int × Int × Int) × List Int × List (List Int)))) → Option γ) (v0 : List Int) (v1 : List (Int × Int × Int × List (Int × Int × Int) × List Int × List (List Int))) : Option γ :=
 (laws_toIntS (v0)).bind fun (r0 : (List Int)) =>
 (laws_toPartS (v1)).bind fun (r1 : (List (Int × Int × Int × List (Int × Int × Int) × List Int × List (List Int)))) =>
 ret (r0, r1)
theorem laws_toView.k (v0 : List Int) (v1 : List (Int × Int × Int × List (Int × Int × Int) × List Int × List (List Int))) : topL E (callT E tab) 6 Try.f6 (laws_toView.c v0 v1) = laws_toView.t (fun b => some (laws_toView.mk b)) v0 v1 := by kernel_rfl
theorem laws_toView.eq (v0 : List Int) (v1 : List (Int × Int × Int × List (Int × Int × Int) × List Int × List (List Int))) {b : (List Int) × (List (Int × Int × Int × List (Int × Int × Int) × List Int × List (List Int)))} (h : laws_toView.t some v0 v1 = some b) : laws_toView v0 v1 = some b := tOf_intro laws_toView.un (fun _ => by kernel_rfl) (vlim_fn (callT_le E tab) rfl rfl rfl ((laws_toView.k v0 v1).trans ((by unfold laws_toView.t; repeat' first | exact Sub.ret | exact Sub.none | exact Sub.loop | apply Sub.cond | (apply Sub.bind; intro _) : Sub laws_toView.mk _ _) b h)))
noncomputable def laws_toIntS.q3 (v0 : List Int) (v1 : List Int) (v2 : Int) : Option R := loopAtL E (callT E tab) 16 Try.f16 1 [.r, .r, .l, .r, .b] (vc (.d .fro (.sl (.int .i64)) v0) :: nn 2 (vc (.d .deep (.sl (.int .i64)) v1) :: vc (iL v2) :: nn 17 ([])))
noncomputable def laws_toIntS.l3 (v0 : List Int) (v1 : List Int) (v2 : Int) : Option ((List Int)) := tOf laws_toIntS.mk (laws_toIntS.q3 v0 v1 v2)
noncomputable def laws_toIntS.t {γ : Type} (ret : ((List Int)) → Option γ) (lp3 : (List Int) → (List Int) → Int → Option γ) (v0 : List Int) : Option γ :=
 bif decide ((↑v0.length : Int) = (↑v0.length : Int)) then
  bif decide ((↑v0.length : Int) ≤ (↑(4294967296 : Nat) : Int)) then
   lp3 (v0) (List.replicate (↑v0.length : Int).toNat (0 : Int)) ((0 : Int))
  else
   none
 else
  none
noncomputable def laws_toIntS.t3 {γ : Type} (ret : ((List Int)) → Option γ) (lp3 : (List Int) → (List Int) → Int → Option γ) (v0 : List Int) (v1 : List Int) (v2 : Int) : Option γ :=
 bif decide (v2 < (↑v0.length : Int)) then
  bif decide ((0 : Int) ≤ v2) then
   bif decide (v2.toNat < v0.length) then
    bif decide ((0 : Int) ≤ v2) then
     bif decide (v2.toNat < v1.length) then
      bif decide (v2.toNat < v1.length) then
       lp3 (v0) (v1.set v2.toNat (v0.getD v2.toNat (0 : Int))) (IntKind.i64.wrap (v2 + (1 : Int)))
      else
       none
     else
      none
    else
     none
   else
    none
  else
   none
 else
  ret (v1)
theorem laws_toIntS.k (v0 : List Int) : topL E (callT E tab) 16 Try.f16 (laws_toIntS.c v0) = laws_toIntS.t (fun b => some (laws_toIntS.mk b)) laws_toIntS.q3 v0 := by kernel_rfl
theorem laws_toIntS.k3 (v0 : List Int) (v1 : List Int) (v2 : Int) : roundL E (callT E tab) 16 Try.f16 1 [.r, .r, .l, .r, .b] (vc (.d .fro (.sl (.int .i64)) v0) :: nn 2 (vc (.d .deep (.sl (.int .i64)) v1) :: vc (iL v2) :: nn 17 ([]))) = laws_toIntS.t3 (fun b => some (laws_toIntS.mk b)) laws_toIntS.q3 v0 v1 v2 := by kernel_rfl
theorem laws_toIntS.eq (v0 : List Int) {b : (List Int)} (h : laws_toIntS.t some laws_toIntS.l3 v0 = some b) : laws_toIntS v0 = some b := tOf_intro laws_toIntS.un (fun _ => by kernel_rfl) (vlim_fn (callT_le E tab) rfl rfl rfl ((laws_toIntS.k v0).trans ((by unfold laws_toIntS.t; repeat' first | exact Sub.ret | exact Sub.none | exact Sub.loop | apply Sub.cond | (apply Sub.bind; intro _) : Sub laws_toIntS.mk _ _) b h)))
theorem laws_toIntS.eq3 (v0 : List Int) (v1 : List Int) (v2 : Int) {b : (List Int)} (h : laws_toIntS.t3 some laws_toIntS.l3 v0 v1 v2 = some b) : laws_toIntS.l3 v0 v1 v2 = some b := tOf_intro laws_toIntS.un (fun _ => by kernel_rfl) (loopAtL_step ((laws_toIntS.k3 v0 v1 v2).trans ((by unfold laws_toIntS.t3; repeat' first | exact Sub.ret | exact Sub.none | exact Sub.loop | apply Sub.cond | (apply Sub.bind; intro _) : Sub laws_toIntS.mk _ _) b h)))
noncomputable def laws_toPartS.q3 (v0 : List (Int × Int × Int × List (Int × Int × Int) × List Int × List (List Int))) (v1 : List (Int × Int × Int × List (Int × Int × Int) × List Int × List (List Int))) (v2 : Int) : Option R := loopAtL E (callT E tab) 17 Try.f17 1 [.r, .r, .l, .r, .b] (vc (.d .fro (.sl (.pair (.int .i64) (.pair (.int .i64) (.pair (.int .i64) (.pair (.sl (.pair (.int .i64) (.pair (.int .i64) (.int .i64)))) (.pair (.sl (.int .i64)) (.sl (.sl (.int .i64))))))))) v0) :: nn 2 (vc (.d .deep (.sl (.pair (.int .i64) (.pair (.int .i64) (.pair (.int .i64) (.pair (.sl (.pair (.int .i64) (.pair (.int .i64) (.int .i64)))) (.pair (.sl (.int .i64)) (.sl (.sl (.int .i64))))))))) v1) :: vc (iL v2) :: nn 18 ([])))
noncomputable def laws_toPartS.l3 (v0 : List (Int × Int × Int × List (Int × Int × Int) × List Int × List (List Int))) (v1 : List (Int × Int × Int × List (Int × Int × Int) × List Int × List (List Int))) (v2 : Int) : Option ((List (Int × Int × Int × List (Int × Int × Int) × List Int × List (List Int)))) := tOf laws_toPartS.mk (laws_toPartS.q3 v0 v1 v2)
noncomputable def laws_toPartS.t {γ : Type} (ret : ((List (Int × Int × Int × List (Int × Int × Int) × List Int × List (List Int)))) → Option γ) (lp3 : (List (Int × Int × Int × List (Int × Int × Int) × List Int × List (List Int))) → (List (Int × Int × Int × List (Int × Int × Int) × List Int × List (List Int))) → Int → Option γ) (v0 : List (Int × Int × Int × List (Int × Int × Int) × List Int × List (List Int))) : Option γ :=
 bif decide ((↑v0.length : Int) = (↑v0.length : Int)) then
  bif decide ((↑v0.length : Int) ≤ (↑(4294967296 : Nat) : Int)) then
   lp3 (v0) (List.replicate (↑v0.length : Int).toNat ((0 : Int), (0 : Int), (0 : Int), [], [], [])) ((0 : Int))
  else
   none
 else
  none
noncomputable def laws_toPartS.t3 {γ : Type} (ret : ((List (Int × Int × Int × List (Int × Int × Int) × List Int × List (List Int)))) → Option γ) (lp3 : (List (Int × Int × Int × List (Int × Int × Int) × List Int × List (List Int))) → (List (Int × Int × Int × List (Int × Int × Int) × List Int × List (List Int))) → Int → Option γ) (v0 : List (Int × Int × Int × List (Int × Int × Int) × List Int × List (List Int))) (v1 : List (Int × Int × Int × List (Int × Int × Int) × List Int × List (List Int))) (v2 : Int) : Option γ :=
 bif decide (v2 < (↑v0.length : Int)) then
  bif decide ((0 : Int) ≤ v2) then
   bif decide (v2.toNat < v0.length) then
    (laws_toPart ((v0.getD v2.toNat ((0 : Int), (0 : Int), (0 : Int), [], [], [])).fst) ((v0.getD v2.toNat ((0 : Int), (0 : Int), (0 : Int), [], [], [])).snd.fst) ((v0.getD v2.toNat ((0 : Int), (0 : Int), (0 : Int), [], [], [])).snd.snd.fst) ((v0.getD v2.toNat ((0 : Int), (0 : Int), (0 : Int), [], [], [])).snd.snd.snd.fst) ((v0.getD v2.toNat ((0 : Int), (0 : Int), (0 : Int), [], [], [])).snd.snd.snd.snd.fst) ((v0.getD v2.toNat ((0 : Int), (0 : Int), (0 : Int), [], [], [])).snd.snd.snd.snd.snd)).bind fun (r0 : Int × Int × Int × (List (Int × Int × Int)) × (List Int) × (List (List Int))) =>
    bif decide ((0 : Int) ≤ v2) then
     bif decide (v2.toNat < v1.length) then
      bif decide (v2.toNat < v1.length) then
       lp3 (v0) (v1.set v2.toNat (r0.fst, r0.snd.fst, r0.snd.snd.fst, r0.snd.snd.snd.fst, r0.snd.snd.snd.snd.fst, r0.snd.snd.snd.snd.snd)) (IntKind.i64.wrap (v2 + (1 : Int)))
      else
       none
     else
      none
    else
     none
   else
    none
  else
   none
 else
  ret (v1)
theorem laws_toPartS.k (v0 : List (Int × Int × Int × List (Int × Int × Int) × List Int × List (List Int))) : topL E (callT E tab) 17 Try.f17 (laws_toPartS.c v0) = laws_toPartS.t (fun b => some (laws_toPartS.mk b)) laws_toPartS.q3 v0 := by kernel_rfl
theorem laws_toPartS.k3 (v0 : List (Int × Int × Int × List (Int × Int × Int) × List Int × List (List Int))) (v1 : List (Int × Int × Int × List (Int × Int × Int) × List Int × List (List Int))) (v2 : Int) : roundL E (callT E tab) 17 Try.f17 1 [.r, .r, .l, .r, .b] (vc (.d .fro (.sl (.pair (.int .i64) (.pair (.int .i64) (.pair (.int .i64) (.pair (.sl (.pair (.int .i64) (.pair (.int .i64) (.int .i64)))) (.pair (.sl (.int .i64)) (.sl (.sl (.int .i64))))))))) v0) :: nn 2 (vc (.d .deep (.sl (.pair (.int .i64) (.pair (.int .i64) (.pair (.int .i64) (.pair (.sl (.pair (.int .i64) (.pair (.int .i64) (.int .i64)))) (.pair (.sl (.int .i64)) (.sl (.sl (.int .i64))))))))) v1) :: vc (iL v2) :: nn 18 ([]))) = laws_toPartS.t3 (fun b => some (laws_toPartS.mk b)) laws_toPartS.q3 v0 v1 v2 := by kernel_rfl
theorem laws_toPartS.eq (v0 : List (Int × Int × Int × List (Int × Int × Int) × List Int × List (List Int))) {b : (List (Int × Int × Int × List (Int × Int × Int) × List Int × List (List Int)))} (h : laws_toPartS.t some laws_toPartS.l3 v0 = some b) : laws_toPartS v0 = some b := tOf_intro laws_toPartS.un (fun _ => by kernel_rfl) (vlim_fn (callT_le E tab) rfl rfl rfl ((laws_toPartS.k v0).trans ((by unfold laws_toPartS.t; repeat' first | exact Sub.ret | exact Sub.none | exact Sub.loop | apply Sub.cond | (apply Sub.bind; intro _) : Sub laws_toPartS.mk _ _) b h)))
theorem laws_toPartS.eq3 (v0 : List (Int × Int × Int × List (Int × Int × Int) × List Int × List (List Int))) (v1 : List (Int × Int × Int × List (Int × Int × Int) × List Int × List (List Int))) (v2 : Int) {b : (List (Int × Int × Int × List (Int × Int × Int) × List Int × List (List Int)))} (h : laws_toPartS.t3 some laws_toPartS.l3 v0 v1 v2 = some b) : laws_toPartS.l3 v0 v1 v2 = some b := tOf_intro laws_toPartS.un (fun _ => by kernel_rfl) (loopAtL_step ((laws_toPartS.k3 v0 v1 v2).trans ((by unfold laws_toPartS.t3; repeat' first | exact Sub.ret | exact Sub.none | exact Sub.loop | apply Sub.cond | (apply Sub.bind; intro _) : Sub laws_toPartS.mk _ _) b h)))
noncomputable def laws_toPart.t {γ : Type} (ret : (Int × Int × Int × (List (Int × Int × Int)) × (List Int) × (List (List Int))) → Option γ) (v0 : Int) (v1 : Int) (v2 : Int) (v3 : List (Int × Int × Int)) (v4 : List Int) (v5 : List (List Int)) : Option γ :=
 (laws_toTestS (v3)).bind fun (r0 : (List (Int × Int × Int))) =>
 (laws_toIntS (v4)).bind fun (r1 : (List Int)) =>
 (laws_toIntSS (v5)).bind fun (r2 : (List (List Int))) =>
 ret (v0, v1, v2, r0, r1, r2)
theorem laws_toPart.k (v0 : Int) (v1 : Int) (v2 : Int) (v3 : List (Int × Int × Int)) (v4 : List Int) (v5 : List (List Int)) : topL E (callT E tab) 30 Try.f30 (laws_toPart.c v0 v1 v2 v3 v4 v5) = laws_toPart.t (fun b => some (laws_toPart.mk b)) v0 v1 v2 v3 v4 v5 := by kernel_rfl
theorem laws_toPart.eq (v0 : Int) (v1 : Int) (v2 : Int) (v3 : List (Int × Int × Int)) (v4 : List Int) (v5 : List (List Int)) {b : Int × Int × Int × (List (Int × Int × Int)) × (List Int) × (List (List Int))} (h : laws_toPart.t some v0 v1 v2 v3 v4 v5 = some b) : laws_toPart v0 v1 v2 v3 v4 v5 = some b := tOf_intro laws_toPart.un (fun _ => by kernel_rfl) (vlim_fn (callT_le E tab) rfl rfl rfl ((laws_toPart.k v0 v1 v2 v3 v4 v5).trans ((by unfold laws_toPart.t; repeat' first | exact Sub.ret | exact Sub.none | exact Sub.loop | apply Sub.cond | (apply Sub.bind; intro _) : Sub laws_toPart.mk _ _) b h)))
noncomputable def laws_toTestS.q3 (v0 : List (Int × Int × Int)) (v1 : List (Int × Int × Int)) (v2 : Int) : Option R := loopAtL E (callT E tab) 49 Try.f49 1 [.r, .r, .l, .r, .b] (vc (.d .fro (.sl (.pair (.int .i64) (.pair (.int .i64) (.int .i64)))) v0) :: nn 2 (vc (.d .deep (.sl (.pair (.int .i64) (.pair (.int .i64) (.int .i64)))) v1) :: vc (iL v2) :: nn 18 ([])))
noncomputable def laws_toTestS.l3 (v0 : List (Int × Int × Int)) (v1 : List (Int × Int × Int)) (v2 : Int) : Option ((List (Int × Int × Int))) := tOf laws_toTestS.mk (laws_toTestS.q3 v0 v1 v2)
noncomputable def laws_toTestS.t {γ : Type} (ret : ((List (Int × Int × Int))) → Option γ) (lp3 : (List (Int × Int × Int)) → (List (Int × Int × Int)) → Int → Option γ) (v0 : List (Int × Int × Int)) : Option γ :=
 bif decide ((↑v0.length : Int) = (↑v0.length : Int)) then
  bif decide ((↑v0.length : Int) ≤ (↑(4294967296 : Nat) : Int)) then
   lp3 (v0) (List.replicate (↑v0.length : Int).toNat ((0 : Int), (0 : Int), (0 : Int))) ((0 : Int))
  else
   none
 else
  none
noncomputable def laws_toTestS.t3 {γ : Type} (ret : ((List (Int × Int × Int))) → Option γ) (lp3 : (List (Int × Int × Int)) → (List (Int × Int × Int)) → Int → Option γ) (v0 : List (Int × Int × Int)) (v1 : List (Int × Int × Int)) (v2 : Int) : Option γ :=
 bif decide (v2 < (↑v0.length : Int)) then
  bif decide ((0 : Int) ≤ v2) then
   bif decide (v2.toNat < v0.length) then
    (laws_toTest ((v0.getD v2.toNat ((0 : Int), (0 : Int), (0 : Int))).fst) ((v0.getD v2.toNat ((0 : Int), (0 : Int), (0 : Int))).snd.fst) ((v0.getD v2.toNat ((0 : Int), (0 : Int), (0 : Int))).snd.snd)).bind fun (r0 : Int × Int × Int) =>
    bif decide ((0 : Int) ≤ v2) then
     bif decide (v2.toNat < v1.length) then
      bif decide (v2.toNat < v1.length) then
       lp3 (v0) (v1.set v2.toNat (r0.fst, r0.snd.fst, r0.snd.snd)) (IntKind.i64.wrap (v2 + (1 : Int)))
      else
       none
     else
      none
    else
     none
   else
    none
  else
   none
 else
  ret (v1)
theorem laws_toTestS.k (v0 : List (Int × Int × Int)) : topL E (callT E tab) 49 Try.f49 (laws_toTestS.c v0) = laws_toTestS.t (fun b => some (laws_toTestS.mk b)) laws_toTestS.q3 v0 := by kernel_rfl
theorem laws_toTestS.k3 (v0 : List (Int × Int × Int)) (v1 : List (Int × Int × Int)) (v2 : Int) : roundL E (callT E tab) 49 Try.f49 1 [.r, .r, .l, .r, .b] (vc (.d .fro (.sl (.pair (.int .i64) (.pair (.int .i64) (.int .i64)))) v0) :: nn 2 (vc (.d .deep (.sl (.pair (.int .i64) (.pair (.int .i64) (.int .i64)))) v1) :: vc (iL v2) :: nn 18 ([]))) = laws_toTestS.t3 (fun b => some (laws_toTestS.mk b)) laws_toTestS.q3 v0 v1 v2 := by kernel_rfl
theorem laws_toTestS.eq (v0 : List (Int × Int × Int)) {b : (List (Int × Int × Int))} (h : laws_toTestS.t some laws_toTestS.l3 v0 = some b) : laws_toTestS v0 = some b := tOf_intro laws_toTestS.un (fun _ => by kernel_rfl) (vlim_fn (callT_le E tab) rfl rfl rfl ((laws_toTestS.k v0).trans ((by unfold laws_toTestS.t; repeat' first | exact Sub.ret | exact Sub.none | exact Sub.loop | apply Sub.cond | (apply Sub.bind; intro _) : Sub laws_toTestS.mk _ _) b h)))
theorem laws_toTestS.eq3 (v0 : List (Int × Int × Int)) (v1 : List (Int × Int × Int)) (v2 : Int) {b : (List (Int × Int × Int))} (h : laws_toTestS.t3 some laws_toTestS.l3 v0 v1 v2 = some b) : laws_toTestS.l3 v0 v1 v2 = some b := tOf_intro laws_toTestS.un (fun _ => by kernel_rfl) (loopAtL_step ((laws_toTestS.k3 v0 v1 v2).trans ((by unfold laws_toTestS.t3; repeat' first | exact Sub.ret | exact Sub.none | exact Sub.loop | apply Sub.cond | (apply Sub.bind; intro _) : Sub laws_toTestS.mk _ _) b h)))
noncomputable def laws_toTest.t {γ : Type} (ret : (Int × Int × Int) → Option γ) (v0 : Int) (v1 : Int) (v2 : Int) : Option γ :=
 ret (v0, v1, v2)
theorem laws_toTest.k (v0 : Int) (v1 : Int) (v2 : Int) : topL E (callT E tab) 59 Try.f59 (laws_toTest.c v0 v1 v2) = laws_toTest.t (fun b => some (laws_toTest.mk b)) v0 v1 v2 := by kernel_rfl
theorem laws_toTest.eq (v0 : Int) (v1 : Int) (v2 : Int) {b : Int × Int × Int} (h : laws_toTest.t some v0 v1 v2 = some b) : laws_toTest v0 v1 v2 = some b := tOf_intro laws_toTest.un (fun _ => by kernel_rfl) (vlim_fn (callT_le E tab) rfl rfl rfl ((laws_toTest.k v0 v1 v2).trans ((by unfold laws_toTest.t; repeat' first | exact Sub.ret | exact Sub.none | exact Sub.loop | apply Sub.cond | (apply Sub.bind; intro _) : Sub laws_toTest.mk _ _) b h)))
noncomputable def laws_toIntSS.q3 (v0 : List (List Int)) (v1 : List (List Int)) (v2 : Int) : Option R := loopAtL E (callT E tab) 50 Try.f50 1 [.r, .r, .l, .r, .b] (vc (.d .fro (.sl (.sl (.int .i64))) v0) :: nn 2 (vc (.d .deep (.sl (.sl (.int .i64))) v1) :: vc (iL v2) :: nn 18 ([])))
noncomputable def laws_toIntSS.l3 (v0 : List (List Int)) (v1 : List (List Int)) (v2 : Int) : Option ((List (List Int))) := tOf laws_toIntSS.mk (laws_toIntSS.q3 v0 v1 v2)
noncomputable def laws_toIntSS.t {γ : Type} (ret : ((List (List Int))) → Option γ) (lp3 : (List (List Int)) → (List (List Int)) → Int → Option γ) (v0 : List (List Int)) : Option γ :=
 bif decide ((↑v0.length : Int) = (↑v0.length : Int)) then
  bif decide ((↑v0.length : Int) ≤ (↑(4294967296 : Nat) : Int)) then
   lp3 (v0) (List.replicate (↑v0.length : Int).toNat []) ((0 : Int))
  else
   none
 else
  none
noncomputable def laws_toIntSS.t3 {γ : Type} (ret : ((List (List Int))) → Option γ) (lp3 : (List (List Int)) → (List (List Int)) → Int → Option γ) (v0 : List (List Int)) (v1 : List (List Int)) (v2 : Int) : Option γ :=
 bif decide (v2 < (↑v0.length : Int)) then
  bif decide ((0 : Int) ≤ v2) then
   bif decide (v2.toNat < v0.length) then
    (laws_toIntS (v0.getD v2.toNat [])).bind fun (r0 : (List Int)) =>
    bif decide ((0 : Int) ≤ v2) then
     bif decide (v2.toNat < v1.length) then
      bif decide (v2.toNat < v1.length) then
       lp3 (v0) (v1.set v2.toNat r0) (IntKind.i64.wrap (v2 + (1 : Int)))
      else
       none
     else
      none
    else
     none
   else
    none
  else
   none
 else
  ret (v1)
theorem laws_toIntSS.k (v0 : List (List Int)) : topL E (callT E tab) 50 Try.f50 (laws_toIntSS.c v0) = laws_toIntSS.t (fun b => some (laws_toIntSS.mk b)) laws_toIntSS.q3 v0 := by kernel_rfl
theorem laws_toIntSS.k3 (v0 : List (List Int)) (v1 : List (List Int)) (v2 : Int) : roundL E (callT E tab) 50 Try.f50 1 [.r, .r, .l, .r, .b] (vc (.d .fro (.sl (.sl (.int .i64))) v0) :: nn 2 (vc (.d .deep (.sl (.sl (.int .i64))) v1) :: vc (iL v2) :: nn 18 ([]))) = laws_toIntSS.t3 (fun b => some (laws_toIntSS.mk b)) laws_toIntSS.q3 v0 v1 v2 := by kernel_rfl
theorem laws_toIntSS.eq (v0 : List (List Int)) {b : (List (List Int))} (h : laws_toIntSS.t some laws_toIntSS.l3 v0 = some b) : laws_toIntSS v0 = some b := tOf_intro laws_toIntSS.un (fun _ => by kernel_rfl) (vlim_fn (callT_le E tab) rfl rfl rfl ((laws_toIntSS.k v0).trans ((by unfold laws_toIntSS.t; repeat' first | exact Sub.ret | exact Sub.none | exact Sub.loop | apply Sub.cond | (apply Sub.bind; intro _) : Sub laws_toIntSS.mk _ _) b h)))
theorem laws_toIntSS.eq3 (v0 : List (List Int)) (v1 : List (List Int)) (v2 : Int) {b : (List (List Int))} (h : laws_toIntSS.t3 some laws_toIntSS.l3 v0 v1 v2 = some b) : laws_toIntSS.l3 v0 v1 v2 = some b := tOf_intro laws_toIntSS.un (fun _ => by kernel_rfl) (loopAtL_step ((laws_toIntSS.k3 v0 v1 v2).trans ((by unfold laws_toIntSS.t3; repeat' first | exact Sub.ret | exact Sub.none | exact Sub.loop | apply Sub.cond | (apply Sub.bind; intro _) : Sub laws_toIntSS.mk _ _) b h)))
noncomputable def spec_PushDown.t {γ : Type} (ret : ((List Int) × (List (Int × Int × Int × List (Int × Int × Int) × List Int × List (List Int))) × Bool) → Option γ) (v0 : List Int) (v1 : List (Int × Int × Int × List (Int × Int × Int) × List Int × List (List Int))) : Option γ :=
 (spec_l6Check (v0) (v1)).bind fun (r0 : (List Int) × Bool) =>
 bif !r0.snd then
  ret ([], [], Bool.false)
 else
  (spec_l6Own (v0) (v1)).bind fun (r1 : (List Int) × (List (Int × Int × Int × List (Int × Int × Int) × List Int × List (List Int)))) =>
  bif decide ((0 : Int) ≤ IntKind.i64.wrap ((↑r1.snd.length : Int) - (1 : Int))) then
   bif decide ((IntKind.i64.wrap ((↑r1.snd.length : Int) - (1 : Int))).toNat < r1.snd.length) then
    bif decide ((IntKind.i64.wrap ((↑r1.snd.length : Int) - (1 : Int))).toNat < r1.snd.length) then
     bif decide ((IntKind.i64.wrap ((↑r1.snd.length : Int) - (1 : Int))).toNat < r1.snd.length) then
      bif decide ((IntKind.i64.wrap ((↑r1.snd.length : Int) - (1 : Int))).toNat < r1.snd.length) then
       bif decide ((IntKind.i64.wrap ((↑r1.snd.length : Int) - (1 : Int))).toNat < r1.snd.length) then
        bif (r1.snd.getD (IntKind.i64.wrap ((↑r1.snd.length : Int) - (1 : Int))).toNat       ((0 : Int), (0 : Int), (0 : Int), [], [], [])).fst !=   (2 : Int) then
         ret (r1.fst, r1.snd, Bool.true)
        else
         bif decide   ((0 : Int) ≤     (r1.snd.getD (IntKind.i64.wrap ((↑r1.snd.length : Int) - (1 : Int))).toNat           ((0 : Int), (0 : Int), (0 : Int), [], [], [])).snd.fst) then
          bif decide   ((r1.snd.getD (IntKind.i64.wrap ((↑r1.snd.length : Int) - (1 : Int))).toNat             ((0 : Int), (0 : Int), (0 : Int), [], [], [])).snd.fst.toNat <     r1.snd.length) then
           bif decide   ((r1.snd.getD (IntKind.i64.wrap ((↑r1.snd.length : Int) - (1 : Int))).toNat             ((0 : Int), (0 : Int), (0 : Int), [], [], [])).snd.fst.toNat <     r1.snd.length) then
            bif (r1.snd.getD       (r1.snd.getD (IntKind.i64.wrap ((↑r1.snd.length : Int) - (1 : Int))).toNat               ((0 : Int), (0 : Int), (0 : Int), [], [], [])).snd.fst.toNat       ((0 : Int), (0 : Int), (0 : Int), [], [], [])).fst !=   (5 : Int) then
             ret (r1.fst, r1.snd, Bool.true)
            else
             bif decide (IntKind.i64.wrap ((↑r1.snd.length : Int) + (2 : Int)) > (12 : Int)) then
              ret (r1.fst, r1.snd, Bool.true)
             else
              bif decide   ((0 : Int) ≤     (r1.snd.getD (IntKind.i64.wrap ((↑r1.snd.length : Int) - (1 : Int))).toNat           ((0 : Int), (0 : Int), (0 : Int), [], [], [])).snd.fst) then
               bif decide   ((r1.snd.getD (IntKind.i64.wrap ((↑r1.snd.length : Int) - (1 : Int))).toNat             ((0 : Int), (0 : Int), (0 : Int), [], [], [])).snd.fst.toNat <     r1.snd.length) then
                bif decide   ((r1.snd.getD (IntKind.i64.wrap ((↑r1.snd.length : Int) - (1 : Int))).toNat             ((0 : Int), (0 : Int), (0 : Int), [], [], [])).snd.fst.toNat <     r1.snd.length) then
                 bif decide   ((r1.snd.getD (IntKind.i64.wrap ((↑r1.snd.length : Int) - (1 : Int))).toNat             ((0 : Int), (0 : Int), (0 : Int), [], [], [])).snd.fst.toNat <     r1.snd.length) then
                  bif decide   ((r1.snd.getD (IntKind.i64.wrap ((↑r1.snd.length : Int) - (1 : Int))).toNat             ((0 : Int), (0 : Int), (0 : Int), [], [], [])).snd.fst.toNat <     r1.snd.length) then
                   bif decide   ((r1.snd.getD (IntKind.i64.wrap ((↑r1.snd.length : Int) - (1 : Int))).toNat             ((0 : Int), (0 : Int), (0 : Int), [], [], [])).snd.fst.toNat <     r1.snd.length) then
                    bif decide ((IntKind.i64.wrap ((↑r1.snd.length : Int) - (1 : Int))).toNat < r1.snd.length) then
                     bif decide ((IntKind.i64.wrap ((↑r1.snd.length : Int) - (1 : Int))).toNat < r1.snd.length) then
                      bif decide ((IntKind.i64.wrap ((↑r1.snd.length : Int) - (1 : Int))).toNat < r1.snd.length) then
                       (spec_l6OwnPart ((r1.snd.getD (IntKind.i64.wrap ((↑r1.snd.length : Int) - (1 : Int))).toNat     ((0 : Int), (0 : Int), (0 : Int), [], [], [])).fst) ((r1.snd.getD (IntKind.i64.wrap ((↑r1.snd.length : Int) - (1 : Int))).toNat       ((0 : Int), (0 : Int), (0 : Int), [], [], [])).snd.fst) ((r1.snd.getD (IntKind.i64.wrap ((↑r1.snd.length : Int) - (1 : Int))).toNat         ((0 : Int), (0 : Int), (0 : Int), [], [], [])).snd.snd.fst) ((r1.snd.getD (IntKind.i64.wrap ((↑r1.snd.length : Int) - (1 : Int))).toNat           ((0 : Int), (0 : Int), (0 : Int), [], [], [])).snd.snd.snd.fst) ((r1.snd.getD (IntKind.i64.wrap ((↑r1.snd.length : Int) - (1 : Int))).toNat             ((0 : Int), (0 : Int), (0 : Int), [], [], [])).snd.snd.snd.snd.fst) ((r1.snd.getD (IntKind.i64.wrap ((↑r1.snd.length : Int) - (1 : Int))).toNat             ((0 : Int), (0 : Int), (0 : Int), [], [], [])).snd.snd.snd.snd.snd)).bind fun (r2 : Int × Int × Int × (List (Int × Int × Int)) × (List Int) × (List (List Int))) =>
                       bif decide ((IntKind.i64.wrap ((↑r1.snd.length : Int) - (1 : Int))).toNat < r1.snd.length) then
                        bif decide ((IntKind.i64.wrap ((↑r1.snd.length : Int) - (1 : Int))).toNat < r1.snd.length) then
                         bif decide ((IntKind.i64.wrap ((↑r1.snd.length : Int) - (1 : Int))).toNat < r1.snd.length) then
                          (spec_l6OwnPart ((r1.snd.getD (IntKind.i64.wrap ((↑r1.snd.length : Int) - (1 : Int))).toNat     ((0 : Int), (0 : Int), (0 : Int), [], [], [])).fst) ((r1.snd.getD (IntKind.i64.wrap ((↑r1.snd.length : Int) - (1 : Int))).toNat       ((0 : Int), (0 : Int), (0 : Int), [], [], [])).snd.fst) ((r1.snd.getD (IntKind.i64.wrap ((↑r1.snd.length : Int) - (1 : Int))).toNat         ((0 : Int), (0 : Int), (0 : Int), [], [], [])).snd.snd.fst) ((r1.snd.getD (IntKind.i64.wrap ((↑r1.snd.length : Int) - (1 : Int))).toNat           ((0 : Int), (0 : Int), (0 : Int), [], [], [])).snd.snd.snd.fst) ((r1.snd.getD (IntKind.i64.wrap ((↑r1.snd.length : Int) - (1 : Int))).toNat             ((0 : Int), (0 : Int), (0 : Int), [], [], [])).snd.snd.snd.snd.fst) ((r1.snd.getD (IntKind.i64.wrap ((↑r1.snd.length : Int) - (1 : Int))).toNat             ((0 : Int), (0 : Int), (0 : Int), [], [], [])).snd.snd.snd.snd.snd)).bind fun (r3 : Int × Int × Int × (List (Int × Int × Int)) × (List Int) × (List (List Int))) =>
                          bif decide (Option.none.getD (0 : Int) ≤ IntKind.i64.wrap ((↑r1.snd.length : Int) - (1 : Int))) then
                           bif decide (IntKind.i64.wrap ((↑r1.snd.length : Int) - (1 : Int)) ≤ (↑r1.snd.length : Int)) then
                            bif decide   ((List.take (IntKind.i64.wrap ((↑r1.snd.length : Int) - (1 : Int)) - Option.none.getD (0 : Int)).toNat           (List.drop (Option.none.getD (0 : Int)).toNat r1.snd)).length +       [(r2.fst,             (r1.snd.getD                   (r1.snd.getD (IntKind.i64.wrap ((↑r1.snd.length : Int) - (1 : Int))).toNat                           ((0 : Int), (0 : Int), (0 : Int), [], [], [])).snd.fst.toNat                   ((0 : Int), (0 : Int), (0 : Int), [], [], [])).snd.fst,             r2.snd.snd.fst, r2.snd.snd.snd.fst, r2.snd.snd.snd.snd.fst, r2.snd.snd.snd.snd.snd),           (r3.fst,             (r1.snd.getD                     (r1.snd.getD (IntKind.i64.wrap ((↑r1.snd.length : Int) - (1 : Int))).toNat                             ((0 : Int), (0 : Int), (0 : Int), [], [], [])).snd.fst.toNat                     ((0 : Int), (0 : Int), (0 : Int), [], [], [])).snd.snd.fst,             r3.snd.snd.fst, r3.snd.snd.snd.fst, r3.snd.snd.snd.snd.fst, r3.snd.snd.snd.snd.snd),           ((5 : Int), IntKind.i64.wrap ((↑r1.snd.length : Int) - (1 : Int)),             IntKind.i64.wrap (IntKind.i64.wrap ((↑r1.snd.length : Int) - (1 : Int)) + (1 : Int)), [], [],             [])].length ≤     (4294967296 : Nat)) then
                             ret (r1.fst, List.take (IntKind.i64.wrap ((↑r1.snd.length : Int) - (1 : Int)) - Option.none.getD (0 : Int)).toNat     (List.drop (Option.none.getD (0 : Int)).toNat r1.snd) ++   [(r2.fst,       (r1.snd.getD             (r1.snd.getD (IntKind.i64.wrap ((↑r1.snd.length : Int) - (1 : Int))).toNat                     ((0 : Int), (0 : Int), (0 : Int), [], [], [])).snd.fst.toNat             ((0 : Int), (0 : Int), (0 : Int), [], [], [])).snd.fst,       r2.snd.snd.fst, r2.snd.snd.snd.fst, r2.snd.snd.snd.snd.fst, r2.snd.snd.snd.snd.snd),     (r3.fst,       (r1.snd.getD               (r1.snd.getD (IntKind.i64.wrap ((↑r1.snd.length : Int) - (1 : Int))).toNat                       ((0 : Int), (0 : Int), (0 : Int), [], [], [])).snd.fst.toNat               ((0 : Int), (0 : Int), (0 : Int), [], [], [])).snd.snd.fst,       r3.snd.snd.fst, r3.snd.snd.snd.fst, r3.snd.snd.snd.snd.fst, r3.snd.snd.snd.snd.snd),     ((5 : Int), IntKind.i64.wrap ((↑r1.snd.length : Int) - (1 : Int)),       IntKind.i64.wrap (IntKind.i64.wrap ((↑r1.snd.length : Int) - (1 : Int)) + (1 : Int)), [], [], [])], Bool.true)
                            else
                             none
                           else
                            none
                          else
                           none
                         else
                          none
                        else
                         none
                       else
                        none
                      else
                       none
                     else
                      none
                    else
                     none
                   else
                    none
                  else
                   none
                 else
                  none
                else
                 none
               else
                none
              else
               none
           else
            none
          else
           none
         else
          none
       else
        none
      else
       none
     else
      none
    else
     none
   else
    none
  else
   none
theorem spec_PushDown.k (v0 : List Int) (v1 : List (Int × Int × Int × List (Int × Int × Int) × List Int × List (List Int))) : topL E (callT E tab) 5 Try.f5 (spec_PushDown.c v0 v1) = spec_PushDown.t (fun b => some (spec_PushDown.mk b)) v0 v1 := by kernel_rfl
theorem spec_PushDown.eq (v0 : List Int) (v1 : List (Int × Int × Int × List (Int × Int × Int) × List Int × List (List Int))) {b : (List Int) × (List (Int × Int × Int × List (Int × Int × Int) × List Int × List (List Int))) × Bool} (h : spec_PushDown.t some v0 v1 = some b) : spec_PushDown v0 v1 = some b := tOf_intro spec_PushDown.un (fun _ => by kernel_rfl) (vlim_fn (callT_le E tab) rfl rfl rfl ((spec_PushDown.k v0 v1).trans ((by unfold spec_PushDown.t; repeat' first | exact Sub.ret | exact Sub.none | exact Sub.loop | apply Sub.cond | (apply Sub.bind; intro _) : Sub spec_PushDown.mk _ _) b h)))
noncomputable def spec_l6Check.q2000026 (v0 : List Int) (v1 : List (Int × Int × Int × List (Int × Int × Int) × List Int × List (List Int))) (v2 : List Int) (v3 : List (Int × Int × Int × List (Int × Int × Int) × List Int × List (List Int))) (v4 : Int) (v5 : Int) : Option R := joinAtL E (callT E tab) 13 Try.f13 1 [.r, .r, .r, .r, .l, .r, .b, .o, .r, .r, .r] (nn 1 (⟨(.box false), [.d .fro (.sl (.int .i64)) v0, .d .fro (.sl (.pair (.int .i64) (.pair (.int .i64) (.pair (.int .i64) (.pair (.sl (.pair (.int .i64) (.pair (.int .i64) (.int .i64)))) (.pair (.sl (.int .i64)) (.sl (.sl (.int .i64))))))))) v1], false, false, false, 0, 0⟩ :: nn 4 (vc (.d .deep (.sl (.int .i64)) v2) :: nn 29 (vc (.d .fro (.sl (.pair (.int .i64) (.pair (.int .i64) (.pair (.int .i64) (.pair (.sl (.pair (.int .i64) (.pair (.int .i64) (.int .i64)))) (.pair (.sl (.int .i64)) (.sl (.sl (.int .i64))))))))) v3) :: vc (iL v4) :: vc (iL v5) :: nn 117 ([])))))
noncomputable def spec_l6Check.l2000026 (v0 : List Int) (v1 : List (Int × Int × Int × List (Int × Int × Int) × List Int × List (List Int))) (v2 : List Int) (v3 : List (Int × Int × Int × List (Int × Int × Int) × List Int × List (List Int))) (v4 : Int) (v5 : Int) : Option ((List Int) × Bool) := tOf spec_l6Check.mk (spec_l6Check.q2000026 v0 v1 v2 v3 v4 v5)
noncomputable def spec_l6Check.q2000019 (v0 : List Int) (v1 : List (Int × Int × Int × List (Int × Int × Int) × List Int × List (List Int))) (v2 : List Int) (v3 : Int) (v4 : Int) (v5 : Int) (v6 : List (Int × Int × Int)) (v7 : List Int) (v8 : List (List Int)) (v9 : List (Int × Int × Int × List (Int × Int × Int) × List Int × List (List Int))) (v10 : Int) (v11 : Int) : Option R := joinAtL E (callT E tab) 13 Try.f13 1 [.r, .r, .r, .r, .l, .r, .b, .o, .r, .r, .l, .b, .r, .r, .r, .l, .r, .l, .r, .l] (nn 1 (⟨(.box false), [.d .fro (.sl (.int .i64)) v0, .d .fro (.sl (.pair (.int .i64) (.pair (.int .i64) (.pair (.int .i64) (.pair (.sl (.pair (.int .i64) (.pair (.int .i64) (.int .i64)))) (.pair (.sl (.int .i64)) (.sl (.sl (.int .i64))))))))) v1], false, false, false, 0, 0⟩ :: nn 4 (vc (.d .deep (.sl (.int .i64)) v2) :: nn 1 (⟨(.box false), [iL v3, iL v4, iL v5, .d .fro (.sl (.pair (.int .i64) (.pair (.int .i64) (.int .i64)))) v6, .d .fro (.sl (.int .i64)) v7, .d .fro (.sl (.sl (.int .i64))) v8], false, false, false, 0, 0⟩ :: nn 27 (vc (.d .fro (.sl (.pair (.int .i64) (.pair (.int .i64) (.pair (.int .i64) (.pair (.sl (.pair (.int .i64) (.pair (.int .i64) (.int .i64)))) (.pair (.sl (.int .i64)) (.sl (.sl (.int .i64))))))))) v9) :: vc (iL v10) :: vc (iL v11) :: nn 117 ([]))))))
noncomputable def spec_l6Check.l2000019 (v0 : List Int) (v1 : List (Int × Int × Int × List (Int × Int × Int) × List Int × List (List Int))) (v2 : List Int) (v3 : Int) (v4 : Int) (v5 : Int) (v6 : List (Int × Int × Int)) (v7 : List Int) (v8 : List (List Int)) (v9 : List (Int × Int × Int × List (Int × Int × Int) × List Int × List (List Int))) (v10 : Int) (v11 : Int) : Option ((List Int) × Bool) := tOf spec_l6Check.mk (spec_l6Check.q2000019 v0 v1 v2 v3 v4 v5 v6 v7 v8 v9 v10 v11)
noncomputable def spec_l6Check.q2000022 (v0 : List Int) (v1 : List (Int × Int × Int × List (Int × Int × Int) × List Int × List (List Int))) (v2 : List Int) (v3 : Int) (v4 : Int) (v5 : Int) (v6 : List (Int × Int × Int)) (v7 : List Int) (v8 : List (List Int)) (v9 : List (Int × Int × Int × List (Int × Int × Int) × List Int × List (List Int))) (v10 : Int) (v11 : Int) : Option R := joinAtL E (callT E tab) 13 Try.f13 1 [.r, .r, .r, .r, .l, .r, .b, .o, .r, .r, .l, .b, .r, .r, .r, .r, .r, .l] (nn 1 (⟨(.box false), [.d .fro (.sl (.int .i64)) v0, .d .fro (.sl (.pair (.int .i64) (.pair (.int .i64) (.pair (.int .i64) (.pair (.sl (.pair (.int .i64) (.pair (.int .i64) (.int .i64)))) (.pair (.sl (.int .i64)) (.sl (.sl (.int .i64))))))))) v1], false, false, false, 0, 0⟩ :: nn 4 (vc (.d .deep (.sl (.int .i64)) v2) :: nn 1 (⟨(.box false), [iL v3, iL v4, iL v5, .d .fro (.sl (.pair (.int .i64) (.pair (.int .i64) (.int .i64)))) v6, .d .fro (.sl (.int .i64)) v7, .d .fro (.sl (.sl (.int .i64))) v8], false, false, false, 0, 0⟩ :: nn 27 (vc (.d .fro (.sl (.pair (.int .i64) (.pair (.int .i64) (.pair (.int .i64) (.pair (.sl (.pair (.int .i64) (.pair (.int .i64) (.int .i64)))) (.pair (.sl (.int .i64)) (.sl (.sl (.int .i64))))))))) v9) :: vc (iL v10) :: vc (iL v11) :: nn 117 ([]))))))
noncomputable def spec_l6Check.l2000022 (v0 : List Int) (v1 : List (Int × Int × Int × List (Int × Int × Int) × List Int × List (List Int))) (v2 : List Int) (v3 : Int) (v4 : Int) (v5 : Int) (v6 : List (Int × Int × Int)) (v7 : List Int) (v8 : List (List Int)) (v9 : List (Int × Int × Int × List (Int × Int × Int) × List Int × List (List Int))) (v10 : Int) (v11 : Int) : Option ((List Int) × Bool) := tOf spec_l6Check.mk (spec_l6Check.q2000022 v0 v1 v2 v3 v4 v5 v6 v7 v8 v9 v10 v11)
noncomputable def spec_l6Check.q2000016 (v0 : List Int) (v1 : List (Int × Int × Int × List (Int × Int × Int) × List Int × List (List Int))) (v2 : List Int) (v3 : Int) (v4 : Int) (v5 : Int) (v6 : Int) (v7 : List (Int × Int × Int)) (v8 : List Int) (v9 : List (List Int)) (v10 : Bool) (v11 : List (Int × Int × Int × List (Int × Int × Int) × List Int × List (List Int))) (v12 : Int) (v13 : Int) : Option R := joinAtL E (callT E tab) 13 Try.f13 1 [.r, .r, .r, .r, .l, .r, .b, .o, .r, .r, .l, .b, .r, .r, .r, .l, .l] (nn 1 (⟨(.box false), [.d .fro (.sl (.int .i64)) v0, .d .fro (.sl (.pair (.int .i64) (.pair (.int .i64) (.pair (.int .i64) (.pair (.sl (.pair (.int .i64) (.pair (.int .i64) (.int .i64)))) (.pair (.sl (.int .i64)) (.sl (.sl (.int .i64))))))))) v1], false, false, false, 0, 0⟩ :: nn 4 (vc (.d .deep (.sl (.int .i64)) v2) :: vc (iL v3) :: ⟨(.box false), [iL v4, iL v5, iL v6, .d .fro (.sl (.pair (.int .i64) (.pair (.int .i64) (.int .i64)))) v7, .d .fro (.sl (.int .i64)) v8, .d .fro (.sl (.sl (.int .i64))) v9], false, false, false, 0, 0⟩ :: vc (bL v10) :: nn 26 (vc (.d .fro (.sl (.pair (.int .i64) (.pair (.int .i64) (.pair (.int .i64) (.pair (.sl (.pair (.int .i64) (.pair (.int .i64) (.int .i64)))) (.pair (.sl (.int .i64)) (.sl (.sl (.int .i64))))))))) v11) :: vc (iL v12) :: vc (iL v13) :: nn 117 ([])))))
noncomputable def spec_l6Check.l2000016 (v0 : List Int) (v1 : List (Int × Int × Int × List (Int × Int × Int) × List Int × List (List Int))) (v2 : List Int) (v3 : Int) (v4 : Int) (v5 : Int) (v6 : Int) (v7 : List (Int × Int × Int)) (v8 : List Int) (v9 : List (List Int)) (v10 : Bool) (v11 : List (Int × Int × Int × List (Int × Int × Int) × List Int × List (List Int))) (v12 : Int) (v13 : Int) : Option ((List Int) × Bool) := tOf spec_l6Check.mk (spec_l6Check.q2000016 v0 v1 v2 v3 v4 v5 v6 v7 v8 v9 v10 v11 v12 v13)
noncomputable def spec_l6Check.q2000014 (v0 : List Int) (v1 : List (Int × Int × Int × List (Int × Int × Int) × List Int × List (List Int))) (v2 : List Int) (v3 : Int) (v4 : Int) (v5 : Int) (v6 : Int) (v7 : List (Int × Int × Int)) (v8 : List Int) (v9 : List (List Int)) (v10 : Bool) (v11 : List (Int × Int × Int × List (Int × Int × Int) × List Int × List (List Int))) (v12 : Int) (v13 : Int) : Option R := joinAtL E (callT E tab) 13 Try.f13 1 [.r, .r, .r, .r, .l, .r, .b, .o, .r, .r, .l, .b, .r, .r, .l, .l] (nn 1 (⟨(.box false), [.d .fro (.sl (.int .i64)) v0, .d .fro (.sl (.pair (.int .i64) (.pair (.int .i64) (.pair (.int .i64) (.pair (.sl (.pair (.int .i64) (.pair (.int .i64) (.int .i64)))) (.pair (.sl (.int .i64)) (.sl (.sl (.int .i64))))))))) v1], false, false, false, 0, 0⟩ :: nn 4 (vc (.d .deep (.sl (.int .i64)) v2) :: vc (iL v3) :: ⟨(.box false), [iL v4, iL v5, iL v6, .d .fro (.sl (.pair (.int .i64) (.pair (.int .i64) (.int .i64)))) v7, .d .fro (.sl (.int .i64)) v8, .d .fro (.sl (.sl (.int .i64))) v9], false, false, false, 0, 0⟩ :: vc (bL v10) :: nn 26 (vc (.d .fro (.sl (.pair (.int .i64) (.pair (.int .i64) (.pair (.int .i64) (.pair (.sl (.pair (.int .i64) (.pair (.int .i64) (.int .i64)))) (.pair (.sl (.int .i64)) (.sl (.sl (.int .i64))))))))) v11) :: vc (iL v12) :: vc (iL v13) :: nn 117 ([])))))
noncomputable def spec_l6Check.l2000014 (v0 : List Int) (v1 : List (Int × Int × Int × List (Int × Int × Int) × List Int × List (List Int))) (v2 : List Int) (v3 : Int) (v4 : Int) (v5 : Int) (v6 : Int) (v7 : List (Int × Int × Int)) (v8 : List Int) (v9 : List (List Int)) (v10 : Bool) (v11 : List (Int × Int × Int × List (Int × Int × Int) × List Int × List (List Int))) (v12 : Int) (v13 : Int) : Option ((List Int) × Bool) := tOf spec_l6Check.mk (spec_l6Check.q2000014 v0 v1 v2 v3 v4 v5 v6 v7 v8 v9 v10 v11 v12 v13)
noncomputable def spec_l6Check.q11 (v0 : List Int) (v1 : List (Int × Int × Int × List (Int × Int × Int) × List Int × List (List Int))) (v2 : List Int) (v3 : List (Int × Int × Int × List (Int × Int × Int) × List Int × List (List Int))) (v4 : Int) (v5 : Int) : Option R := loopAtL E (callT E tab) 13 Try.f13 1 [.r, .r, .r, .r, .l, .r, .b] (nn 1 (⟨(.box false), [.d .fro (.sl (.int .i64)) v0, .d .fro (.sl (.pair (.int .i64) (.pair (.int .i64) (.pair (.int .i64) (.pair (.sl (.pair (.int .i64) (.pair (.int .i64) (.int .i64)))) (.pair (.sl (.int .i64)) (.sl (.sl (.int .i64))))))))) v1], false, false, false, 0, 0⟩ :: nn 4 (vc (.d .deep (.sl (.int .i64)) v2) :: nn 29 (vc (.d .fro (.sl (.pair (.int .i64) (.pair (.int .i64) (.pair (.int .i64) (.pair (.sl (.pair (.int .i64) (.pair (.int .i64) (.int .i64)))) (.pair (.sl (.int .i64)) (.sl (.sl (.int .i64))))))))) v3) :: vc (iL v4) :: vc (iL v5) :: nn 117 ([])))))
noncomputable def spec_l6Check.l11 (v0 : List Int) (v1 : List (Int × Int × Int × List (Int × Int × Int) × List Int × List (List Int))) (v2 : List Int) (v3 : List (Int × Int × Int × List (Int × Int × Int) × List Int × List (List Int))) (v4 : Int) (v5 : Int) : Option ((List Int) × Bool) := tOf spec_l6Check.mk (spec_l6Check.q11 v0 v1 v2 v3 v4 v5)
noncomputable def spec_l6Check.q2000009 (v0 : List Int) (v1 : List (Int × Int × Int × List (Int × Int × Int) × List Int × List (List Int))) : Option R := joinAtL E (callT E tab) 13 Try.f13 1 [.r, .r, .r, .l] (nn 1 (⟨(.box false), [.d .fro (.sl (.int .i64)) v0, .d .fro (.sl (.pair (.int .i64) (.pair (.int .i64) (.pair (.int .i64) (.pair (.sl (.pair (.int .i64) (.pair (.int .i64) (.int .i64)))) (.pair (.sl (.int .i64)) (.sl (.sl (.int .i64))))))))) v1], false, false, false, 0, 0⟩ :: nn 154 ([])))
noncomputable def spec_l6Check.l2000009 (v0 : List Int) (v1 : List (Int × Int × Int × List (Int × Int × Int) × List Int × List (List Int))) : Option ((List Int) × Bool) := tOf spec_l6Check.mk (spec_l6Check.q2000009 v0 v1)
noncomputable def spec_l6Check.q2 (v0 : List Int) (v1 : List (Int × Int × Int × List (Int × Int × Int) × List Int × List (List Int))) (v2 : List Int) (v3 : Int) (v4 : Int) : Option R := loopAtL E (callT E tab) 13 Try.f13 1 [.r, .l, .r, .b] (nn 1 (⟨(.box false), [.d .fro (.sl (.int .i64)) v0, .d .fro (.sl (.pair (.int .i64) (.pair (.int .i64) (.pair (.int .i64) (.pair (.sl (.pair (.int .i64) (.pair (.int .i64) (.int .i64)))) (.pair (.sl (.int .i64)) (.sl (.sl (.int .i64))))))))) v1], false, false, false, 0, 0⟩ :: nn 11 (vc (.d .fro (.sl (.int .i64)) v2) :: vc (iL v3) :: vc (iL v4) :: nn 140 ([]))))
noncomputable def spec_l6Check.l2 (v0 : List Int) (v1 : List (Int × Int × Int × List (Int × Int × Int) × List Int × List (List Int))) (v2 : List Int) (v3 : Int) (v4 : Int) : Option ((List Int) × Bool) := tOf spec_l6Check.mk (spec_l6Check.q2 v0 v1 v2 v3 v4)
noncomputable def spec_l6Check.t {γ : Type} (ret : ((List Int) × Bool) → Option γ) (lp2000026 : (List Int) → (List (Int × Int × Int × List (Int × Int × Int) × List Int × List (List Int))) → (List Int) → (List (Int × Int × Int × List (Int × Int × Int) × List Int × List (List Int))) → Int → Int → Option γ) (lp2000019 : (List Int) → (List (Int × Int × Int × List (Int × Int × Int) × List Int × List (List Int))) → (List Int) → Int → Int → Int → (List (Int × Int × Int)) → (List Int) → (List (List Int)) → (List (Int × Int × Int × List (Int × Int × Int) × List Int × List (List Int))) → Int → Int → Option γ) (lp2000022 : (List Int) → (List (Int × Int × Int × List (Int × Int × Int) × List Int × List (List Int))) → (List Int) → Int → Int → Int → (List (Int × Int × Int)) → (List Int) → (List (List Int)) → (List (Int × Int × Int × List (Int × Int × Int) × List Int × List (List Int))) → Int → Int → Option γ) (lp2000016 : (List Int) → (List (Int × Int × Int × List (Int × Int × Int) × List Int × List (List Int))) → (List Int) → Int → Int → Int → Int → (List (Int × Int × Int)) → (List Int) → (List (List Int)) → Bool → (List (Int × Int × Int × List (Int × Int × Int) × List Int × List (List Int))) → Int → Int → Option γ) (lp2000014 : (List Int) → (List (Int × Int × Int × List (Int × Int × Int) × List Int × List (List Int))) → (List Int) → Int → Int → Int → Int → (List (Int × Int × Int)) → (List Int) → (List (List Int)) → Bool → (List (Int × Int × Int × List (Int × Int × Int) × List Int × List (List Int))) → Int → Int → Option γ) (lp11 : (List Int) → (List (Int × Int × Int × List (Int × Int × Int) × List Int × List (List Int))) → (List Int) → (List (Int × Int × Int × List (Int × Int × Int) × List Int × List (List Int))) → Int → Int → Option γ) (lp2000009 : (List Int) → (List (Int × Int × Int × List (Int × Int × Int) × List Int × List (List Int))) → Option γ) (lp2 : (List Int) → (List (Int × Int × Int × List (Int × Int × Int) × List Int × List (List Int))) → (List Int) → Int → Int → Option γ) (v0 : List Int) (v1 : List (Int × Int × Int × List (Int × Int × Int) × List Int × List (List Int))) : Option γ :=
 lp2 (v0) (v1) (v0) ((↑v0.length : Int)) ((0 : Int))
noncomputable def spec_l6Check.t2000026 {γ : Type} (ret : ((List Int) × Bool) → Option γ) (lp2000026 : (List Int) → (List (Int × Int × Int × List (Int × Int × Int) × List Int × List (List Int))) → (List Int) → (List (Int × Int × Int × List (Int × Int × Int) × List Int × List (List Int))) → Int → Int → Option γ) (lp2000019 : (List Int) → (List (Int × Int × Int × List (Int × Int × Int) × List Int × List (List Int))) → (List Int) → Int → Int → Int → (List (Int × Int × Int)) → (List Int) → (List (List Int)) → (List (Int × Int × Int × List (Int × Int × Int) × List Int × List (List Int))) → Int → Int → Option γ) (lp2000022 : (List Int) → (List (Int × Int × Int × List (Int × Int × Int) × List Int × List (List Int))) → (List Int) → Int → Int → Int → (List (Int × Int × Int)) → (List Int) → (List (List Int)) → (List (Int × Int × Int × List (Int × Int × Int) × List Int × List (List Int))) → Int → Int → Option γ) (lp2000016 : (List Int) → (List (Int × Int × Int × List (Int × Int × Int) × List Int × List (List Int))) → (List Int) → Int → Int → Int → Int → (List (Int × Int × Int)) → (List Int) → (List (List Int)) → Bool → (List (Int × Int × Int × List (Int × Int × Int) × List Int × List (List Int))) → Int → Int → Option γ) (lp2000014 : (List Int) → (List (Int × Int × Int × List (Int × Int × Int) × List Int × List (List Int))) → (List Int) → Int → Int → Int → Int → (List (Int × Int × Int)) → (List Int) → (List (List Int)) → Bool → (List (Int × Int × Int × List (Int × Int × Int) × List Int × List (List Int))) → Int → Int → Option γ) (lp11 : (List Int) → (List (Int × Int × Int × List (Int × Int × Int) × List Int × List (List Int))) → (List Int) → (List (Int × Int × Int × List (Int × Int × Int) × List Int × List (List Int))) → Int → Int → Option γ) (lp2000009 : (List Int) → (List (Int × Int × Int × List (Int × Int × Int) × List Int × List (List Int))) → Option γ) (lp2 : (List Int) → (List (Int × Int × Int × List (Int × Int × Int) × List Int × List (List Int))) → (List Int) → Int → Int → Option γ) (v0 : List Int) (v1 : List (Int × Int × Int × List (Int × Int × Int) × List Int × List (List Int))) (v2 : List Int) (v3 : List (Int × Int × Int × List (Int × Int × Int) × List Int × List (List Int))) (v4 : Int) (v5 : Int) : Option γ :=
 lp11 (v0) (v1) (v2) (v3) (v4) (IntKind.i64.wrap (v5 + (1 : Int)))
noncomputable def spec_l6Check.t2000019 {γ : Type} (ret : ((List Int) × Bool) → Option γ) (lp2000026 : (List Int) → (List (Int × Int × Int × List (Int × Int × Int) × List Int × List (List Int))) → (List Int) → (List (Int × Int × Int × List (Int × Int × Int) × List Int × List (List Int))) → Int → Int → Option γ) (lp2000019 : (List Int) → (List (Int × Int × Int × List (Int × Int × Int) × List Int × List (List Int))) → (List Int) → Int → Int → Int → (List (Int × Int × Int)) → (List Int) → (List (List Int)) → (List (Int × Int × Int × List (Int × Int × Int) × List Int × List (List Int))) → Int → Int → Option γ) (lp2000022 : (List Int) → (List (Int × Int × Int × List (Int × Int × Int) × List Int × List (List Int))) → (List Int) → Int → Int → Int → (List (Int × Int × Int)) → (List Int) → (List (List Int)) → (List (Int × Int × Int × List (Int × Int × Int) × List Int × List (List Int))) → Int → Int → Option γ) (lp2000016 : (List Int) → (List (Int × Int × Int × List (Int × Int × Int) × List Int × List (List Int))) → (List Int) → Int → Int → Int → Int → (List (Int × Int × Int)) → (List Int) → (List (List Int)) → Bool → (List (Int × Int × Int × List (Int × Int × Int) × List Int × List (List Int))) → Int → Int → Option γ) (lp2000014 : (List Int) → (List (Int × Int × Int × List (Int × Int × Int) × List Int × List (List Int))) → (List Int) → Int → Int → Int → Int → (List (Int × Int × Int)) → (List Int) → (List (List Int)) → Bool → (List (Int × Int × Int × List (Int × Int × Int) × List Int × List (List Int))) → Int → Int → Option γ) (lp11 : (List Int) → (List (Int × Int × Int × List (Int × Int × Int) × List Int × List (List Int))) → (List Int) → (List (Int × Int × Int × List (Int × Int × Int) × List Int × List (List Int))) → Int → Int → Option γ) (lp2000009 : (List Int) → (List (Int × Int × Int × List (Int × Int × Int) × List Int × List (List Int))) → Option γ) (lp2 : (List Int) → (List (Int × Int × Int × List (Int × Int × Int) × List Int × List (List Int))) → (List Int) → Int → Int → Option γ) (v0 : List Int) (v1 : List (Int × Int × Int × List (Int × Int × Int) × List Int × List (List Int))) (v2 : List Int) (v3 : Int) (v4 : Int) (v5 : Int) (v6 : List (Int × Int × Int)) (v7 : List Int) (v8 : List (List Int)) (v9 : List (Int × Int × Int × List (Int × Int × Int) × List Int × List (List Int))) (v10 : Int) (v11 : Int) : Option γ :=
 bif decide ((0 : Int) ≤ v4) then
  bif decide (v4.toNat < v0.length) then
   bif decide (v2.length + [v0.getD v4.toNat (0 : Int)].length ≤ (4294967296 : Nat)) then
    lp2000026 (v0) (v1) (v2 ++ [v0.getD v4.toNat (0 : Int)]) (v9) (v10) (v11)
   else
    none
  else
   none
 else
  none
noncomputable def spec_l6Check.t2000022 {γ : Type} (ret : ((List Int) × Bool) → Option γ) (lp2000026 : (List Int) → (List (Int × Int × Int × List (Int × Int × Int) × List Int × List (List Int))) → (List Int) → (List (Int × Int × Int × List (Int × Int × Int) × List Int × List (List Int))) → Int → Int → Option γ) (lp2000019 : (List Int) → (List (Int × Int × Int × List (Int × Int × Int) × List Int × List (List Int))) → (List Int) → Int → Int → Int → (List (Int × Int × Int)) → (List Int) → (List (List Int)) → (List (Int × Int × Int × List (Int × Int × Int) × List Int × List (List Int))) → Int → Int → Option γ) (lp2000022 : (List Int) → (List (Int × Int × Int × List (Int × Int × Int) × List Int × List (List Int))) → (List Int) → Int → Int → Int → (List (Int × Int × Int)) → (List Int) → (List (List Int)) → (List (Int × Int × Int × List (Int × Int × Int) × List Int × List (List Int))) → Int → Int → Option γ) (lp2000016 : (List Int) → (List (Int × Int × Int × List (Int × Int × Int) × List Int × List (List Int))) → (List Int) → Int → Int → Int → Int → (List (Int × Int × Int)) → (List Int) → (List (List Int)) → Bool → (List (Int × Int × Int × List (Int × Int × Int) × List Int × List (List Int))) → Int → Int → Option γ) (lp2000014 : (List Int) → (List (Int × Int × Int × List (Int × Int × Int) × List Int × List (List Int))) → (List Int) → Int → Int → Int → Int → (List (Int × Int × Int)) → (List Int) → (List (List Int)) → Bool → (List (Int × Int × Int × List (Int × Int × Int) × List Int × List (List Int))) → Int → Int → Option γ) (lp11 : (List Int) → (List (Int × Int × Int × List (Int × Int × Int) × List Int × List (List Int))) → (List Int) → (List (Int × Int × Int × List (Int × Int × Int) × List Int × List (List Int))) → Int → Int → Option γ) (lp2000009 : (List Int) → (List (Int × Int × Int × List (Int × Int × Int) × List Int × List (List Int))) → Option γ) (lp2 : (List Int) → (List (Int × Int × Int × List (Int × Int × Int) × List Int × List (List Int))) → (List Int) → Int → Int → Option γ) (v0 : List Int) (v1 : List (Int × Int × Int × List (Int × Int × Int) × List Int × List (List Int))) (v2 : List Int) (v3 : Int) (v4 : Int) (v5 : Int) (v6 : List (Int × Int × Int)) (v7 : List Int) (v8 : List (List Int)) (v9 : List (Int × Int × Int × List (Int × Int × Int) × List Int × List (List Int))) (v10 : Int) (v11 : Int) : Option γ :=
 (spec_l6Columns (v3) (v4) (v5) (v6) (v7) (v8) (v2)).bind fun (r3 : Int × Bool) =>
 bif !r3.snd then
  ret ([], Bool.false)
 else
  bif decide (v2.length + [r3.fst].length ≤ (4294967296 : Nat)) then
   lp2000026 (v0) (v1) (v2 ++ [r3.fst]) (v9) (v10) (v11)
  else
   none
noncomputable def spec_l6Check.t2000016 {γ : Type} (ret : ((List Int) × Bool) → Option γ) (lp2000026 : (List Int) → (List (Int × Int × Int × List (Int × Int × Int) × List Int × List (List Int))) → (List Int) → (List (Int × Int × Int × List (Int × Int × Int) × List Int × List (List Int))) → Int → Int → Option γ) (lp2000019 : (List Int) → (List (Int × Int × Int × List (Int × Int × Int) × List Int × List (List Int))) → (List Int) → Int → Int → Int → (List (Int × Int × Int)) → (List Int) → (List (List Int)) → (List (Int × Int × Int × List (Int × Int × Int) × List Int × List (List Int))) → Int → Int → Option γ) (lp2000022 : (List Int) → (List (Int × Int × Int × List (Int × Int × Int) × List Int × List (List Int))) → (List Int) → Int → Int → Int → (List (Int × Int × Int)) → (List Int) → (List (List Int)) → (List (Int × Int × Int × List (Int × Int × Int) × List Int × List (List Int))) → Int → Int → Option γ) (lp2000016 : (List Int) → (List (Int × Int × Int × List (Int × Int × Int) × List Int × List (List Int))) → (List Int) → Int → Int → Int → Int → (List (Int × Int × Int)) → (List Int) → (List (List Int)) → Bool → (List (Int × Int × Int × List (Int × Int × Int) × List Int × List (List Int))) → Int → Int → Option γ) (lp2000014 : (List Int) → (List (Int × Int × Int × List (Int × Int × Int) × List Int × List (List Int))) → (List Int) → Int → Int → Int → Int → (List (Int × Int × Int)) → (List Int) → (List (List Int)) → Bool → (List (Int × Int × Int × List (Int × Int × Int) × List Int × List (List Int))) → Int → Int → Option γ) (lp11 : (List Int) → (List (Int × Int × Int × List (Int × Int × Int) × List Int × List (List Int))) → (List Int) → (List (Int × Int × Int × List (Int × Int × Int) × List Int × List (List Int))) → Int → Int → Option γ) (lp2000009 : (List Int) → (List (Int × Int × Int × List (Int × Int × Int) × List Int × List (List Int))) → Option γ) (lp2 : (List Int) → (List (Int × Int × Int × List (Int × Int × Int) × List Int × List (List Int))) → (List Int) → Int → Int → Option γ) (v0 : List Int) (v1 : List (Int × Int × Int × List (Int × Int × Int) × List Int × List (List Int))) (v2 : List Int) (v3 : Int) (v4 : Int) (v5 : Int) (v6 : Int) (v7 : List (Int × Int × Int)) (v8 : List Int) (v9 : List (List Int)) (v10 : Bool) (v11 : List (Int × Int × Int × List (Int × Int × Int) × List Int × List (List Int))) (v12 : Int) (v13 : Int) : Option γ :=
 bif v4 == (1 : Int) then
  bif decide (v5 < (0 : Int)) then
   ret ([], Bool.false)
  else
   bif decide (v5 ≥ (↑v0.length : Int)) then
    ret ([], Bool.false)
   else
    lp2000019 (v0) (v1) (v2) (v4) (v5) (v6) (v7) (v8) (v9) (v11) (v12) (v13)
 else
  bif decide (v5 < (0 : Int)) then
   ret ([], Bool.false)
  else
   bif decide (v5 ≥ v3) then
    ret ([], Bool.false)
   else
    bif v10 then
     bif decide (v6 < (0 : Int)) then
      ret ([], Bool.false)
     else
      bif decide (v6 ≥ v3) then
       ret ([], Bool.false)
      else
       lp2000022 (v0) (v1) (v2) (v4) (v5) (v6) (v7) (v8) (v9) (v11) (v12) (v13)
    else
     lp2000022 (v0) (v1) (v2) (v4) (v5) (v6) (v7) (v8) (v9) (v11) (v12) (v13)
noncomputable def spec_l6Check.t2000014 {γ : Type} (ret : ((List Int) × Bool) → Option γ) (lp2000026 : (List Int) → (List (Int × Int × Int × List (Int × Int × Int) × List Int × List (List Int))) → (List Int) → (List (Int × Int × Int × List (Int × Int × Int) × List Int × List (List Int))) → Int → Int → Option γ) (lp2000019 : (List Int) → (List (Int × Int × Int × List (Int × Int × Int) × List Int × List (List Int))) → (List Int) → Int → Int → Int → (List (Int × Int × Int)) → (List Int) → (List (List Int)) → (List (Int × Int × Int × List (Int × Int × Int) × List Int × List (List Int))) → Int → Int → Option γ) (lp2000022 : (List Int) → (List (Int × Int × Int × List (Int × Int × Int) × List Int × List (List Int))) → (List Int) → Int → Int → Int → (List (Int × Int × Int)) → (List Int) → (List (List Int)) → (List (Int × Int × Int × List (Int × Int × Int) × List Int × List (List Int))) → Int → Int → Option γ) (lp2000016 : (List Int) → (List (Int × Int × Int × List (Int × Int × Int) × List Int × List (List Int))) → (List Int) → Int → Int → Int → Int → (List (Int × Int × Int)) → (List Int) → (List (List Int)) → Bool → (List (Int × Int × Int × List (Int × Int × Int) × List Int × List (List Int))) → Int → Int → Option γ) (lp2000014 : (List Int) → (List (Int × Int × Int × List (Int × Int × Int) × List Int × List (List Int))) → (List Int) → Int → Int → Int → Int → (List (Int × Int × Int)) → (List Int) → (List (List Int)) → Bool → (List (Int × Int × Int × List (Int × Int × Int) × List Int × List (List Int))) → Int → Int → Option γ) (lp11 : (List Int) → (List (Int × Int × Int × List (Int × Int × Int) × List Int × List (List Int))) → (List Int) → (List (Int × Int × Int × List (Int × Int × Int) × List Int × List (List Int))) → Int → Int → Option γ) (lp2000009 : (List Int) → (List (Int × Int × Int × List (Int × Int × Int) × List Int × List (List Int))) → Option γ) (lp2 : (List Int) → (List (Int × Int × Int × List (Int × Int × Int) × List Int × List (List Int))) → (List Int) → Int → Int → Option γ) (v0 : List Int) (v1 : List (Int × Int × Int × List (Int × Int × Int) × List Int × List (List Int))) (v2 : List Int) (v3 : Int) (v4 : Int) (v5 : Int) (v6 : Int) (v7 : List (Int × Int × Int)) (v8 : List Int) (v9 : List (List Int)) (v10 : Bool) (v11 : List (Int × Int × Int × List (Int × Int × Int) × List Int × List (List Int))) (v12 : Int) (v13 : Int) : Option γ :=
 bif v4 != (2 : Int) then
  bif decide ((↑v7.length : Int) > (0 : Int)) then
   ret ([], Bool.false)
  else
   bif v4 != (3 : Int) then
    bif decide ((↑v8.length : Int) > (0 : Int)) then
     ret ([], Bool.false)
    else
     bif v4 != (4 : Int) then
      bif decide ((↑v9.length : Int) > (0 : Int)) then
       ret ([], Bool.false)
      else
       bif !v10 then
        bif v6 != (0 : Int) then
         ret ([], Bool.false)
        else
         lp2000016 (v0) (v1) (v2) (v3) (v4) (v5) (v6) (v7) (v8) (v9) (v10) (v11) (v12) (v13)
       else
        lp2000016 (v0) (v1) (v2) (v3) (v4) (v5) (v6) (v7) (v8) (v9) (v10) (v11) (v12) (v13)
     else
      bif !v10 then
       bif v6 != (0 : Int) then
        ret ([], Bool.false)
       else
        lp2000016 (v0) (v1) (v2) (v3) (v4) (v5) (v6) (v7) (v8) (v9) (v10) (v11) (v12) (v13)
      else
       lp2000016 (v0) (v1) (v2) (v3) (v4) (v5) (v6) (v7) (v8) (v9) (v10) (v11) (v12) (v13)
   else
    bif v4 != (4 : Int) then
     bif decide ((↑v9.length : Int) > (0 : Int)) then
      ret ([], Bool.false)
     else
      bif !v10 then
       bif v6 != (0 : Int) then
        ret ([], Bool.false)
       else
        lp2000016 (v0) (v1) (v2) (v3) (v4) (v5) (v6) (v7) (v8) (v9) (v10) (v11) (v12) (v13)
      else
       lp2000016 (v0) (v1) (v2) (v3) (v4) (v5) (v6) (v7) (v8) (v9) (v10) (v11) (v12) (v13)
    else
     bif !v10 then
      bif v6 != (0 : Int) then
       ret ([], Bool.false)
      else
       lp2000016 (v0) (v1) (v2) (v3) (v4) (v5) (v6) (v7) (v8) (v9) (v10) (v11) (v12) (v13)
     else
      lp2000016 (v0) (v1) (v2) (v3) (v4) (v5) (v6) (v7) (v8) (v9) (v10) (v11) (v12) (v13)
 else
  bif v4 != (3 : Int) then
   bif decide ((↑v8.length : Int) > (0 : Int)) then
    ret ([], Bool.false)
   else
    bif v4 != (4 : Int) then
     bif decide ((↑v9.length : Int) > (0 : Int)) then
      ret ([], Bool.false)
     else
      bif !v10 then
       bif v6 != (0 : Int) then
        ret ([], Bool.false)
       else
        lp2000016 (v0) (v1) (v2) (v3) (v4) (v5) (v6) (v7) (v8) (v9) (v10) (v11) (v12) (v13)
      else
       lp2000016 (v0) (v1) (v2) (v3) (v4) (v5) (v6) (v7) (v8) (v9) (v10) (v11) (v12) (v13)
    else
     bif !v10 then
      bif v6 != (0 : Int) then
       ret ([], Bool.false)
      else
       lp2000016 (v0) (v1) (v2) (v3) (v4) (v5) (v6) (v7) (v8) (v9) (v10) (v11) (v12) (v13)
     else
      lp2000016 (v0) (v1) (v2) (v3) (v4) (v5) (v6) (v7) (v8) (v9) (v10) (v11) (v12) (v13)
  else
   bif v4 != (4 : Int) then
    bif decide ((↑v9.length : Int) > (0 : Int)) then
     ret ([], Bool.false)
    else
     bif !v10 then
      bif v6 != (0 : Int) then
       ret ([], Bool.false)
      else
       lp2000016 (v0) (v1) (v2) (v3) (v4) (v5) (v6) (v7) (v8) (v9) (v10) (v11) (v12) (v13)
     else
      lp2000016 (v0) (v1) (v2) (v3) (v4) (v5) (v6) (v7) (v8) (v9) (v10) (v11) (v12) (v13)
   else
    bif !v10 then
     bif v6 != (0 : Int) then
      ret ([], Bool.false)
     else
      lp2000016 (v0) (v1) (v2) (v3) (v4) (v5) (v6) (v7) (v8) (v9) (v10) (v11) (v12) (v13)
    else
     lp2000016 (v0) (v1) (v2) (v3) (v4) (v5) (v6) (v7) (v8) (v9) (v10) (v11) (v12) (v13)
noncomputable def spec_l6Check.t11 {γ : Type} (ret : ((List Int) × Bool) → Option γ) (lp2000026 : (List Int) → (List (Int × Int × Int × List (Int × Int × Int) × List Int × List (List Int))) → (List Int) → (List (Int × Int × Int × List (Int × Int × Int) × List Int × List (List Int))) → Int → Int → Option γ) (lp2000019 : (List Int) → (List (Int × Int × Int × List (Int × Int × Int) × List Int × List (List Int))) → (List Int) → Int → Int → Int → (List (Int × Int × Int)) → (List Int) → (List (List Int)) → (List (Int × Int × Int × List (Int × Int × Int) × List Int × List (List Int))) → Int → Int → Option γ) (lp2000022 : (List Int) → (List (Int × Int × Int × List (Int × Int × Int) × List Int × List (List Int))) → (List Int) → Int → Int → Int → (List (Int × Int × Int)) → (List Int) → (List (List Int)) → (List (Int × Int × Int × List (Int × Int × Int) × List Int × List (List Int))) → Int → Int → Option γ) (lp2000016 : (List Int) → (List (Int × Int × Int × List (Int × Int × Int) × List Int × List (List Int))) → (List Int) → Int → Int → Int → Int → (List (Int × Int × Int)) → (List Int) → (List (List Int)) → Bool → (List (Int × Int × Int × List (Int × Int × Int) × List Int × List (List Int))) → Int → Int → Option γ) (lp2000014 : (List Int) → (List (Int × Int × Int × List (Int × Int × Int) × List Int × List (List Int))) → (List Int) → Int → Int → Int → Int → (List (Int × Int × Int)) → (List Int) → (List (List Int)) → Bool → (List (Int × Int × Int × List (Int × Int × Int) × List Int × List (List Int))) → Int → Int → Option γ) (lp11 : (List Int) → (List (Int × Int × Int × List (Int × Int × Int) × List Int × List (List Int))) → (List Int) → (List (Int × Int × Int × List (Int × Int × Int) × List Int × List (List Int))) → Int → Int → Option γ) (lp2000009 : (List Int) → (List (Int × Int × Int × List (Int × Int × Int) × List Int × List (List Int))) → Option γ) (lp2 : (List Int) → (List (Int × Int × Int × List (Int × Int × Int) × List Int × List (List Int))) → (List Int) → Int → Int → Option γ) (v0 : List Int) (v1 : List (Int × Int × Int × List (Int × Int × Int) × List Int × List (List Int))) (v2 : List Int) (v3 : List (Int × Int × Int × List (Int × Int × Int) × List Int × List (List Int))) (v4 : Int) (v5 : Int) : Option γ :=
 bif decide (v5 < v4) then
  bif decide ((0 : Int) ≤ v5) then
   bif decide (v5.toNat < v3.length) then
    bif (v3.getD v5.toNat ((0 : Int), (0 : Int), (0 : Int), [], [], [])).fst == (4 : Int) then
     lp2000014 (v0) (v1) (v2) (v5) ((v3.getD v5.toNat ((0 : Int), (0 : Int), (0 : Int), [], [], [])).fst) ((v3.getD v5.toNat ((0 : Int), (0 : Int), (0 : Int), [], [], [])).snd.fst) ((v3.getD v5.toNat ((0 : Int), (0 : Int), (0 : Int), [], [], [])).snd.snd.fst) ((v3.getD v5.toNat ((0 : Int), (0 : Int), (0 : Int), [], [], [])).snd.snd.snd.fst) ((v3.getD v5.toNat ((0 : Int), (0 : Int), (0 : Int), [], [], [])).snd.snd.snd.snd.fst) ((v3.getD v5.toNat ((0 : Int), (0 : Int), (0 : Int), [], [], [])).snd.snd.snd.snd.snd) (Bool.true) (v3) (v4) (v5)
    else
     bif (v3.getD v5.toNat ((0 : Int), (0 : Int), (0 : Int), [], [], [])).fst == (5 : Int) then
      lp2000014 (v0) (v1) (v2) (v5) ((v3.getD v5.toNat ((0 : Int), (0 : Int), (0 : Int), [], [], [])).fst) ((v3.getD v5.toNat ((0 : Int), (0 : Int), (0 : Int), [], [], [])).snd.fst) ((v3.getD v5.toNat ((0 : Int), (0 : Int), (0 : Int), [], [], [])).snd.snd.fst) ((v3.getD v5.toNat ((0 : Int), (0 : Int), (0 : Int), [], [], [])).snd.snd.snd.fst) ((v3.getD v5.toNat ((0 : Int), (0 : Int), (0 : Int), [], [], [])).snd.snd.snd.snd.fst) ((v3.getD v5.toNat ((0 : Int), (0 : Int), (0 : Int), [], [], [])).snd.snd.snd.snd.snd) (Bool.true) (v3) (v4) (v5)
     else
      lp2000014 (v0) (v1) (v2) (v5) ((v3.getD v5.toNat ((0 : Int), (0 : Int), (0 : Int), [], [], [])).fst) ((v3.getD v5.toNat ((0 : Int), (0 : Int), (0 : Int), [], [], [])).snd.fst) ((v3.getD v5.toNat ((0 : Int), (0 : Int), (0 : Int), [], [], [])).snd.snd.fst) ((v3.getD v5.toNat ((0 : Int), (0 : Int), (0 : Int), [], [], [])).snd.snd.snd.fst) ((v3.getD v5.toNat ((0 : Int), (0 : Int), (0 : Int), [], [], [])).snd.snd.snd.snd.fst) ((v3.getD v5.toNat ((0 : Int), (0 : Int), (0 : Int), [], [], [])).snd.snd.snd.snd.snd) ((v3.getD v5.toNat ((0 : Int), (0 : Int), (0 : Int), [], [], [])).fst == (6 : Int)) (v3) (v4) (v5)
   else
    none
  else
   none
 else
  ret (v2, Bool.true)
noncomputable def spec_l6Check.t2000009 {γ : Type} (ret : ((List Int) × Bool) → Option γ) (lp2000026 : (List Int) → (List (Int × Int × Int × List (Int × Int × Int) × List Int × List (List Int))) → (List Int) → (List (Int × Int × Int × List (Int × Int × Int) × List Int × List (List Int))) → Int → Int → Option γ) (lp2000019 : (List Int) → (List (Int × Int × Int × List (Int × Int × Int) × List Int × List (List Int))) → (List Int) → Int → Int → Int → (List (Int × Int × Int)) → (List Int) → (List (List Int)) → (List (Int × Int × Int × List (Int × Int × Int) × List Int × List (List Int))) → Int → Int → Option γ) (lp2000022 : (List Int) → (List (Int × Int × Int × List (Int × Int × Int) × List Int × List (List Int))) → (List Int) → Int → Int → Int → (List (Int × Int × Int)) → (List Int) → (List (List Int)) → (List (Int × Int × Int × List (Int × Int × Int) × List Int × List (List Int))) → Int → Int → Option γ) (lp2000016 : (List Int) → (List (Int × Int × Int × List (Int × Int × Int) × List Int × List (List Int))) → (List Int) → Int → Int → Int → Int → (List (Int × Int × Int)) → (List Int) → (List (List Int)) → Bool → (List (Int × Int × Int × List (Int × Int × Int) × List Int × List (List Int))) → Int → Int → Option γ) (lp2000014 : (List Int) → (List (Int × Int × Int × List (Int × Int × Int) × List Int × List (List Int))) → (List Int) → Int → Int → Int → Int → (List (Int × Int × Int)) → (List Int) → (List (List Int)) → Bool → (List (Int × Int × Int × List (Int × Int × Int) × List Int × List (List Int))) → Int → Int → Option γ) (lp11 : (List Int) → (List (Int × Int × Int × List (Int × Int × Int) × List Int × List (List Int))) → (List Int) → (List (Int × Int × Int × List (Int × Int × Int) × List Int × List (List Int))) → Int → Int → Option γ) (lp2000009 : (List Int) → (List (Int × Int × Int × List (Int × Int × Int) × List Int × List (List Int))) → Option γ) (lp2 : (List Int) → (List (Int × Int × Int × List (Int × Int × Int) × List Int × List (List Int))) → (List Int) → Int → Int → Option γ) (v0 : List Int) (v1 : List (Int × Int × Int × List (Int × Int × Int) × List Int × List (List Int))) : Option γ :=
 lp11 (v0) (v1) ([]) (v1) ((↑v1.length : Int)) ((0 : Int))
noncomputable def spec_l6Check.t2 {γ : Type} (ret : ((List Int) × Bool) → Option γ) (lp2000026 : (List Int) → (List (Int × Int × Int × List (Int × Int × Int) × List Int × List (List Int))) → (List Int) → (List (Int × Int × Int × List (Int × Int × Int) × List Int × List (List Int))) → Int → Int → Option γ) (lp2000019 : (List Int) → (List (Int × Int × Int × List (Int × Int × Int) × List Int × List (List Int))) → (List Int) → Int → Int → Int → (List (Int × Int × Int)) → (List Int) → (List (List Int)) → (List (Int × Int × Int × List (Int × Int × Int) × List Int × List (List Int))) → Int → Int → Option γ) (lp2000022 : (List Int) → (List (Int × Int × Int × List (Int × Int × Int) × List Int × List (List Int))) → (List Int) → Int → Int → Int → (List (Int × Int × Int)) → (List Int) → (List (List Int)) → (List (Int × Int × Int × List (Int × Int × Int) × List Int × List (List Int))) → Int → Int → Option γ) (lp2000016 : (List Int) → (List (Int × Int × Int × List (Int × Int × Int) × List Int × List (List Int))) → (List Int) → Int → Int → Int → Int → (List (Int × Int × Int)) → (List Int) → (List (List Int)) → Bool → (List (Int × Int × Int × List (Int × Int × Int) × List Int × List (List Int))) → Int → Int → Option γ) (lp2000014 : (List Int) → (List (Int × Int × Int × List (Int × Int × Int) × List Int × List (List Int))) → (List Int) → Int → Int → Int → Int → (List (Int × Int × Int)) → (List Int) → (List (List Int)) → Bool → (List (Int × Int × Int × List (Int × Int × Int) × List Int × List (List Int))) → Int → Int → Option γ) (lp11 : (List Int) → (List (Int × Int × Int × List (Int × Int × Int) × List Int × List (List Int))) → (List Int) → (List (Int × Int × Int × List (Int × Int × Int) × List Int × List (List Int))) → Int → Int → Option γ) (lp2000009 : (List Int) → (List (Int × Int × Int × List (Int × Int × Int) × List Int × List (List Int))) → Option γ) (lp2 : (List Int) → (List (Int × Int × Int × List (Int × Int × Int) × List Int × List (List Int))) → (List Int) → Int → Int → Option γ) (v0 : List Int) (v1 : List (Int × Int × Int × List (Int × Int × Int) × List Int × List (List Int))) (v2 : List Int) (v3 : Int) (v4 : Int) : Option γ :=
 bif decide (v4 < v3) then
  bif decide ((0 : Int) ≤ v4) then
   bif decide (v4.toNat < v2.length) then
    (spec_l1In (v2.getD v4.toNat (0 : Int)) ((0 : Int)) ((6 : Int))).bind fun (r0 : Bool) =>
    bif !r0 then
     ret ([], Bool.false)
    else
     lp2 (v0) (v1) (v2) (v3) (IntKind.i64.wrap (v4 + (1 : Int)))
   else
    none
  else
   none
 else
  (spec_l1In ((↑v0.length : Int)) ((1 : Int)) ((4 : Int))).bind fun (r1 : Bool) =>
  bif !r1 then
   ret ([], Bool.false)
  else
   (spec_l1In ((↑v1.length : Int)) ((1 : Int)) ((12 : Int))).bind fun (r2 : Bool) =>
   bif !r2 then
    ret ([], Bool.false)
   else
    lp2000009 (v0) (v1)
theorem spec_l6Check.k (v0 : List Int) (v1 : List (Int × Int × Int × List (Int × Int × Int) × List Int × List (List Int))) : topL E (callT E tab) 13 Try.f13 (spec_l6Check.c v0 v1) = spec_l6Check.t (fun b => some (spec_l6Check.mk b)) spec_l6Check.q2000026 spec_l6Check.q2000019 spec_l6Check.q2000022 spec_l6Check.q2000016 spec_l6Check.q2000014 spec_l6Check.q11 spec_l6Check.q2000009 spec_l6Check.q2 v0 v1 := by kernel_rfl
theorem spec_l6Check.k2000026 (v0 : List Int) (v1 : List (Int × Int × Int × List (Int × Int × Int) × List Int × List (List Int))) (v2 : List Int) (v3 : List (Int × Int × Int × List (Int × Int × Int) × List Int × List (List Int))) (v4 : Int) (v5 : Int) : roundJ E (callT E tab) 13 Try.f13 1 [.r, .r, .r, .r, .l, .r, .b, .o, .r, .r, .r] (nn 1 (⟨(.box false), [.d .fro (.sl (.int .i64)) v0, .d .fro (.sl (.pair (.int .i64) (.pair (.int .i64) (.pair (.int .i64) (.pair (.sl (.pair (.int .i64) (.pair (.int .i64) (.int .i64)))) (.pair (.sl (.int .i64)) (.sl (.sl (.int .i64))))))))) v1], false, false, false, 0, 0⟩ :: nn 4 (vc (.d .deep (.sl (.int .i64)) v2) :: nn 29 (vc (.d .fro (.sl (.pair (.int .i64) (.pair (.int .i64) (.pair (.int .i64) (.pair (.sl (.pair (.int .i64) (.pair (.int .i64) (.int .i64)))) (.pair (.sl (.int .i64)) (.sl (.sl (.int .i64))))))))) v3) :: vc (iL v4) :: vc (iL v5) :: nn 117 ([]))))) = spec_l6Check.t2000026 (fun b => some (spec_l6Check.mk b)) spec_l6Check.q2000026 spec_l6Check.q2000019 spec_l6Check.q2000022 spec_l6Check.q2000016 spec_l6Check.q2000014 spec_l6Check.q11 spec_l6Check.q2000009 spec_l6Check.q2 v0 v1 v2 v3 v4 v5 := by kernel_rfl
theorem spec_l6Check.k2000019 (v0 : List Int) (v1 : List (Int × Int × Int × List (Int × Int × Int) × List Int × List (List Int))) (v2 : List Int) (v3 : Int) (v4 : Int) (v5 : Int) (v6 : List (Int × Int × Int)) (v7 : List Int) (v8 : List (List Int)) (v9 : List (Int × Int × Int × List (Int × Int × Int) × List Int × List (List Int))) (v10 : Int) (v11 : Int) : roundJ E (callT E tab) 13 Try.f13 1 [.r, .r, .r, .r, .l, .r, .b, .o, .r, .r, .l, .b, .r, .r, .r, .l, .r, .l, .r, .l] (nn 1 (⟨(.box false), [.d .fro (.sl (.int .i64)) v0, .d .fro (.sl (.pair (.int .i64) (.pair (.int .i64) (.pair (.int .i64) (.pair (.sl (.pair (.int .i64) (.pair (.int .i64) (.int .i64)))) (.pair (.sl (.int .i64)) (.sl (.sl (.int .i64))))))))) v1], false, false, false, 0, 0⟩ :: nn 4 (vc (.d .deep (.sl (.int .i64)) v2) :: nn 1 (⟨(.box false), [iL v3, iL v4, iL v5, .d .fro (.sl (.pair (.int .i64) (.pair (.int .i64) (.int .i64)))) v6, .d .fro (.sl (.int .i64)) v7, .d .fro (.sl (.sl (.int .i64))) v8], false, false, false, 0, 0⟩ :: nn 27 (vc (.d .fro (.sl (.pair (.int .i64) (.pair (.int .i64) (.pair (.int .i64) (.pair (.sl (.pair (.int .i64) (.pair (.int .i64) (.int .i64)))) (.pair (.sl (.int .i64)) (.sl (.sl (.int .i64))))))))) v9) :: vc (iL v10) :: vc (iL v11) :: nn 117 ([])))))) = spec_l6Check.t2000019 (fun b => some (spec_l6Check.mk b)) spec_l6Check.q2000026 spec_l6Check.q2000019 spec_l6Check.q2000022 spec_l6Check.q2000016 spec_l6Check.q2000014 spec_l6Check.q11 spec_l6Check.q2000009 spec_l6Check.q2 v0 v1 v2 v3 v4 v5 v6 v7 v8 v9 v10 v11 := by kernel_rfl
theorem spec_l6Check.k2000022 (v0 : List Int) (v1 : List (Int × Int × Int × List (Int × Int × Int) × List Int × List (List Int))) (v2 : List Int) (v3 : Int) (v4 : Int) (v5 : Int) (v6 : List (Int × Int × Int)) (v7 : List Int) (v8 : List (List Int)) (v9 : List (Int × Int × Int × List (Int × Int × Int) × List Int × List (List Int))) (v10 : Int) (v11 : Int) : roundJ E (callT E tab) 13 Try.f13 1 [.r, .r, .r, .r, .l, .r, .b, .o, .r, .r, .l, .b, .r, .r, .r, .r, .r, .l] (nn 1 (⟨(.box false), [.d .fro (.sl (.int .i64)) v0, .d .fro (.sl (.pair (.int .i64) (.pair (.int .i64) (.pair (.int .i64) (.pair (.sl (.pair (.int .i64) (.pair (.int .i64) (.int .i64)))) (.pair (.sl (.int .i64)) (.sl (.sl (.int .i64))))))))) v1], false, false, false, 0, 0⟩ :: nn 4 (vc (.d .deep (.sl (.int .i64)) v2) :: nn 1 (⟨(.box false), [iL v3, iL v4, iL v5, .d .fro (.sl (.pair (.int .i64) (.pair (.int .i64) (.int .i64)))) v6, .d .fro (.sl (.int .i64)) v7, .d .fro (.sl (.sl (.int .i64))) v8], false, false, false, 0, 0⟩ :: nn 27 (vc (.d .fro (.sl (.pair (.int .i64) (.pair (.int .i64) (.pair (.int .i64) (.pair (.sl (.pair (.int .i64) (.pair (.int .i64) (.int .i64)))) (.pair (.sl (.int .i64)) (.sl (.sl (.int .i64))))))))) v9) :: vc (iL v10) :: vc (iL v11) :: nn 117 ([])))))) = spec_l6Check.t2000022 (fun b => some (spec_l6Check.mk b)) spec_l6Check.q2000026 spec_l6Check.q2000019 spec_l6Check.q2000022 spec_l6Check.q2000016 spec_l6Check.q2000014 spec_l6Check.q11 spec_l6Check.q2000009 spec_l6Check.q2 v0 v1 v2 v3 v4 v5 v6 v7 v8 v9 v10 v11 := by kernel_rfl
theorem spec_l6Check.k2000016 (v0 : List Int) (v1 : List (Int × Int × Int × List (Int × Int × Int) × List Int × List (List Int))) (v2 : List Int) (v3 : Int) (v4 : Int) (v5 : Int) (v6 : Int) (v7 : List (Int × Int × Int)) (v8 : List Int) (v9 : List (List Int)) (v10 : Bool) (v11 : List (Int × Int × Int × List (Int × Int × Int) × List Int × List (List Int))) (v12 : Int) (v13 : Int) : roundJ E (callT E tab) 13 Try.f13 1 [.r, .r, .r, .r, .l, .r, .b, .o, .r, .r, .l, .b, .r, .r, .r, .l, .l] (nn 1 (⟨(.box false), [.d .fro (.sl (.int .i64)) v0, .d .fro (.sl (.pair (.int .i64) (.pair (.int .i64) (.pair (.int .i64) (.pair (.sl (.pair (.int .i64) (.pair (.int .i64) (.int .i64)))) (.pair (.sl (.int .i64)) (.sl (.sl (.int .i64))))))))) v1], false, false, false, 0, 0⟩ :: nn 4 (vc (.d .deep (.sl (.int .i64)) v2) :: vc (iL v3) :: ⟨(.box false), [iL v4, iL v5, iL v6, .d .fro (.sl (.pair (.int .i64) (.pair (.int .i64) (.int .i64)))) v7, .d .fro (.sl (.int .i64)) v8, .d .fro (.sl (.sl (.int .i64))) v9], false, false, false, 0, 0⟩ :: vc (bL v10) :: nn 26 (vc (.d .fro (.sl (.pair (.int .i64) (.pair (.int .i64) (.pair (.int .i64) (.pair (.sl (.pair (.int .i64) (.pair (.int .i64) (.int .i64)))) (.pair (.sl (.int .i64)) (.sl (.sl (.int .i64))))))))) v11) :: vc (iL v12) :: vc (iL v13) :: nn 117 ([]))))) = spec_l6Check.t2000016 (fun b => some (spec_l6Check.mk b)) spec_l6Check.q2000026 spec_l6Check.q2000019 spec_l6Check.q2000022 spec_l6Check.q2000016 spec_l6Check.q2000014 spec_l6Check.q11 spec_l6Check.q2000009 spec_l6Check.q2 v0 v1 v2 v3 v4 v5 v6 v7 v8 v9 v10 v11 v12 v13 := by kernel_rfl
theorem spec_l6Check.k2000014 (v0 : List Int) (v1 : List (Int × Int × Int × List (Int × Int × Int) × List Int × List (List Int))) (v2 : List Int) (v3 : Int) (v4 : Int) (v5 : Int) (v6 : Int) (v7 : List (Int × Int × Int)) (v8 : List Int) (v9 : List (List Int)) (v10 : Bool) (v11 : List (Int × Int × Int × List (Int × Int × Int) × List Int × List (List Int))) (v12 : Int) (v13 : Int) : roundJ E (callT E tab) 13 Try.f13 1 [.r, .r, .r, .r, .l, .r, .b, .o, .r, .r, .l, .b, .r, .r, .l, .l] (nn 1 (⟨(.box false), [.d .fro (.sl (.int .i64)) v0, .d .fro (.sl (.pair (.int .i64) (.pair (.int .i64) (.pair (.int .i64) (.pair (.sl (.pair (.int .i64) (.pair (.int .i64) (.int .i64)))) (.pair (.sl (.int .i64)) (.sl (.sl (.int .i64))))))))) v1], false, false, false, 0, 0⟩ :: nn 4 (vc (.d .deep (.sl (.int .i64)) v2) :: vc (iL v3) :: ⟨(.box false), [iL v4, iL v5, iL v6, .d .fro (.sl (.pair (.int .i64) (.pair (.int .i64) (.int .i64)))) v7, .d .fro (.sl (.int .i64)) v8, .d .fro (.sl (.sl (.int .i64))) v9], false, false, false, 0, 0⟩ :: vc (bL v10) :: nn 26 (vc (.d .fro (.sl (.pair (.int .i64) (.pair (.int .i64) (.pair (.int .i64) (.pair (.sl (.pair (.int .i64) (.pair (.int .i64) (.int .i64)))) (.pair (.sl (.int .i64)) (.sl (.sl (.int .i64))))))))) v11) :: vc (iL v12) :: vc (iL v13) :: nn 117 ([]))))) = spec_l6Check.t2000014 (fun b => some (spec_l6Check.mk b)) spec_l6Check.q2000026 spec_l6Check.q2000019 spec_l6Check.q2000022 spec_l6Check.q2000016 spec_l6Check.q2000014 spec_l6Check.q11 spec_l6Check.q2000009 spec_l6Check.q2 v0 v1 v2 v3 v4 v5 v6 v7 v8 v9 v10 v11 v12 v13 := by kernel_rfl
theorem spec_l6Check.k11 (v0 : List Int) (v1 : List (Int × Int × Int × List (Int × Int × Int) × List Int × List (List Int))) (v2 : List Int) (v3 : List (Int × Int × Int × List (Int × Int × Int) × List Int × List (List Int))) (v4 : Int) (v5 : Int) : roundL E (callT E tab) 13 Try.f13 1 [.r, .r, .r, .r, .l, .r, .b] (nn 1 (⟨(.box false), [.d .fro (.sl (.int .i64)) v0, .d .fro (.sl (.pair (.int .i64) (.pair (.int .i64) (.pair (.int .i64) (.pair (.sl (.pair (.int .i64) (.pair (.int .i64) (.int .i64)))) (.pair (.sl (.int .i64)) (.sl (.sl (.int .i64))))))))) v1], false, false, false, 0, 0⟩ :: nn 4 (vc (.d .deep (.sl (.int .i64)) v2) :: nn 29 (vc (.d .fro (.sl (.pair (.int .i64) (.pair (.int .i64) (.pair (.int .i64) (.pair (.sl (.pair (.int .i64) (.pair (.int .i64) (.int .i64)))) (.pair (.sl (.int .i64)) (.sl (.sl (.int .i64))))))))) v3) :: vc (iL v4) :: vc (iL v5) :: nn 117 ([]))))) = spec_l6Check.t11 (fun b => some (spec_l6Check.mk b)) spec_l6Check.q2000026 spec_l6Check.q2000019 spec_l6Check.q2000022 spec_l6Check.q2000016 spec_l6Check.q2000014 spec_l6Check.q11 spec_l6Check.q2000009 spec_l6Check.q2 v0 v1 v2 v3 v4 v5 := by kernel_rfl
theorem spec_l6Check.k2000009 (v0 : List Int) (v1 : List (Int × Int × Int × List (Int × Int × Int) × List Int × List (List Int))) : roundJ E (callT E tab) 13 Try.f13 1 [.r, .r, .r, .l] (nn 1 (⟨(.box false), [.d .fro (.sl (.int .i64)) v0, .d .fro (.sl (.pair (.int .i64) (.pair (.int .i64) (.pair (.int .i64) (.pair (.sl (.pair (.int .i64) (.pair (.int .i64) (.int .i64)))) (.pair (.sl (.int .i64)) (.sl (.sl (.int .i64))))))))) v1], false, false, false, 0, 0⟩ :: nn 154 ([]))) = spec_l6Check.t2000009 (fun b => some (spec_l6Check.mk b)) spec_l6Check.q2000026 spec_l6Check.q2000019 spec_l6Check.q2000022 spec_l6Check.q2000016 spec_l6Check.q2000014 spec_l6Check.q11 spec_l6Check.q2000009 spec_l6Check.q2 v0 v1 := by kernel_rfl
theorem spec_l6Check.k2 (v0 : List Int) (v1 : List (Int × Int × Int × List (Int × Int × Int) × List Int × List (List Int))) (v2 : List Int) (v3 : Int) (v4 : Int) : roundL E (callT E tab) 13 Try.f13 1 [.r, .l, .r, .b] (nn 1 (⟨(.box false), [.d .fro (.sl (.int .i64)) v0, .d .fro (.sl (.pair (.int .i64) (.pair (.int .i64) (.pair (.int .i64) (.pair (.sl (.pair (.int .i64) (.pair (.int .i64) (.int .i64)))) (.pair (.sl (.int .i64)) (.sl (.sl (.int .i64))))))))) v1], false, false, false, 0, 0⟩ :: nn 11 (vc (.d .fro (.sl (.int .i64)) v2) :: vc (iL v3) :: vc (iL v4) :: nn 140 ([])))) = spec_l6Check.t2 (fun b => some (spec_l6Check.mk b)) spec_l6Check.q2000026 spec_l6Check.q2000019 spec_l6Check.q2000022 spec_l6Check.q2000016 spec_l6Check.q2000014 spec_l6Check.q11 spec_l6Check.q2000009 spec_l6Check.q2 v0 v1 v2 v3 v4 := by kernel_rfl
theorem spec_l6Check.eq (v0 : List Int) (v1 : List (Int × Int × Int × List (Int × Int × Int) × List Int × List (List Int))) {b : (List Int) × Bool} (h : spec_l6Check.t some spec_l6Check.l2000026 spec_l6Check.l2000019 spec_l6Check.l2000022 spec_l6Check.l2000016 spec_l6Check.l2000014 spec_l6Check.l11 spec_l6Check.l2000009 spec_l6Check.l2 v0 v1 = some b) : spec_l6Check v0 v1 = some b := tOf_intro spec_l6Check.un (fun _ => by kernel_rfl) (vlim_fn (callT_le E tab) rfl rfl rfl ((spec_l6Check.k v0 v1).trans ((by unfold spec_l6Check.t; repeat' first | exact Sub.ret | exact Sub.none | exact Sub.loop | apply Sub.cond | (apply Sub.bind; intro _) : Sub spec_l6Check.mk _ _) b h)))
theorem spec_l6Check.eq2000026 (v0 : List Int) (v1 : List (Int × Int × Int × List (Int × Int × Int) × List Int × List (List Int))) (v2 : List Int) (v3 : List (Int × Int × Int × List (Int × Int × Int) × List Int × List (List Int))) (v4 : Int) (v5 : Int) {b : (List Int) × Bool} (h : spec_l6Check.t2000026 some spec_l6Check.l2000026 spec_l6Check.l2000019 spec_l6Check.l2000022 spec_l6Check.l2000016 spec_l6Check.l2000014 spec_l6Check.l11 spec_l6Check.l2000009 spec_l6Check.l2 v0 v1 v2 v3 v4 v5 = some b) : spec_l6Check.l2000026 v0 v1 v2 v3 v4 v5 = some b := tOf_intro spec_l6Check.un (fun _ => by kernel_rfl) (joinAtL_step ((spec_l6Check.k2000026 v0 v1 v2 v3 v4 v5).trans ((by unfold spec_l6Check.t2000026; repeat' first | exact Sub.ret | exact Sub.none | exact Sub.loop | apply Sub.cond | (apply Sub.bind; intro _) : Sub spec_l6Check.mk _ _) b h)))
theorem spec_l6Check.eq2000019 (v0 : List Int) (v1 : List (Int × Int × Int × List (Int × Int × Int) × List Int × List (List Int))) (v2 : List Int) (v3 : Int) (v4 : Int) (v5 : Int) (v6 : List (Int × Int × Int)) (v7 : List Int) (v8 : List (List Int)) (v9 : List (Int × Int × Int × List (Int × Int × Int) × List Int × List (List Int))) (v10 : Int) (v11 : Int) {b : (List Int) × Bool} (h : spec_l6Check.t2000019 some spec_l6Check.l2000026 spec_l6Check.l2000019 spec_l6Check.l2000022 spec_l6Check.l2000016 spec_l6Check.l2000014 spec_l6Check.l11 spec_l6Check.l2000009 spec_l6Check.l2 v0 v1 v2 v3 v4 v5 v6 v7 v8 v9 v10 v11 = some b) : spec_l6Check.l2000019 v0 v1 v2 v3 v4 v5 v6 v7 v8 v9 v10 v11 = some b := tOf_intro spec_l6Check.un (fun _ => by kernel_rfl) (joinAtL_step ((spec_l6Check.k2000019 v0 v1 v2 v3 v4 v5 v6 v7 v8 v9 v10 v11).trans ((by unfold spec_l6Check.t2000019; repeat' first | exact Sub.ret | exact Sub.none | exact Sub.loop | apply Sub.cond | (apply Sub.bind; intro _) : Sub spec_l6Check.mk _ _) b h)))
theorem spec_l6Check.eq2000022 (v0 : List Int) (v1 : List (Int × Int × Int × List (Int × Int × Int) × List Int × List (List Int))) (v2 : List Int) (v3 : Int) (v4 : Int) (v5 : Int) (v6 : List (Int × Int × Int)) (v7 : List Int) (v8 : List (List Int)) (v9 : List (Int × Int × Int × List (Int × Int × Int) × List Int × List (List Int))) (v10 : Int) (v11 : Int) {b : (List Int) × Bool} (h : spec_l6Check.t2000022 some spec_l6Check.l2000026 spec_l6Check.l2000019 spec_l6Check.l2000022 spec_l6Check.l2000016 spec_l6Check.l2000014 spec_l6Check.l11 spec_l6Check.l2000009 spec_l6Check.l2 v0 v1 v2 v3 v4 v5 v6 v7 v8 v9 v10 v11 = some b) : spec_l6Check.l2000022 v0 v1 v2 v3 v4 v5 v6 v7 v8 v9 v10 v11 = some b := tOf_intro spec_l6Check.un (fun _ => by kernel_rfl) (joinAtL_step ((spec_l6Check.k2000022 v0 v1 v2 v3 v4 v5 v6 v7 v8 v9 v10 v11).trans ((by unfold spec_l6Check.t2000022; repeat' first | exact Sub.ret | exact Sub.none | exact Sub.loop | apply Sub.cond | (apply Sub.bind; intro _) : Sub spec_l6Check.mk _ _) b h)))
theorem spec_l6Check.eq2000016 (v0 : List Int) (v1 : List (Int × Int × Int × List (Int × Int × Int) × List Int × List (List Int))) (v2 : List Int) (v3 : Int) (v4 : Int) (v5 : Int) (v6 : Int) (v7 : List (Int × Int × Int)) (v8 : List Int) (v9 : List (List Int)) (v10 : Bool) (v11 : List (Int × Int × Int × List (Int × Int × Int) × List Int × List (List Int))) (v12 : Int) (v13 : Int) {b : (List Int) × Bool} (h : spec_l6Check.t2000016 some spec_l6Check.l2000026 spec_l6Check.l2000019 spec_l6Check.l2000022 spec_l6Check.l2000016 spec_l6Check.l2000014 spec_l6Check.l11 spec_l6Check.l2000009 spec_l6Check.l2 v0 v1 v2 v3 v4 v5 v6 v7 v8 v9 v10 v11 v12 v13 = some b) : spec_l6Check.l2000016 v0 v1 v2 v3 v4 v5 v6 v7 v8 v9 v10 v11 v12 v13 = some b := tOf_intro spec_l6Check.un (fun _ => by kernel_rfl) (joinAtL_step ((spec_l6Check.k2000016 v0 v1 v2 v3 v4 v5 v6 v7 v8 v9 v10 v11 v12 v13).trans ((by unfold spec_l6Check.t2000016; repeat' first | exact Sub.ret | exact Sub.none | exact Sub.loop | apply Sub.cond | (apply Sub.bind; intro _) : Sub spec_l6Check.mk _ _) b h)))
theorem spec_l6Check.eq2000014 (v0 : List Int) (v1 : List (Int × Int × Int × List (Int × Int × Int) × List Int × List (List Int))) (v2 : List Int) (v3 : Int) (v4 : Int) (v5 : Int) (v6 : Int) (v7 : List (Int × Int × Int)) (v8 : List Int) (v9 : List (List Int)) (v10 : Bool) (v11 : List (Int × Int × Int × List (Int × Int × Int) × List Int × List (List Int))) (v12 : Int) (v13 : Int) {b : (List Int) × Bool} (h : spec_l6Check.t2000014 some spec_l6Check.l2000026 spec_l6Check.l2000019 spec_l6Check.l2000022 spec_l6Check.l2000016 spec_l6Check.l2000014 spec_l6Check.l11 spec_l6Check.l2000009 spec_l6Check.l2 v0 v1 v2 v3 v4 v5 v6 v7 v8 v9 v10 v11 v12 v13 = some b) : spec_l6Check.l2000014 v0 v1 v2 v3 v4 v5 v6 v7 v8 v9 v10 v11 v12 v13 = some b := tOf_intro spec_l6Check.un (fun _ => by kernel_rfl) (joinAtL_step ((spec_l6Check.k2000014 v0 v1 v2 v3 v4 v5 v6 v7 v8 v9 v10 v11 v12 v13).trans ((by unfold spec_l6Check.t2000014; repeat' first | exact Sub.ret | exact Sub.none | exact Sub.loop | apply Sub.cond | (apply Sub.bind; intro _) : Sub spec_l6Check.mk _ _) b h)))
theorem spec_l6Check.eq11 (v0 : List Int) (v1 : List (Int × Int × Int × List (Int × Int × Int) × List Int × List (List Int))) (v2 : List Int) (v3 : List (Int × Int × Int × List (Int × Int × Int) × List Int × List (List Int))) (v4 : Int) (v5 : Int) {b : (List Int) × Bool} (h : spec_l6Check.t11 some spec_l6Check.l2000026 spec_l6Check.l2000019 spec_l6Check.l2000022 spec_l6Check.l2000016 spec_l6Check.l2000014 spec_l6Check.l11 spec_l6Check.l2000009 spec_l6Check.l2 v0 v1 v2 v3 v4 v5 = some b) : spec_l6Check.l11 v0 v1 v2 v3 v4 v5 = some b := tOf_intro spec_l6Check.un (fun _ => by kernel_rfl) (loopAtL_step ((spec_l6Check.k11 v0 v1 v2 v3 v4 v5).trans ((by unfold spec_l6Check.t11; repeat' first | exact Sub.ret | exact Sub.none | exact Sub.loop | apply Sub.cond | (apply Sub.bind; intro _) : Sub spec_l6Check.mk _ _) b h)))
theorem spec_l6Check.eq2000009 (v0 : List Int) (v1 : List (Int × Int × Int × List (Int × Int × Int) × List Int × List (List Int))) {b : (List Int) × Bool} (h : spec_l6Check.t2000009 some spec_l6Check.l2000026 spec_l6Check.l2000019 spec_l6Check.l2000022 spec_l6Check.l2000016 spec_l6Check.l2000014 spec_l6Check.l11 spec_l6Check.l2000009 spec_l6Check.l2 v0 v1 = some b) : spec_l6Check.l2000009 v0 v1 = some b := tOf_intro spec_l6Check.un (fun _ => by kernel_rfl) (joinAtL_step ((spec_l6Check.k2000009 v0 v1).trans ((by unfold spec_l6Check.t2000009; repeat' first | exact Sub.ret | exact Sub.none | exact Sub.loop | apply Sub.cond | (apply Sub.bind; intro _) : Sub spec_l6Check.mk _ _) b h)))
theorem spec_l6Check.eq2 (v0 : List Int) (v1 : List (Int × Int × Int × List (Int × Int × Int) × List Int × List (List Int))) (v2 : List Int) (v3 : Int) (v4 : Int) {b : (List Int) × Bool} (h : spec_l6Check.t2 some spec_l6Check.l2000026 spec_l6Check.l2000019 spec_l6Check.l2000022 spec_l6Check.l2000016 spec_l6Check.l2000014 spec_l6Check.l11 spec_l6Check.l2000009 spec_l6Check.l2 v0 v1 v2 v3 v4 = some b) : spec_l6Check.l2 v0 v1 v2 v3 v4 = some b := tOf_intro spec_l6Check.un (fun _ => by kernel_rfl) (loopAtL_step ((spec_l6Check.k2 v0 v1 v2 v3 v4).trans ((by unfold spec_l6Check.t2; repeat' first | exact Sub.ret | exact Sub.none | exact Sub.loop | apply Sub.cond | (apply Sub.bind; intro _) : Sub spec_l6Check.mk _ _) b h)))
noncomputable def spec_l1In.t {γ : Type} (ret : (Bool) → Option γ) (v0 : Int) (v1 : Int) (v2 : Int) : Option γ :=
 bif decide (v0 ≥ v1) then
  ret (decide (v0 ≤ v2))
 else
  ret (Bool.false)
theorem spec_l1In.k (v0 : Int) (v1 : Int) (v2 : Int) : topL E (callT E tab) 28 Try.f28 (spec_l1In.c v0 v1 v2) = spec_l1In.t (fun b => some (spec_l1In.mk b)) v0 v1 v2 := by kernel_rfl
theorem spec_l1In.eq (v0 : Int) (v1 : Int) (v2 : Int) {b : Bool} (h : spec_l1In.t some v0 v1 v2 = some b) : spec_l1In v0 v1 v2 = some b := tOf_intro spec_l1In.un (fun _ => by kernel_rfl) (vlim_fn (callT_le E tab) rfl rfl rfl ((spec_l1In.k v0 v1 v2).trans ((by unfold spec_l1In.t; repeat' first | exact Sub.ret | exact Sub.none | exact Sub.loop | apply Sub.cond | (apply Sub.bind; intro _) : Sub spec_l1In.mk _ _) b h)))
noncomputable def spec_l6Columns.t {γ : Type} (ret : (Int × Bool) → Option γ) (v0 : Int) (v1 : Int) (v2 : Int) (v3 : List (Int × Int × Int)) (v4 : List Int) (v5 : List (List Int)) (v6 : List Int) : Option γ :=
 bif decide ((0 : Int) ≤ v1) then
  bif decide (v1.toNat < v6.length) then
   bif v0 == (2 : Int) then
    (spec_GoodTests (v3) (v6.getD v1.toNat (0 : Int))).bind fun (r0 : Bool) =>
    ret (v6.getD v1.toNat (0 : Int), r0)
   else
    bif v0 == (3 : Int) then
     (spec_l1Columns (v4) (v6.getD v1.toNat (0 : Int))).bind fun (r1 : Bool) =>
     ret ((↑v4.length : Int), r1)
    else
     bif v0 == (4 : Int) then
      bif decide ((0 : Int) ≤ v2) then
       bif decide (v2.toNat < v6.length) then
        (spec_l1Pairs (v5) (v6.getD v1.toNat (0 : Int)) (v6.getD v2.toNat (0 : Int))).bind fun (r2 : Bool) =>
        bif !r2 then
         ret ((0 : Int), Bool.false)
        else
         (spec_l3Left (v5) (v6.getD v2.toNat (0 : Int))).bind fun (r3 : Int) =>
         ret (IntKind.i64.wrap (v6.getD v1.toNat (0 : Int) + r3), decide (IntKind.i64.wrap (v6.getD v1.toNat (0 : Int) + r3) ≤ (6 : Int)))
       else
        none
      else
       none
     else
      bif v0 == (5 : Int) then
       bif v0 == (5 : Int) then
        bif decide ((0 : Int) ≤ v2) then
         bif decide (v2.toNat < v6.length) then
          ret (v6.getD v1.toNat (0 : Int), v6.getD v1.toNat (0 : Int) == v6.getD v2.toNat (0 : Int))
         else
          none
        else
         none
       else
        ret (v6.getD v1.toNat (0 : Int), v0 == (7 : Int))
      else
       bif v0 == (6 : Int) then
        bif decide ((0 : Int) ≤ v2) then
         bif decide (v2.toNat < v6.length) then
          ret (v6.getD v1.toNat (0 : Int), v6.getD v1.toNat (0 : Int) == v6.getD v2.toNat (0 : Int))
         else
          none
        else
         none
       else
        ret (v6.getD v1.toNat (0 : Int), v0 == (7 : Int))
  else
   none
 else
  none
theorem spec_l6Columns.k (v0 : Int) (v1 : Int) (v2 : Int) (v3 : List (Int × Int × Int)) (v4 : List Int) (v5 : List (List Int)) (v6 : List Int) : topL E (callT E tab) 29 Try.f29 (spec_l6Columns.c v0 v1 v2 v3 v4 v5 v6) = spec_l6Columns.t (fun b => some (spec_l6Columns.mk b)) v0 v1 v2 v3 v4 v5 v6 := by kernel_rfl
theorem spec_l6Columns.eq (v0 : Int) (v1 : Int) (v2 : Int) (v3 : List (Int × Int × Int)) (v4 : List Int) (v5 : List (List Int)) (v6 : List Int) {b : Int × Bool} (h : spec_l6Columns.t some v0 v1 v2 v3 v4 v5 v6 = some b) : spec_l6Columns v0 v1 v2 v3 v4 v5 v6 = some b := tOf_intro spec_l6Columns.un (fun _ => by kernel_rfl) (vlim_fn (callT_le E tab) rfl rfl rfl ((spec_l6Columns.k v0 v1 v2 v3 v4 v5 v6).trans ((by unfold spec_l6Columns.t; repeat' first | exact Sub.ret | exact Sub.none | exact Sub.loop | apply Sub.cond | (apply Sub.bind; intro _) : Sub spec_l6Columns.mk _ _) b h)))
noncomputable def spec_GoodTests.q2 (v0 : List (Int × Int × Int)) (v1 : Int) (v2 : List (Int × Int × Int)) (v3 : Int) (v4 : Int) : Option R := loopAtL E (callT E tab) 45 Try.f45 2 [.r, .l, .r, .b] (vc (.d .fro (.sl (.pair (.int .i64) (.pair (.int .i64) (.int .i64)))) v0) :: vc (iL v1) :: nn 5 (vc (.d .fro (.sl (.pair (.int .i64) (.pair (.int .i64) (.int .i64)))) v2) :: vc (iL v3) :: vc (iL v4) :: nn 42 ([])))
noncomputable def spec_GoodTests.l2 (v0 : List (Int × Int × Int)) (v1 : Int) (v2 : List (Int × Int × Int)) (v3 : Int) (v4 : Int) : Option (Bool) := tOf spec_GoodTests.mk (spec_GoodTests.q2 v0 v1 v2 v3 v4)
noncomputable def spec_GoodTests.t {γ : Type} (ret : (Bool) → Option γ) (lp2 : (List (Int × Int × Int)) → Int → (List (Int × Int × Int)) → Int → Int → Option γ) (v0 : List (Int × Int × Int)) (v1 : Int) : Option γ :=
 lp2 (v0) (v1) (v0) ((↑v0.length : Int)) ((0 : Int))
noncomputable def spec_GoodTests.t2 {γ : Type} (ret : (Bool) → Option γ) (lp2 : (List (Int × Int × Int)) → Int → (List (Int × Int × Int)) → Int → Int → Option γ) (v0 : List (Int × Int × Int)) (v1 : Int) (v2 : List (Int × Int × Int)) (v3 : Int) (v4 : Int) : Option γ :=
 bif decide (v4 < v3) then
  bif decide ((0 : Int) ≤ v4) then
   bif decide (v4.toNat < v2.length) then
    bif decide ((v2.getD v4.toNat ((0 : Int), (0 : Int), (0 : Int))).snd.fst < (0 : Int)) then
     ret (Bool.false)
    else
     bif decide ((v2.getD v4.toNat ((0 : Int), (0 : Int), (0 : Int))).snd.fst ≥ v1) then
      ret (Bool.false)
     else
      (spec_l1In ((v2.getD v4.toNat ((0 : Int), (0 : Int), (0 : Int))).fst) ((1 : Int)) ((4 : Int))).bind fun (r0 : Bool) =>
      bif !r0 then
       ret (Bool.false)
      else
       bif (v2.getD v4.toNat ((0 : Int), (0 : Int), (0 : Int))).fst == (4 : Int) then
        bif decide ((v2.getD v4.toNat ((0 : Int), (0 : Int), (0 : Int))).snd.snd < (0 : Int)) then
         ret (Bool.false)
        else
         bif decide ((v2.getD v4.toNat ((0 : Int), (0 : Int), (0 : Int))).snd.snd ≥ v1) then
          ret (Bool.false)
         else
          (spec_l1In ((v2.getD v4.toNat ((0 : Int), (0 : Int), (0 : Int))).snd.snd) ((-100000 : Int)) ((100000 : Int))).bind fun (r1 : Bool) =>
          bif !r1 then
           ret (Bool.false)
          else
           lp2 (v0) (v1) (v2) (v3) (IntKind.i64.wrap (v4 + (1 : Int)))
       else
        (spec_l1In ((v2.getD v4.toNat ((0 : Int), (0 : Int), (0 : Int))).snd.snd) ((-100000 : Int)) ((100000 : Int))).bind fun (r2 : Bool) =>
        bif !r2 then
         ret (Bool.false)
        else
         lp2 (v0) (v1) (v2) (v3) (IntKind.i64.wrap (v4 + (1 : Int)))
   else
    none
  else
   none
 else
  ret (decide ((↑v0.length : Int) ≤ (8 : Int)))
theorem spec_GoodTests.k (v0 : List (Int × Int × Int)) (v1 : Int) : topL E (callT E tab) 45 Try.f45 (spec_GoodTests.c v0 v1) = spec_GoodTests.t (fun b => some (spec_GoodTests.mk b)) spec_GoodTests.q2 v0 v1 := by kernel_rfl
theorem spec_GoodTests.k2 (v0 : List (Int × Int × Int)) (v1 : Int) (v2 : List (Int × Int × Int)) (v3 : Int) (v4 : Int) : roundL E (callT E tab) 45 Try.f45 2 [.r, .l, .r, .b] (vc (.d .fro (.sl (.pair (.int .i64) (.pair (.int .i64) (.int .i64)))) v0) :: vc (iL v1) :: nn 5 (vc (.d .fro (.sl (.pair (.int .i64) (.pair (.int .i64) (.int .i64)))) v2) :: vc (iL v3) :: vc (iL v4) :: nn 42 ([]))) = spec_GoodTests.t2 (fun b => some (spec_GoodTests.mk b)) spec_GoodTests.q2 v0 v1 v2 v3 v4 := by kernel_rfl
theorem spec_GoodTests.eq (v0 : List (Int × Int × Int)) (v1 : Int) {b : Bool} (h : spec_GoodTests.t some spec_GoodTests.l2 v0 v1 = some b) : spec_GoodTests v0 v1 = some b := tOf_intro spec_GoodTests.un (fun _ => by kernel_rfl) (vlim_fn (callT_le E tab) rfl rfl rfl ((spec_GoodTests.k v0 v1).trans ((by unfold spec_GoodTests.t; repeat' first | exact Sub.ret | exact Sub.none | exact Sub.loop | apply Sub.cond | (apply Sub.bind; intro _) : Sub spec_GoodTests.mk _ _) b h)))
theorem spec_GoodTests.eq2 (v0 : List (Int × Int × Int)) (v1 : Int) (v2 : List (Int × Int × Int)) (v3 : Int) (v4 : Int) {b : Bool} (h : spec_GoodTests.t2 some spec_GoodTests.l2 v0 v1 v2 v3 v4 = some b) : spec_GoodTests.l2 v0 v1 v2 v3 v4 = some b := tOf_intro spec_GoodTests.un (fun _ => by kernel_rfl) (loopAtL_step ((spec_GoodTests.k2 v0 v1 v2 v3 v4).trans ((by unfold spec_GoodTests.t2; repeat' first | exact Sub.ret | exact Sub.none | exact Sub.loop | apply Sub.cond | (apply Sub.bind; intro _) : Sub spec_GoodTests.mk _ _) b h)))
noncomputable def spec_l1Columns.q2 (v0 : List Int) (v1 : Int) (v2 : List Int) (v3 : Int) (v4 : Int) : Option R := loopAtL E (callT E tab) 46 Try.f46 2 [.r, .l, .r, .b] (vc (.d .fro (.sl (.int .i64)) v0) :: vc (iL v1) :: nn 5 (vc (.d .fro (.sl (.int .i64)) v2) :: vc (iL v3) :: vc (iL v4) :: nn 14 ([])))
noncomputable def spec_l1Columns.l2 (v0 : List Int) (v1 : Int) (v2 : List Int) (v3 : Int) (v4 : Int) : Option (Bool) := tOf spec_l1Columns.mk (spec_l1Columns.q2 v0 v1 v2 v3 v4)
noncomputable def spec_l1Columns.t {γ : Type} (ret : (Bool) → Option γ) (lp2 : (List Int) → Int → (List Int) → Int → Int → Option γ) (v0 : List Int) (v1 : Int) : Option γ :=
 lp2 (v0) (v1) (v0) ((↑v0.length : Int)) ((0 : Int))
noncomputable def spec_l1Columns.t2 {γ : Type} (ret : (Bool) → Option γ) (lp2 : (List Int) → Int → (List Int) → Int → Int → Option γ) (v0 : List Int) (v1 : Int) (v2 : List Int) (v3 : Int) (v4 : Int) : Option γ :=
 bif decide (v4 < v3) then
  bif decide ((0 : Int) ≤ v4) then
   bif decide (v4.toNat < v2.length) then
    bif decide (v2.getD v4.toNat (0 : Int) < (0 : Int)) then
     ret (Bool.false)
    else
     bif decide (v2.getD v4.toNat (0 : Int) ≥ v1) then
      ret (Bool.false)
     else
      lp2 (v0) (v1) (v2) (v3) (IntKind.i64.wrap (v4 + (1 : Int)))
   else
    none
  else
   none
 else
  ret (decide ((↑v0.length : Int) ≤ (6 : Int)))
theorem spec_l1Columns.k (v0 : List Int) (v1 : Int) : topL E (callT E tab) 46 Try.f46 (spec_l1Columns.c v0 v1) = spec_l1Columns.t (fun b => some (spec_l1Columns.mk b)) spec_l1Columns.q2 v0 v1 := by kernel_rfl
theorem spec_l1Columns.k2 (v0 : List Int) (v1 : Int) (v2 : List Int) (v3 : Int) (v4 : Int) : roundL E (callT E tab) 46 Try.f46 2 [.r, .l, .r, .b] (vc (.d .fro (.sl (.int .i64)) v0) :: vc (iL v1) :: nn 5 (vc (.d .fro (.sl (.int .i64)) v2) :: vc (iL v3) :: vc (iL v4) :: nn 14 ([]))) = spec_l1Columns.t2 (fun b => some (spec_l1Columns.mk b)) spec_l1Columns.q2 v0 v1 v2 v3 v4 := by kernel_rfl
theorem spec_l1Columns.eq (v0 : List Int) (v1 : Int) {b : Bool} (h : spec_l1Columns.t some spec_l1Columns.l2 v0 v1 = some b) : spec_l1Columns v0 v1 = some b := tOf_intro spec_l1Columns.un (fun _ => by kernel_rfl) (vlim_fn (callT_le E tab) rfl rfl rfl ((spec_l1Columns.k v0 v1).trans ((by unfold spec_l1Columns.t; repeat' first | exact Sub.ret | exact Sub.none | exact Sub.loop | apply Sub.cond | (apply Sub.bind; intro _) : Sub spec_l1Columns.mk _ _) b h)))
theorem spec_l1Columns.eq2 (v0 : List Int) (v1 : Int) (v2 : List Int) (v3 : Int) (v4 : Int) {b : Bool} (h : spec_l1Columns.t2 some spec_l1Columns.l2 v0 v1 v2 v3 v4 = some b) : spec_l1Columns.l2 v0 v1 v2 v3 v4 = some b := tOf_intro spec_l1Columns.un (fun _ => by kernel_rfl) (loopAtL_step ((spec_l1Columns.k2 v0 v1 v2 v3 v4).trans ((by unfold spec_l1Columns.t2; repeat' first | exact Sub.ret | exact Sub.none | exact Sub.loop | apply Sub.cond | (apply Sub.bind; intro _) : Sub spec_l1Columns.mk _ _) b h)))
end GoV

/- Equations of the program's functions (printed by wip/tools/emit.py). -/
namespace GoV
open Go Go.Proofs
set_option maxRecDepth 100000

noncomputable def spec_l1Pairs.q2 (v0 : List (List Int)) (v1 : Int) (v2 : Int) (v3 : List (List Int)) (v4 : Int) (v5 : Int) : Option R := loopAtL E (callT E tab) 47 Try.f47 3 [.r, .l, .r, .b] (vc (.d .fro (.sl (.sl (.int .i64))) v0) :: vc (iL v1) :: vc (iL v2) :: nn 6 (vc (.d .fro (.sl (.sl (.int .i64))) v3) :: vc (iL v4) :: vc (iL v5) :: nn 36 ([])))
noncomputable def spec_l1Pairs.l2 (v0 : List (List Int)) (v1 : Int) (v2 : Int) (v3 : List (List Int)) (v4 : Int) (v5 : Int) : Option (Bool) := tOf spec_l1Pairs.mk (spec_l1Pairs.q2 v0 v1 v2 v3 v4 v5)
noncomputable def spec_l1Pairs.t {γ : Type} (ret : (Bool) → Option γ) (lp2 : (List (List Int)) → Int → Int → (List (List Int)) → Int → Int → Option γ) (v0 : List (List Int)) (v1 : Int) (v2 : Int) : Option γ :=
 lp2 (v0) (v1) (v2) (v0) ((↑v0.length : Int)) ((0 : Int))
noncomputable def spec_l1Pairs.t2 {γ : Type} (ret : (Bool) → Option γ) (lp2 : (List (List Int)) → Int → Int → (List (List Int)) → Int → Int → Option γ) (v0 : List (List Int)) (v1 : Int) (v2 : Int) (v3 : List (List Int)) (v4 : Int) (v5 : Int) : Option γ :=
 bif decide (v5 < v4) then
  bif decide ((0 : Int) ≤ v5) then
   bif decide (v5.toNat < v3.length) then
    bif (↑(v3.getD v5.toNat []).length : Int) != (2 : Int) then
     ret (Bool.false)
    else
     bif decide (Int.toNat (0 : Int) < (v3.getD v5.toNat []).length) then
      bif decide ((v3.getD v5.toNat []).getD (Int.toNat (0 : Int)) (0 : Int) < (0 : Int)) then
       ret (Bool.false)
      else
       bif decide (Int.toNat (0 : Int) < (v3.getD v5.toNat []).length) then
        bif decide ((v3.getD v5.toNat []).getD (Int.toNat (0 : Int)) (0 : Int) ≥ v1) then
         ret (Bool.false)
        else
         bif decide (Int.toNat (1 : Int) < (v3.getD v5.toNat []).length) then
          bif decide ((v3.getD v5.toNat []).getD (Int.toNat (1 : Int)) (0 : Int) < (0 : Int)) then
           ret (Bool.false)
          else
           bif decide (Int.toNat (1 : Int) < (v3.getD v5.toNat []).length) then
            bif decide ((v3.getD v5.toNat []).getD (Int.toNat (1 : Int)) (0 : Int) ≥ v2) then
             ret (Bool.false)
            else
             lp2 (v0) (v1) (v2) (v3) (v4) (IntKind.i64.wrap (v5 + (1 : Int)))
           else
            none
         else
          none
       else
        none
     else
      none
   else
    none
  else
   none
 else
  ret (decide ((↑v0.length : Int) ≤ (6 : Int)))
theorem spec_l1Pairs.k (v0 : List (List Int)) (v1 : Int) (v2 : Int) : topL E (callT E tab) 47 Try.f47 (spec_l1Pairs.c v0 v1 v2) = spec_l1Pairs.t (fun b => some (spec_l1Pairs.mk b)) spec_l1Pairs.q2 v0 v1 v2 := by kernel_rfl
theorem spec_l1Pairs.k2 (v0 : List (List Int)) (v1 : Int) (v2 : Int) (v3 : List (List Int)) (v4 : Int) (v5 : Int) : roundL E (callT E tab) 47 Try.f47 3 [.r, .l, .r, .b] (vc (.d .fro (.sl (.sl (.int .i64))) v0) :: vc (iL v1) :: vc (iL v2) :: nn 6 (vc (.d .fro (.sl (.sl (.int .i64))) v3) :: vc (iL v4) :: vc (iL v5) :: nn 36 ([]))) = spec_l1Pairs.t2 (fun b => some (spec_l1Pairs.mk b)) spec_l1Pairs.q2 v0 v1 v2 v3 v4 v5 := by kernel_rfl
theorem spec_l1Pairs.eq (v0 : List (List Int)) (v1 : Int) (v2 : Int) {b : Bool} (h : spec_l1Pairs.t some spec_l1Pairs.l2 v0 v1 v2 = some b) : spec_l1Pairs v0 v1 v2 = some b := tOf_intro spec_l1Pairs.un (fun _ => by kernel_rfl) (vlim_fn (callT_le E tab) rfl rfl rfl ((spec_l1Pairs.k v0 v1 v2).trans ((by unfold spec_l1Pairs.t; repeat' first | exact Sub.ret | exact Sub.none | exact Sub.loop | apply Sub.cond | (apply Sub.bind; intro _) : Sub spec_l1Pairs.mk _ _) b h)))
theorem spec_l1Pairs.eq2 (v0 : List (List Int)) (v1 : Int) (v2 : Int) (v3 : List (List Int)) (v4 : Int) (v5 : Int) {b : Bool} (h : spec_l1Pairs.t2 some spec_l1Pairs.l2 v0 v1 v2 v3 v4 v5 = some b) : spec_l1Pairs.l2 v0 v1 v2 v3 v4 v5 = some b := tOf_intro spec_l1Pairs.un (fun _ => by kernel_rfl) (loopAtL_step ((spec_l1Pairs.k2 v0 v1 v2 v3 v4 v5).trans ((by unfold spec_l1Pairs.t2; repeat' first | exact Sub.ret | exact Sub.none | exact Sub.loop | apply Sub.cond | (apply Sub.bind; intro _) : Sub spec_l1Pairs.mk _ _) b h)))
noncomputable def spec_l3Left.q7 (v0 : List (List Int)) (v1 : Int) (v2 : Int) (v3 : Int) (v4 : Bool) (v5 : List (List Int)) (v6 : Int) (v7 : Int) : Option R := loopAtL E (callT E tab) 48 Try.f48 2 [.r, .r, .l, .r, .b, .o, .r, .l, .b, .r, .l, .r, .b] (vc (.d .fro (.sl (.sl (.int .i64))) v0) :: vc (iL v1) :: nn 3 (vc (iL v2) :: vc (iL v3) :: vc (bL v4) :: nn 7 (vc (.d .fro (.sl (.sl (.int .i64))) v5) :: vc (iL v6) :: vc (iL v7) :: nn 17 ([]))))
noncomputable def spec_l3Left.l7 (v0 : List (List Int)) (v1 : Int) (v2 : Int) (v3 : Int) (v4 : Bool) (v5 : List (List Int)) (v6 : Int) (v7 : Int) : Option (Int) := tOf spec_l3Left.mk (spec_l3Left.q7 v0 v1 v2 v3 v4 v5 v6 v7)
noncomputable def spec_l3Left.q3 (v0 : List (List Int)) (v1 : Int) (v2 : Int) (v3 : Int) : Option R := loopAtL E (callT E tab) 48 Try.f48 2 [.r, .r, .l, .r, .b] (vc (.d .fro (.sl (.sl (.int .i64))) v0) :: vc (iL v1) :: nn 3 (vc (iL v2) :: vc (iL v3) :: nn 28 ([])))
noncomputable def spec_l3Left.l3 (v0 : List (List Int)) (v1 : Int) (v2 : Int) (v3 : Int) : Option (Int) := tOf spec_l3Left.mk (spec_l3Left.q3 v0 v1 v2 v3)
noncomputable def spec_l3Left.t {γ : Type} (ret : (Int) → Option γ) (lp7 : (List (List Int)) → Int → Int → Int → Bool → (List (List Int)) → Int → Int → Option γ) (lp3 : (List (List Int)) → Int → Int → Int → Option γ) (v0 : List (List Int)) (v1 : Int) : Option γ :=
 lp3 (v0) (v1) ((0 : Int)) ((0 : Int))
noncomputable def spec_l3Left.t7 {γ : Type} (ret : (Int) → Option γ) (lp7 : (List (List Int)) → Int → Int → Int → Bool → (List (List Int)) → Int → Int → Option γ) (lp3 : (List (List Int)) → Int → Int → Int → Option γ) (v0 : List (List Int)) (v1 : Int) (v2 : Int) (v3 : Int) (v4 : Bool) (v5 : List (List Int)) (v6 : Int) (v7 : Int) : Option γ :=
 bif decide (v7 < v6) then
  bif decide ((0 : Int) ≤ v7) then
   bif decide (v7.toNat < v5.length) then
    bif v4 then
     lp7 (v0) (v1) (v2) (v3) (Bool.true) (v5) (v6) (IntKind.i64.wrap (v7 + (1 : Int)))
    else
     bif decide (Int.toNat (1 : Int) < (v5.getD v7.toNat []).length) then
      lp7 (v0) (v1) (v2) (v3) ((v5.getD v7.toNat []).getD (Int.toNat (1 : Int)) (0 : Int) == v3) (v5) (v6) (IntKind.i64.wrap (v7 + (1 : Int)))
     else
      none
   else
    none
  else
   none
 else
  bif !v4 then
   lp3 (v0) (v1) (IntKind.i64.wrap (v2 + (1 : Int))) (IntKind.i64.wrap (v3 + (1 : Int)))
  else
   lp3 (v0) (v1) (v2) (IntKind.i64.wrap (v3 + (1 : Int)))
noncomputable def spec_l3Left.t3 {γ : Type} (ret : (Int) → Option γ) (lp7 : (List (List Int)) → Int → Int → Int → Bool → (List (List Int)) → Int → Int → Option γ) (lp3 : (List (List Int)) → Int → Int → Int → Option γ) (v0 : List (List Int)) (v1 : Int) (v2 : Int) (v3 : Int) : Option γ :=
 bif decide (v3 < v1) then
  lp7 (v0) (v1) (v2) (v3) (Bool.false) (v0) ((↑v0.length : Int)) ((0 : Int))
 else
  ret (v2)
theorem spec_l3Left.k (v0 : List (List Int)) (v1 : Int) : topL E (callT E tab) 48 Try.f48 (spec_l3Left.c v0 v1) = spec_l3Left.t (fun b => some (spec_l3Left.mk b)) spec_l3Left.q7 spec_l3Left.q3 v0 v1 := by kernel_rfl
theorem spec_l3Left.k7 (v0 : List (List Int)) (v1 : Int) (v2 : Int) (v3 : Int) (v4 : Bool) (v5 : List (List Int)) (v6 : Int) (v7 : Int) : roundL E (callT E tab) 48 Try.f48 2 [.r, .r, .l, .r, .b, .o, .r, .l, .b, .r, .l, .r, .b] (vc (.d .fro (.sl (.sl (.int .i64))) v0) :: vc (iL v1) :: nn 3 (vc (iL v2) :: vc (iL v3) :: vc (bL v4) :: nn 7 (vc (.d .fro (.sl (.sl (.int .i64))) v5) :: vc (iL v6) :: vc (iL v7) :: nn 17 ([])))) = spec_l3Left.t7 (fun b => some (spec_l3Left.mk b)) spec_l3Left.q7 spec_l3Left.q3 v0 v1 v2 v3 v4 v5 v6 v7 := by kernel_rfl
theorem spec_l3Left.k3 (v0 : List (List Int)) (v1 : Int) (v2 : Int) (v3 : Int) : roundL E (callT E tab) 48 Try.f48 2 [.r, .r, .l, .r, .b] (vc (.d .fro (.sl (.sl (.int .i64))) v0) :: vc (iL v1) :: nn 3 (vc (iL v2) :: vc (iL v3) :: nn 28 ([]))) = spec_l3Left.t3 (fun b => some (spec_l3Left.mk b)) spec_l3Left.q7 spec_l3Left.q3 v0 v1 v2 v3 := by kernel_rfl
theorem spec_l3Left.eq (v0 : List (List Int)) (v1 : Int) {b : Int} (h : spec_l3Left.t some spec_l3Left.l7 spec_l3Left.l3 v0 v1 = some b) : spec_l3Left v0 v1 = some b := tOf_intro spec_l3Left.un (fun _ => by kernel_rfl) (vlim_fn (callT_le E tab) rfl rfl rfl ((spec_l3Left.k v0 v1).trans ((by unfold spec_l3Left.t; repeat' first | exact Sub.ret | exact Sub.none | exact Sub.loop | apply Sub.cond | (apply Sub.bind; intro _) : Sub spec_l3Left.mk _ _) b h)))
theorem spec_l3Left.eq7 (v0 : List (List Int)) (v1 : Int) (v2 : Int) (v3 : Int) (v4 : Bool) (v5 : List (List Int)) (v6 : Int) (v7 : Int) {b : Int} (h : spec_l3Left.t7 some spec_l3Left.l7 spec_l3Left.l3 v0 v1 v2 v3 v4 v5 v6 v7 = some b) : spec_l3Left.l7 v0 v1 v2 v3 v4 v5 v6 v7 = some b := tOf_intro spec_l3Left.un (fun _ => by kernel_rfl) (loopAtL_step ((spec_l3Left.k7 v0 v1 v2 v3 v4 v5 v6 v7).trans ((by unfold spec_l3Left.t7; repeat' first | exact Sub.ret | exact Sub.none | exact Sub.loop | apply Sub.cond | (apply Sub.bind; intro _) : Sub spec_l3Left.mk _ _) b h)))
theorem spec_l3Left.eq3 (v0 : List (List Int)) (v1 : Int) (v2 : Int) (v3 : Int) {b : Int} (h : spec_l3Left.t3 some spec_l3Left.l7 spec_l3Left.l3 v0 v1 v2 v3 = some b) : spec_l3Left.l3 v0 v1 v2 v3 = some b := tOf_intro spec_l3Left.un (fun _ => by kernel_rfl) (loopAtL_step ((spec_l3Left.k3 v0 v1 v2 v3).trans ((by unfold spec_l3Left.t3; repeat' first | exact Sub.ret | exact Sub.none | exact Sub.loop | apply Sub.cond | (apply Sub.bind; intro _) : Sub spec_l3Left.mk _ _) b h)))
noncomputable def spec_l6Own.q3 (v0 : List Int) (v1 : List (Int × Int × Int × List (Int × Int × Int) × List Int × List (List Int))) (v2 : List Int) (v3 : List (Int × Int × Int × List (Int × Int × Int) × List Int × List (List Int))) (v4 : List (Int × Int × Int × List (Int × Int × Int) × List Int × List (List Int))) (v5 : Int) (v6 : Int) : Option R := loopAtL E (callT E tab) 14 Try.f14 1 [.r, .r, .l, .r, .b] (nn 2 (⟨(.box false), [.d .deep (.sl (.int .i64)) v0, .d .deep (.sl (.pair (.int .i64) (.pair (.int .i64) (.pair (.int .i64) (.pair (.sl (.pair (.int .i64) (.pair (.int .i64) (.int .i64)))) (.pair (.sl (.int .i64)) (.sl (.sl (.int .i64))))))))) v1], false, false, false, 0, 0⟩ :: ⟨(.box false), [.d .deep (.sl (.int .i64)) v2, .d .deep (.sl (.pair (.int .i64) (.pair (.int .i64) (.pair (.int .i64) (.pair (.sl (.pair (.int .i64) (.pair (.int .i64) (.int .i64)))) (.pair (.sl (.int .i64)) (.sl (.sl (.int .i64))))))))) v3], false, false, false, 0, 0⟩ :: nn 8 (vc (.d .fro (.sl (.pair (.int .i64) (.pair (.int .i64) (.pair (.int .i64) (.pair (.sl (.pair (.int .i64) (.pair (.int .i64) (.int .i64)))) (.pair (.sl (.int .i64)) (.sl (.sl (.int .i64))))))))) v4) :: vc (iL v5) :: vc (iL v6) :: nn 12 ([]))))
noncomputable def spec_l6Own.l3 (v0 : List Int) (v1 : List (Int × Int × Int × List (Int × Int × Int) × List Int × List (List Int))) (v2 : List Int) (v3 : List (Int × Int × Int × List (Int × Int × Int) × List Int × List (List Int))) (v4 : List (Int × Int × Int × List (Int × Int × Int) × List Int × List (List Int))) (v5 : Int) (v6 : Int) : Option ((List Int) × (List (Int × Int × Int × List (Int × Int × Int) × List Int × List (List Int)))) := tOf spec_l6Own.mk (spec_l6Own.q3 v0 v1 v2 v3 v4 v5 v6)
noncomputable def spec_l6Own.t {γ : Type} (ret : ((List Int) × (List (Int × Int × Int × List (Int × Int × Int) × List Int × List (List Int)))) → Option γ) (lp3 : (List Int) → (List (Int × Int × Int × List (Int × Int × Int) × List Int × List (List Int))) → (List Int) → (List (Int × Int × Int × List (Int × Int × Int) × List Int × List (List Int))) → (List (Int × Int × Int × List (Int × Int × Int) × List Int × List (List Int))) → Int → Int → Option γ) (v0 : List Int) (v1 : List (Int × Int × Int × List (Int × Int × Int) × List Int × List (List Int))) : Option γ :=
 bif decide (([] : List Int).length + v0.length ≤ (4294967296 : Nat)) then
  lp3 ([]) ([]) ([] ++ v0) ([]) (v1) ((↑v1.length : Int)) ((0 : Int))
 else
  none
noncomputable def spec_l6Own.t3 {γ : Type} (ret : ((List Int) × (List (Int × Int × Int × List (Int × Int × Int) × List Int × List (List Int)))) → Option γ) (lp3 : (List Int) → (List (Int × Int × Int × List (Int × Int × Int) × List Int × List (List Int))) → (List Int) → (List (Int × Int × Int × List (Int × Int × Int) × List Int × List (List Int))) → (List (Int × Int × Int × List (Int × Int × Int) × List Int × List (List Int))) → Int → Int → Option γ) (v0 : List Int) (v1 : List (Int × Int × Int × List (Int × Int × Int) × List Int × List (List Int))) (v2 : List Int) (v3 : List (Int × Int × Int × List (Int × Int × Int) × List Int × List (List Int))) (v4 : List (Int × Int × Int × List (Int × Int × Int) × List Int × List (List Int))) (v5 : Int) (v6 : Int) : Option γ :=
 bif decide (v6 < v5) then
  bif decide ((0 : Int) ≤ v6) then
   bif decide (v6.toNat < v4.length) then
    (spec_l6OwnPart ((v4.getD v6.toNat ((0 : Int), (0 : Int), (0 : Int), [], [], [])).fst) ((v4.getD v6.toNat ((0 : Int), (0 : Int), (0 : Int), [], [], [])).snd.fst) ((v4.getD v6.toNat ((0 : Int), (0 : Int), (0 : Int), [], [], [])).snd.snd.fst) ((v4.getD v6.toNat ((0 : Int), (0 : Int), (0 : Int), [], [], [])).snd.snd.snd.fst) ((v4.getD v6.toNat ((0 : Int), (0 : Int), (0 : Int), [], [], [])).snd.snd.snd.snd.fst) ((v4.getD v6.toNat ((0 : Int), (0 : Int), (0 : Int), [], [], [])).snd.snd.snd.snd.snd)).bind fun (r0 : Int × Int × Int × (List (Int × Int × Int)) × (List Int) × (List (List Int))) =>
    bif decide   (v3.length +       [(r0.fst, r0.snd.fst, r0.snd.snd.fst, r0.snd.snd.snd.fst, r0.snd.snd.snd.snd.fst,             r0.snd.snd.snd.snd.snd)].length ≤     (4294967296 : Nat)) then
     lp3 (v0) (v1) (v2) (v3 ++ [(r0.fst, r0.snd.fst, r0.snd.snd.fst, r0.snd.snd.snd.fst, r0.snd.snd.snd.snd.fst, r0.snd.snd.snd.snd.snd)]) (v4) (v5) (IntKind.i64.wrap (v6 + (1 : Int)))
    else
     none
   else
    none
  else
   none
 else
  ret (v2, v3)
theorem spec_l6Own.k (v0 : List Int) (v1 : List (Int × Int × Int × List (Int × Int × Int) × List Int × List (List Int))) : topL E (callT E tab) 14 Try.f14 (spec_l6Own.c v0 v1) = spec_l6Own.t (fun b => some (spec_l6Own.mk b)) spec_l6Own.q3 v0 v1 := by kernel_rfl
theorem spec_l6Own.k3 (v0 : List Int) (v1 : List (Int × Int × Int × List (Int × Int × Int) × List Int × List (List Int))) (v2 : List Int) (v3 : List (Int × Int × Int × List (Int × Int × Int) × List Int × List (List Int))) (v4 : List (Int × Int × Int × List (Int × Int × Int) × List Int × List (List Int))) (v5 : Int) (v6 : Int) : roundL E (callT E tab) 14 Try.f14 1 [.r, .r, .l, .r, .b] (nn 2 (⟨(.box false), [.d .deep (.sl (.int .i64)) v0, .d .deep (.sl (.pair (.int .i64) (.pair (.int .i64) (.pair (.int .i64) (.pair (.sl (.pair (.int .i64) (.pair (.int .i64) (.int .i64)))) (.pair (.sl (.int .i64)) (.sl (.sl (.int .i64))))))))) v1], false, false, false, 0, 0⟩ :: ⟨(.box false), [.d .deep (.sl (.int .i64)) v2, .d .deep (.sl (.pair (.int .i64) (.pair (.int .i64) (.pair (.int .i64) (.pair (.sl (.pair (.int .i64) (.pair (.int .i64) (.int .i64)))) (.pair (.sl (.int .i64)) (.sl (.sl (.int .i64))))))))) v3], false, false, false, 0, 0⟩ :: nn 8 (vc (.d .fro (.sl (.pair (.int .i64) (.pair (.int .i64) (.pair (.int .i64) (.pair (.sl (.pair (.int .i64) (.pair (.int .i64) (.int .i64)))) (.pair (.sl (.int .i64)) (.sl (.sl (.int .i64))))))))) v4) :: vc (iL v5) :: vc (iL v6) :: nn 12 ([])))) = spec_l6Own.t3 (fun b => some (spec_l6Own.mk b)) spec_l6Own.q3 v0 v1 v2 v3 v4 v5 v6 := by kernel_rfl
theorem spec_l6Own.eq (v0 : List Int) (v1 : List (Int × Int × Int × List (Int × Int × Int) × List Int × List (List Int))) {b : (List Int) × (List (Int × Int × Int × List (Int × Int × Int) × List Int × List (List Int)))} (h : spec_l6Own.t some spec_l6Own.l3 v0 v1 = some b) : spec_l6Own v0 v1 = some b := tOf_intro spec_l6Own.un (fun _ => by kernel_rfl) (vlim_fn (callT_le E tab) rfl rfl rfl ((spec_l6Own.k v0 v1).trans ((by unfold spec_l6Own.t; repeat' first | exact Sub.ret | exact Sub.none | exact Sub.loop | apply Sub.cond | (apply Sub.bind; intro _) : Sub spec_l6Own.mk _ _) b h)))
theorem spec_l6Own.eq3 (v0 : List Int) (v1 : List (Int × Int × Int × List (Int × Int × Int) × List Int × List (List Int))) (v2 : List Int) (v3 : List (Int × Int × Int × List (Int × Int × Int) × List Int × List (List Int))) (v4 : List (Int × Int × Int × List (Int × Int × Int) × List Int × List (List Int))) (v5 : Int) (v6 : Int) {b : (List Int) × (List (Int × Int × Int × List (Int × Int × Int) × List Int × List (List Int)))} (h : spec_l6Own.t3 some spec_l6Own.l3 v0 v1 v2 v3 v4 v5 v6 = some b) : spec_l6Own.l3 v0 v1 v2 v3 v4 v5 v6 = some b := tOf_intro spec_l6Own.un (fun _ => by kernel_rfl) (loopAtL_step ((spec_l6Own.k3 v0 v1 v2 v3 v4 v5 v6).trans ((by unfold spec_l6Own.t3; repeat' first | exact Sub.ret | exact Sub.none | exact Sub.loop | apply Sub.cond | (apply Sub.bind; intro _) : Sub spec_l6Own.mk _ _) b h)))
noncomputable def spec_l6OwnPart.q5 (v0 : Int) (v1 : Int) (v2 : Int) (v3 : List (Int × Int × Int)) (v4 : List Int) (v5 : List (List Int)) (v6 : Int) (v7 : Int) (v8 : Int) (v9 : List (Int × Int × Int)) (v10 : List Int) (v11 : List (List Int)) (v12 : List (List Int)) (v13 : List (List Int)) (v14 : Int) (v15 : Int) : Option R := loopAtL E (callT E tab) 15 Try.f15 1 [.r, .r, .r, .r, .l, .r, .b] (nn 1 (⟨(.box false), [iL v0, iL v1, iL v2, .d .deep (.sl (.pair (.int .i64) (.pair (.int .i64) (.int .i64)))) v3, .d .deep (.sl (.int .i64)) v4, .d .fro (.sl (.sl (.int .i64))) v5], false, false, false, 0, 0⟩ :: ⟨(.box false), [iL v6, iL v7, iL v8, .d .deep (.sl (.pair (.int .i64) (.pair (.int .i64) (.int .i64)))) v9, .d .deep (.sl (.int .i64)) v10, .d .deep (.sl (.sl (.int .i64))) v11], false, false, false, 0, 0⟩ :: vc (.d .deep (.sl (.sl (.int .i64))) v12) :: nn 13 (vc (.d .fro (.sl (.sl (.int .i64))) v13) :: vc (iL v14) :: vc (iL v15) :: nn 13 ([]))))
noncomputable def spec_l6OwnPart.l5 (v0 : Int) (v1 : Int) (v2 : Int) (v3 : List (Int × Int × Int)) (v4 : List Int) (v5 : List (List Int)) (v6 : Int) (v7 : Int) (v8 : Int) (v9 : List (Int × Int × Int)) (v10 : List Int) (v11 : List (List Int)) (v12 : List (List Int)) (v13 : List (List Int)) (v14 : Int) (v15 : Int) : Option (Int × Int × Int × (List (Int × Int × Int)) × (List Int) × (List (List Int))) := tOf spec_l6OwnPart.mk (spec_l6OwnPart.q5 v0 v1 v2 v3 v4 v5 v6 v7 v8 v9 v10 v11 v12 v13 v14 v15)
noncomputable def spec_l6OwnPart.t {γ : Type} (ret : (Int × Int × Int × (List (Int × Int × Int)) × (List Int) × (List (List Int))) → Option γ) (lp5 : Int → Int → Int → (List (Int × Int × Int)) → (List Int) → (List (List Int)) → Int → Int → Int → (List (Int × Int × Int)) → (List Int) → (List (List Int)) → (List (List Int)) → (List (List Int)) → Int → Int → Option γ) (v0 : Int) (v1 : Int) (v2 : Int) (v3 : List (Int × Int × Int)) (v4 : List Int) (v5 : List (List Int)) : Option γ :=
 bif decide (([] : List Int).length + v3.length ≤ (4294967296 : Nat)) then
  bif decide (([] : List Int).length + v4.length ≤ (4294967296 : Nat)) then
   lp5 (v0) (v1) (v2) ([] ++ v3) ([] ++ v4) (v5) ((0 : Int)) ((0 : Int)) ((0 : Int)) ([]) ([]) ([]) ([]) (v5) ((↑v5.length : Int)) ((0 : Int))
  else
   none
 else
  none
noncomputable def spec_l6OwnPart.t5 {γ : Type} (ret : (Int × Int × Int × (List (Int × Int × Int)) × (List Int) × (List (List Int))) → Option γ) (lp5 : Int → Int → Int → (List (Int × Int × Int)) → (List Int) → (List (List Int)) → Int → Int → Int → (List (Int × Int × Int)) → (List Int) → (List (List Int)) → (List (List Int)) → (List (List Int)) → Int → Int → Option γ) (v0 : Int) (v1 : Int) (v2 : Int) (v3 : List (Int × Int × Int)) (v4 : List Int) (v5 : List (List Int)) (v6 : Int) (v7 : Int) (v8 : Int) (v9 : List (Int × Int × Int)) (v10 : List Int) (v11 : List (List Int)) (v12 : List (List Int)) (v13 : List (List Int)) (v14 : Int) (v15 : Int) : Option γ :=
 bif decide (v15 < v14) then
  bif decide ((0 : Int) ≤ v15) then
   bif decide (v15.toNat < v13.length) then
    bif decide (([] : List Int).length + (v13.getD v15.toNat []).length ≤ (4294967296 : Nat)) then
     bif decide (v12.length + [[] ++ v13.getD v15.toNat []].length ≤ (4294967296 : Nat)) then
      lp5 (v0) (v1) (v2) (v3) (v4) (v5) (v6) (v7) (v8) (v9) (v10) (v11) (v12 ++ [[] ++ v13.getD v15.toNat []]) (v13) (v14) (IntKind.i64.wrap (v15 + (1 : Int)))
     else
      none
    else
     none
   else
    none
  else
   none
 else
  ret (v0, v1, v2, v3, v4, v12)
theorem spec_l6OwnPart.k (v0 : Int) (v1 : Int) (v2 : Int) (v3 : List (Int × Int × Int)) (v4 : List Int) (v5 : List (List Int)) : topL E (callT E tab) 15 Try.f15 (spec_l6OwnPart.c v0 v1 v2 v3 v4 v5) = spec_l6OwnPart.t (fun b => some (spec_l6OwnPart.mk b)) spec_l6OwnPart.q5 v0 v1 v2 v3 v4 v5 := by kernel_rfl
theorem spec_l6OwnPart.k5 (v0 : Int) (v1 : Int) (v2 : Int) (v3 : List (Int × Int × Int)) (v4 : List Int) (v5 : List (List Int)) (v6 : Int) (v7 : Int) (v8 : Int) (v9 : List (Int × Int × Int)) (v10 : List Int) (v11 : List (List Int)) (v12 : List (List Int)) (v13 : List (List Int)) (v14 : Int) (v15 : Int) : roundL E (callT E tab) 15 Try.f15 1 [.r, .r, .r, .r, .l, .r, .b] (nn 1 (⟨(.box false), [iL v0, iL v1, iL v2, .d .deep (.sl (.pair (.int .i64) (.pair (.int .i64) (.int .i64)))) v3, .d .deep (.sl (.int .i64)) v4, .d .fro (.sl (.sl (.int .i64))) v5], false, false, false, 0, 0⟩ :: ⟨(.box false), [iL v6, iL v7, iL v8, .d .deep (.sl (.pair (.int .i64) (.pair (.int .i64) (.int .i64)))) v9, .d .deep (.sl (.int .i64)) v10, .d .deep (.sl (.sl (.int .i64))) v11], false, false, false, 0, 0⟩ :: vc (.d .deep (.sl (.sl (.int .i64))) v12) :: nn 13 (vc (.d .fro (.sl (.sl (.int .i64))) v13) :: vc (iL v14) :: vc (iL v15) :: nn 13 ([])))) = spec_l6OwnPart.t5 (fun b => some (spec_l6OwnPart.mk b)) spec_l6OwnPart.q5 v0 v1 v2 v3 v4 v5 v6 v7 v8 v9 v10 v11 v12 v13 v14 v15 := by kernel_rfl
theorem spec_l6OwnPart.eq (v0 : Int) (v1 : Int) (v2 : Int) (v3 : List (Int × Int × Int)) (v4 : List Int) (v5 : List (List Int)) {b : Int × Int × Int × (List (Int × Int × Int)) × (List Int) × (List (List Int))} (h : spec_l6OwnPart.t some spec_l6OwnPart.l5 v0 v1 v2 v3 v4 v5 = some b) : spec_l6OwnPart v0 v1 v2 v3 v4 v5 = some b := tOf_intro spec_l6OwnPart.un (fun _ => by kernel_rfl) (vlim_fn (callT_le E tab) rfl rfl rfl ((spec_l6OwnPart.k v0 v1 v2 v3 v4 v5).trans ((by unfold spec_l6OwnPart.t; repeat' first | exact Sub.ret | exact Sub.none | exact Sub.loop | apply Sub.cond | (apply Sub.bind; intro _) : Sub spec_l6OwnPart.mk _ _) b h)))
theorem spec_l6OwnPart.eq5 (v0 : Int) (v1 : Int) (v2 : Int) (v3 : List (Int × Int × Int)) (v4 : List Int) (v5 : List (List Int)) (v6 : Int) (v7 : Int) (v8 : Int) (v9 : List (Int × Int × Int)) (v10 : List Int) (v11 : List (List Int)) (v12 : List (List Int)) (v13 : List (List Int)) (v14 : Int) (v15 : Int) {b : Int × Int × Int × (List (Int × Int × Int)) × (List Int) × (List (List Int))} (h : spec_l6OwnPart.t5 some spec_l6OwnPart.l5 v0 v1 v2 v3 v4 v5 v6 v7 v8 v9 v10 v11 v12 v13 v14 v15 = some b) : spec_l6OwnPart.l5 v0 v1 v2 v3 v4 v5 v6 v7 v8 v9 v10 v11 v12 v13 v14 v15 = some b := tOf_intro spec_l6OwnPart.un (fun _ => by kernel_rfl) (loopAtL_step ((spec_l6OwnPart.k5 v0 v1 v2 v3 v4 v5 v6 v7 v8 v9 v10 v11 v12 v13 v14 v15).trans ((by unfold spec_l6OwnPart.t5; repeat' first | exact Sub.ret | exact Sub.none | exact Sub.loop | apply Sub.cond | (apply Sub.bind; intro _) : Sub spec_l6OwnPart.mk _ _) b h)))
noncomputable def impl_PushDown.t {γ : Type} (ret : ((List Int) × (List (Int × Int × Int × List (Int × Int × Int) × List Int × List (List Int))) × Bool) → Option γ) (v0 : List Int) (v1 : List (Int × Int × Int × List (Int × Int × Int) × List Int × List (List Int))) : Option γ :=
 (impl_CheckView (v0) (v1)).bind fun (r0 : (List Int) × Bool) =>
 bif !r0.snd then
  ret ([], [], Bool.false)
 else
  (impl_View_own (v0) (v1)).bind fun (r1 : (List Int) × (List (Int × Int × Int × List (Int × Int × Int) × List Int × List (List Int)))) =>
  bif decide ((0 : Int) ≤ IntKind.i64.wrap ((↑r1.snd.length : Int) - (1 : Int))) then
   bif decide ((IntKind.i64.wrap ((↑r1.snd.length : Int) - (1 : Int))).toNat < r1.snd.length) then
    bif decide ((IntKind.i64.wrap ((↑r1.snd.length : Int) - (1 : Int))).toNat < r1.snd.length) then
     bif decide ((IntKind.i64.wrap ((↑r1.snd.length : Int) - (1 : Int))).toNat < r1.snd.length) then
      bif decide ((IntKind.i64.wrap ((↑r1.snd.length : Int) - (1 : Int))).toNat < r1.snd.length) then
       bif decide ((IntKind.i64.wrap ((↑r1.snd.length : Int) - (1 : Int))).toNat < r1.snd.length) then
        bif (r1.snd.getD (IntKind.i64.wrap ((↑r1.snd.length : Int) - (1 : Int))).toNat       ((0 : Int), (0 : Int), (0 : Int), [], [], [])).fst !=   (2 : Int) then
         ret (r1.fst, r1.snd, Bool.true)
        else
         bif decide   ((0 : Int) ≤     (r1.snd.getD (IntKind.i64.wrap ((↑r1.snd.length : Int) - (1 : Int))).toNat           ((0 : Int), (0 : Int), (0 : Int), [], [], [])).snd.fst) then
          bif decide   ((r1.snd.getD (IntKind.i64.wrap ((↑r1.snd.length : Int) - (1 : Int))).toNat             ((0 : Int), (0 : Int), (0 : Int), [], [], [])).snd.fst.toNat <     r1.snd.length) then
           bif decide   ((r1.snd.getD (IntKind.i64.wrap ((↑r1.snd.length : Int) - (1 : Int))).toNat             ((0 : Int), (0 : Int), (0 : Int), [], [], [])).snd.fst.toNat <     r1.snd.length) then
            bif (r1.snd.getD       (r1.snd.getD (IntKind.i64.wrap ((↑r1.snd.length : Int) - (1 : Int))).toNat               ((0 : Int), (0 : Int), (0 : Int), [], [], [])).snd.fst.toNat       ((0 : Int), (0 : Int), (0 : Int), [], [], [])).fst !=   (5 : Int) then
             ret (r1.fst, r1.snd, Bool.true)
            else
             bif decide (IntKind.i64.wrap ((↑r1.snd.length : Int) + (2 : Int)) > (12 : Int)) then
              ret (r1.fst, r1.snd, Bool.true)
             else
              bif decide   ((0 : Int) ≤     (r1.snd.getD (IntKind.i64.wrap ((↑r1.snd.length : Int) - (1 : Int))).toNat           ((0 : Int), (0 : Int), (0 : Int), [], [], [])).snd.fst) then
               bif decide   ((r1.snd.getD (IntKind.i64.wrap ((↑r1.snd.length : Int) - (1 : Int))).toNat             ((0 : Int), (0 : Int), (0 : Int), [], [], [])).snd.fst.toNat <     r1.snd.length) then
                bif decide   ((r1.snd.getD (IntKind.i64.wrap ((↑r1.snd.length : Int) - (1 : Int))).toNat             ((0 : Int), (0 : Int), (0 : Int), [], [], [])).snd.fst.toNat <     r1.snd.length) then
                 bif decide   ((r1.snd.getD (IntKind.i64.wrap ((↑r1.snd.length : Int) - (1 : Int))).toNat             ((0 : Int), (0 : Int), (0 : Int), [], [], [])).snd.fst.toNat <     r1.snd.length) then
                  bif decide   ((r1.snd.getD (IntKind.i64.wrap ((↑r1.snd.length : Int) - (1 : Int))).toNat             ((0 : Int), (0 : Int), (0 : Int), [], [], [])).snd.fst.toNat <     r1.snd.length) then
                   bif decide   ((r1.snd.getD (IntKind.i64.wrap ((↑r1.snd.length : Int) - (1 : Int))).toNat             ((0 : Int), (0 : Int), (0 : Int), [], [], [])).snd.fst.toNat <     r1.snd.length) then
                    bif decide ((IntKind.i64.wrap ((↑r1.snd.length : Int) - (1 : Int))).toNat < r1.snd.length) then
                     bif decide ((IntKind.i64.wrap ((↑r1.snd.length : Int) - (1 : Int))).toNat < r1.snd.length) then
                      bif decide ((IntKind.i64.wrap ((↑r1.snd.length : Int) - (1 : Int))).toNat < r1.snd.length) then
                       (impl_Part_own ((r1.snd.getD (IntKind.i64.wrap ((↑r1.snd.length : Int) - (1 : Int))).toNat     ((0 : Int), (0 : Int), (0 : Int), [], [], [])).fst) ((r1.snd.getD (IntKind.i64.wrap ((↑r1.snd.length : Int) - (1 : Int))).toNat       ((0 : Int), (0 : Int), (0 : Int), [], [], [])).snd.fst) ((r1.snd.getD (IntKind.i64.wrap ((↑r1.snd.length : Int) - (1 : Int))).toNat         ((0 : Int), (0 : Int), (0 : Int), [], [], [])).snd.snd.fst) ((r1.snd.getD (IntKind.i64.wrap ((↑r1.snd.length : Int) - (1 : Int))).toNat           ((0 : Int), (0 : Int), (0 : Int), [], [], [])).snd.snd.snd.fst) ((r1.snd.getD (IntKind.i64.wrap ((↑r1.snd.length : Int) - (1 : Int))).toNat             ((0 : Int), (0 : Int), (0 : Int), [], [], [])).snd.snd.snd.snd.fst) ((r1.snd.getD (IntKind.i64.wrap ((↑r1.snd.length : Int) - (1 : Int))).toNat             ((0 : Int), (0 : Int), (0 : Int), [], [], [])).snd.snd.snd.snd.snd)).bind fun (r2 : Int × Int × Int × (List (Int × Int × Int)) × (List Int) × (List (List Int))) =>
                       bif decide ((IntKind.i64.wrap ((↑r1.snd.length : Int) - (1 : Int))).toNat < r1.snd.length) then
                        bif decide ((IntKind.i64.wrap ((↑r1.snd.length : Int) - (1 : Int))).toNat < r1.snd.length) then
                         bif decide ((IntKind.i64.wrap ((↑r1.snd.length : Int) - (1 : Int))).toNat < r1.snd.length) then
                          (impl_Part_own ((r1.snd.getD (IntKind.i64.wrap ((↑r1.snd.length : Int) - (1 : Int))).toNat     ((0 : Int), (0 : Int), (0 : Int), [], [], [])).fst) ((r1.snd.getD (IntKind.i64.wrap ((↑r1.snd.length : Int) - (1 : Int))).toNat       ((0 : Int), (0 : Int), (0 : Int), [], [], [])).snd.fst) ((r1.snd.getD (IntKind.i64.wrap ((↑r1.snd.length : Int) - (1 : Int))).toNat         ((0 : Int), (0 : Int), (0 : Int), [], [], [])).snd.snd.fst) ((r1.snd.getD (IntKind.i64.wrap ((↑r1.snd.length : Int) - (1 : Int))).toNat           ((0 : Int), (0 : Int), (0 : Int), [], [], [])).snd.snd.snd.fst) ((r1.snd.getD (IntKind.i64.wrap ((↑r1.snd.length : Int) - (1 : Int))).toNat             ((0 : Int), (0 : Int), (0 : Int), [], [], [])).snd.snd.snd.snd.fst) ((r1.snd.getD (IntKind.i64.wrap ((↑r1.snd.length : Int) - (1 : Int))).toNat             ((0 : Int), (0 : Int), (0 : Int), [], [], [])).snd.snd.snd.snd.snd)).bind fun (r3 : Int × Int × Int × (List (Int × Int × Int)) × (List Int) × (List (List Int))) =>
                          bif decide (Option.none.getD (0 : Int) ≤ IntKind.i64.wrap ((↑r1.snd.length : Int) - (1 : Int))) then
                           bif decide (IntKind.i64.wrap ((↑r1.snd.length : Int) - (1 : Int)) ≤ (↑r1.snd.length : Int)) then
                            bif decide   ((List.take (IntKind.i64.wrap ((↑r1.snd.length : Int) - (1 : Int)) - Option.none.getD (0 : Int)).toNat           (List.drop (Option.none.getD (0 : Int)).toNat r1.snd)).length +       [(r2.fst,             (r1.snd.getD                   (r1.snd.getD (IntKind.i64.wrap ((↑r1.snd.length : Int) - (1 : Int))).toNat                           ((0 : Int), (0 : Int), (0 : Int), [], [], [])).snd.fst.toNat                   ((0 : Int), (0 : Int), (0 : Int), [], [], [])).snd.fst,             r2.snd.snd.fst, r2.snd.snd.snd.fst, r2.snd.snd.snd.snd.fst, r2.snd.snd.snd.snd.snd),           (r3.fst,             (r1.snd.getD                     (r1.snd.getD (IntKind.i64.wrap ((↑r1.snd.length : Int) - (1 : Int))).toNat                             ((0 : Int), (0 : Int), (0 : Int), [], [], [])).snd.fst.toNat                     ((0 : Int), (0 : Int), (0 : Int), [], [], [])).snd.snd.fst,             r3.snd.snd.fst, r3.snd.snd.snd.fst, r3.snd.snd.snd.snd.fst, r3.snd.snd.snd.snd.snd),           ((5 : Int), IntKind.i64.wrap ((↑r1.snd.length : Int) - (1 : Int)),             IntKind.i64.wrap (IntKind.i64.wrap ((↑r1.snd.length : Int) - (1 : Int)) + (1 : Int)), [], [],             [])].length ≤     (4294967296 : Nat)) then
                             ret (r1.fst, List.take (IntKind.i64.wrap ((↑r1.snd.length : Int) - (1 : Int)) - Option.none.getD (0 : Int)).toNat     (List.drop (Option.none.getD (0 : Int)).toNat r1.snd) ++   [(r2.fst,       (r1.snd.getD             (r1.snd.getD (IntKind.i64.wrap ((↑r1.snd.length : Int) - (1 : Int))).toNat                     ((0 : Int), (0 : Int), (0 : Int), [], [], [])).snd.fst.toNat             ((0 : Int), (0 : Int), (0 : Int), [], [], [])).snd.fst,       r2.snd.snd.fst, r2.snd.snd.snd.fst, r2.snd.snd.snd.snd.fst, r2.snd.snd.snd.snd.snd),     (r3.fst,       (r1.snd.getD               (r1.snd.getD (IntKind.i64.wrap ((↑r1.snd.length : Int) - (1 : Int))).toNat                       ((0 : Int), (0 : Int), (0 : Int), [], [], [])).snd.fst.toNat               ((0 : Int), (0 : Int), (0 : Int), [], [], [])).snd.snd.fst,       r3.snd.snd.fst, r3.snd.snd.snd.fst, r3.snd.snd.snd.snd.fst, r3.snd.snd.snd.snd.snd),     ((5 : Int), IntKind.i64.wrap ((↑r1.snd.length : Int) - (1 : Int)),       IntKind.i64.wrap (IntKind.i64.wrap ((↑r1.snd.length : Int) - (1 : Int)) + (1 : Int)), [], [], [])], Bool.true)
                            else
                             none
                           else
                            none
                          else
                           none
                         else
                          none
                        else
                         none
                       else
                        none
                      else
                       none
                     else
                      none
                    else
                     none
                   else
                    none
                  else
                   none
                 else
                  none
                else
                 none
               else
                none
              else
               none
           else
            none
          else
           none
         else
          none
       else
        none
      else
       none
     else
      none
    else
     none
   else
    none
  else
   none
theorem impl_PushDown.k (v0 : List Int) (v1 : List (Int × Int × Int × List (Int × Int × Int) × List Int × List (List Int))) : topL E (callT E tab) 7 Try.f7 (impl_PushDown.c v0 v1) = impl_PushDown.t (fun b => some (impl_PushDown.mk b)) v0 v1 := by kernel_rfl
theorem impl_PushDown.eq (v0 : List Int) (v1 : List (Int × Int × Int × List (Int × Int × Int) × List Int × List (List Int))) {b : (List Int) × (List (Int × Int × Int × List (Int × Int × Int) × List Int × List (List Int))) × Bool} (h : impl_PushDown.t some v0 v1 = some b) : impl_PushDown v0 v1 = some b := tOf_intro impl_PushDown.un (fun _ => by kernel_rfl) (vlim_fn (callT_le E tab) rfl rfl rfl ((impl_PushDown.k v0 v1).trans ((by unfold impl_PushDown.t; repeat' first | exact Sub.ret | exact Sub.none | exact Sub.loop | apply Sub.cond | (apply Sub.bind; intro _) : Sub impl_PushDown.mk _ _) b h)))
noncomputable def impl_CheckView.q5 (v0 : List Int) (v1 : List (Int × Int × Int × List (Int × Int × Int) × List Int × List (List Int))) (v2 : List Int) (v3 : List (Int × Int × Int × List (Int × Int × Int) × List Int × List (List Int))) (v4 : Int) (v5 : Int) : Option R := loopAtL E (callT E tab) 18 Try.f18 1 [.r, .r, .r, .l, .r, .b] (nn 1 (⟨(.box false), [.d .fro (.sl (.int .i64)) v0, .d .fro (.sl (.pair (.int .i64) (.pair (.int .i64) (.pair (.int .i64) (.pair (.sl (.pair (.int .i64) (.pair (.int .i64) (.int .i64)))) (.pair (.sl (.int .i64)) (.sl (.sl (.int .i64))))))))) v1], false, false, false, 0, 0⟩ :: nn 2 (vc (.d .deep (.sl (.int .i64)) v2) :: nn 23 (vc (.d .fro (.sl (.pair (.int .i64) (.pair (.int .i64) (.pair (.int .i64) (.pair (.sl (.pair (.int .i64) (.pair (.int .i64) (.int .i64)))) (.pair (.sl (.int .i64)) (.sl (.sl (.int .i64))))))))) v3) :: vc (iL v4) :: vc (iL v5) :: nn 23 ([])))))
noncomputable def impl_CheckView.l5 (v0 : List Int) (v1 : List (Int × Int × Int × List (Int × Int × Int) × List Int × List (List Int))) (v2 : List Int) (v3 : List (Int × Int × Int × List (Int × Int × Int) × List Int × List (List Int))) (v4 : Int) (v5 : Int) : Option ((List Int) × Bool) := tOf impl_CheckView.mk (impl_CheckView.q5 v0 v1 v2 v3 v4 v5)
noncomputable def impl_CheckView.t {γ : Type} (ret : ((List Int) × Bool) → Option γ) (lp5 : (List Int) → (List (Int × Int × Int × List (Int × Int × Int) × List Int × List (List Int))) → (List Int) → (List (Int × Int × Int × List (Int × Int × Int) × List Int × List (List Int))) → Int → Int → Option γ) (v0 : List Int) (v1 : List (Int × Int × Int × List (Int × Int × Int) × List Int × List (List Int))) : Option γ :=
 (impl_within ((↑v0.length : Int)) ((1 : Int)) ((4 : Int))).bind fun (r0 : Bool) =>
 bif !r0 then
  ret ([], Bool.false)
 else
  (xi0i (v0)).bind fun (r1 : Bool) =>
  bif !r1 then
   ret ([], Bool.false)
  else
   (impl_within ((↑v1.length : Int)) ((1 : Int)) ((12 : Int))).bind fun (r2 : Bool) =>
   bif !r2 then
    ret ([], Bool.false)
   else
    lp5 (v0) (v1) ([]) (v1) ((↑v1.length : Int)) ((0 : Int))
noncomputable def impl_CheckView.t5 {γ : Type} (ret : ((List Int) × Bool) → Option γ) (lp5 : (List Int) → (List (Int × Int × Int × List (Int × Int × Int) × List Int × List (List Int))) → (List Int) → (List (Int × Int × Int × List (Int × Int × Int) × List Int × List (List Int))) → Int → Int → Option γ) (v0 : List Int) (v1 : List (Int × Int × Int × List (Int × Int × Int) × List Int × List (List Int))) (v2 : List Int) (v3 : List (Int × Int × Int × List (Int × Int × Int) × List Int × List (List Int))) (v4 : Int) (v5 : Int) : Option γ :=
 bif decide (v5 < v4) then
  bif decide ((0 : Int) ≤ v5) then
   bif decide (v5.toNat < v3.length) then
    (xi0l (v0) (v1) ((v3.getD v5.toNat ((0 : Int), (0 : Int), (0 : Int), [], [], [])).fst) ((v3.getD v5.toNat ((0 : Int), (0 : Int), (0 : Int), [], [], [])).snd.fst) ((v3.getD v5.toNat ((0 : Int), (0 : Int), (0 : Int), [], [], [])).snd.snd.fst) ((v3.getD v5.toNat ((0 : Int), (0 : Int), (0 : Int), [], [], [])).snd.snd.snd.fst) ((v3.getD v5.toNat ((0 : Int), (0 : Int), (0 : Int), [], [], [])).snd.snd.snd.snd.fst) ((v3.getD v5.toNat ((0 : Int), (0 : Int), (0 : Int), [], [], [])).snd.snd.snd.snd.snd) (v2)).bind fun (r3 : Int × Bool) =>
    bif !r3.snd then
     ret ([], Bool.false)
    else
     (impl_Part_uses ((v3.getD v5.toNat ((0 : Int), (0 : Int), (0 : Int), [], [], [])).fst) ((v3.getD v5.toNat ((0 : Int), (0 : Int), (0 : Int), [], [], [])).snd.fst) ((v3.getD v5.toNat ((0 : Int), (0 : Int), (0 : Int), [], [], [])).snd.snd.fst) ((v3.getD v5.toNat ((0 : Int), (0 : Int), (0 : Int), [], [], [])).snd.snd.snd.fst) ((v3.getD v5.toNat ((0 : Int), (0 : Int), (0 : Int), [], [], [])).snd.snd.snd.snd.fst) ((v3.getD v5.toNat ((0 : Int), (0 : Int), (0 : Int), [], [], [])).snd.snd.snd.snd.snd)).bind fun (r4 : Bool) =>
     bif !r4 then
      ret ([], Bool.false)
     else
      bif decide (v2.length + [r3.fst].length ≤ (4294967296 : Nat)) then
       lp5 (v0) (v1) (v2 ++ [r3.fst]) (v3) (v4) (IntKind.i64.wrap (v5 + (1 : Int)))
      else
       none
   else
    none
  else
   none
 else
  ret (v2, Bool.true)
theorem impl_CheckView.k (v0 : List Int) (v1 : List (Int × Int × Int × List (Int × Int × Int) × List Int × List (List Int))) : topL E (callT E tab) 18 Try.f18 (impl_CheckView.c v0 v1) = impl_CheckView.t (fun b => some (impl_CheckView.mk b)) impl_CheckView.q5 v0 v1 := by kernel_rfl
theorem impl_CheckView.k5 (v0 : List Int) (v1 : List (Int × Int × Int × List (Int × Int × Int) × List Int × List (List Int))) (v2 : List Int) (v3 : List (Int × Int × Int × List (Int × Int × Int) × List Int × List (List Int))) (v4 : Int) (v5 : Int) : roundL E (callT E tab) 18 Try.f18 1 [.r, .r, .r, .l, .r, .b] (nn 1 (⟨(.box false), [.d .fro (.sl (.int .i64)) v0, .d .fro (.sl (.pair (.int .i64) (.pair (.int .i64) (.pair (.int .i64) (.pair (.sl (.pair (.int .i64) (.pair (.int .i64) (.int .i64)))) (.pair (.sl (.int .i64)) (.sl (.sl (.int .i64))))))))) v1], false, false, false, 0, 0⟩ :: nn 2 (vc (.d .deep (.sl (.int .i64)) v2) :: nn 23 (vc (.d .fro (.sl (.pair (.int .i64) (.pair (.int .i64) (.pair (.int .i64) (.pair (.sl (.pair (.int .i64) (.pair (.int .i64) (.int .i64)))) (.pair (.sl (.int .i64)) (.sl (.sl (.int .i64))))))))) v3) :: vc (iL v4) :: vc (iL v5) :: nn 23 ([]))))) = impl_CheckView.t5 (fun b => some (impl_CheckView.mk b)) impl_CheckView.q5 v0 v1 v2 v3 v4 v5 := by kernel_rfl
theorem impl_CheckView.eq (v0 : List Int) (v1 : List (Int × Int × Int × List (Int × Int × Int) × List Int × List (List Int))) {b : (List Int) × Bool} (h : impl_CheckView.t some impl_CheckView.l5 v0 v1 = some b) : impl_CheckView v0 v1 = some b := tOf_intro impl_CheckView.un (fun _ => by kernel_rfl) (vlim_fn (callT_le E tab) rfl rfl rfl ((impl_CheckView.k v0 v1).trans ((by unfold impl_CheckView.t; repeat' first | exact Sub.ret | exact Sub.none | exact Sub.loop | apply Sub.cond | (apply Sub.bind; intro _) : Sub impl_CheckView.mk _ _) b h)))
theorem impl_CheckView.eq5 (v0 : List Int) (v1 : List (Int × Int × Int × List (Int × Int × Int) × List Int × List (List Int))) (v2 : List Int) (v3 : List (Int × Int × Int × List (Int × Int × Int) × List Int × List (List Int))) (v4 : Int) (v5 : Int) {b : (List Int) × Bool} (h : impl_CheckView.t5 some impl_CheckView.l5 v0 v1 v2 v3 v4 v5 = some b) : impl_CheckView.l5 v0 v1 v2 v3 v4 v5 = some b := tOf_intro impl_CheckView.un (fun _ => by kernel_rfl) (loopAtL_step ((impl_CheckView.k5 v0 v1 v2 v3 v4 v5).trans ((by unfold impl_CheckView.t5; repeat' first | exact Sub.ret | exact Sub.none | exact Sub.loop | apply Sub.cond | (apply Sub.bind; intro _) : Sub impl_CheckView.mk _ _) b h)))
noncomputable def impl_within.t {γ : Type} (ret : (Bool) → Option γ) (v0 : Int) (v1 : Int) (v2 : Int) : Option γ :=
 bif decide (v1 ≤ v0) then
  ret (decide (v0 ≤ v2))
 else
  ret (Bool.false)
theorem impl_within.k (v0 : Int) (v1 : Int) (v2 : Int) : topL E (callT E tab) 31 Try.f31 (impl_within.c v0 v1 v2) = impl_within.t (fun b => some (impl_within.mk b)) v0 v1 v2 := by kernel_rfl
theorem impl_within.eq (v0 : Int) (v1 : Int) (v2 : Int) {b : Bool} (h : impl_within.t some v0 v1 v2 = some b) : impl_within v0 v1 v2 = some b := tOf_intro impl_within.un (fun _ => by kernel_rfl) (vlim_fn (callT_le E tab) rfl rfl rfl ((impl_within.k v0 v1 v2).trans ((by unfold impl_within.t; repeat' first | exact Sub.ret | exact Sub.none | exact Sub.loop | apply Sub.cond | (apply Sub.bind; intro _) : Sub impl_within.mk _ _) b h)))
noncomputable def xi0i.t {γ : Type} (ret : (Bool) → Option γ) (v0 : List Int) : Option γ :=
 (xs04 (v0)).bind fun (r0 : Bool) =>
 ret (!r0)
theorem xi0i.k (v0 : List Int) : topL E (callT E tab) 32 Try.f32 (xi0i.c v0) = xi0i.t (fun b => some (xi0i.mk b)) v0 := by kernel_rfl
theorem xi0i.eq (v0 : List Int) {b : Bool} (h : xi0i.t some v0 = some b) : xi0i v0 = some b := tOf_intro xi0i.un (fun _ => by kernel_rfl) (vlim_fn (callT_le E tab) rfl rfl rfl ((xi0i.k v0).trans ((by unfold xi0i.t; repeat' first | exact Sub.ret | exact Sub.none | exact Sub.loop | apply Sub.cond | (apply Sub.bind; intro _) : Sub xi0i.mk _ _) b h)))
noncomputable def xs04.t {γ : Type} (ret : (Bool) → Option γ) (v0 : List Int) : Option γ :=
 (xs07 (v0)).bind fun (r0 : Int) =>
 ret (decide (r0 ≥ (0 : Int)))
theorem xs04.k (v0 : List Int) : topL E (callT E tab) 51 Try.f51 (xs04.c v0) = xs04.t (fun b => some (xs04.mk b)) v0 := by kernel_rfl
theorem xs04.eq (v0 : List Int) {b : Bool} (h : xs04.t some v0 = some b) : xs04 v0 = some b := tOf_intro xs04.un (fun _ => by kernel_rfl) (vlim_fn (callT_le E tab) rfl rfl rfl ((xs04.k v0).trans ((by unfold xs04.t; repeat' first | exact Sub.ret | exact Sub.none | exact Sub.loop | apply Sub.cond | (apply Sub.bind; intro _) : Sub xs04.mk _ _) b h)))
noncomputable def xs07.q2 (v0 : List Int) (v1 : Int) (v2 : Int) : Option R := loopAtL E (callT E tab) 60 Try.f60 2 [.r, .l, .r, .b] (vc (.d .fro (.sl (.int .i64)) v0) :: vc (.fn 52 [.rp [.fn 33 []] 0]) :: nn 5 (vc (iL v1) :: vc (iL v2) :: nn 10 ([])))
noncomputable def xs07.l2 (v0 : List Int) (v1 : Int) (v2 : Int) : Option (Int) := tOf xs07.mk (xs07.q2 v0 v1 v2)
noncomputable def xs07.t {γ : Type} (ret : (Int) → Option γ) (lp2 : (List Int) → Int → Int → Option γ) (v0 : List Int) : Option γ :=
 lp2 (v0) ((↑v0.length : Int)) ((0 : Int))
noncomputable def xs07.t2 {γ : Type} (ret : (Int) → Option γ) (lp2 : (List Int) → Int → Int → Option γ) (v0 : List Int) (v1 : Int) (v2 : Int) : Option γ :=
 bif decide (v2 < v1) then
  bif decide ((0 : Int) ≤ v2) then
   bif decide (v2.toNat < v0.length) then
    (xi0f (v0.getD v2.toNat (0 : Int))).bind fun (r0 : Bool) =>
    bif r0 then
     ret (v2)
    else
     lp2 (v0) (v1) (IntKind.i64.wrap (v2 + (1 : Int)))
   else
    none
  else
   none
 else
  ret ((-1 : Int))
theorem xs07.k (v0 : List Int) : topL E (callT E tab) 60 Try.f60 (xs07.c v0) = xs07.t (fun b => some (xs07.mk b)) xs07.q2 v0 := by kernel_rfl
theorem xs07.k2 (v0 : List Int) (v1 : Int) (v2 : Int) : roundL E (callT E tab) 60 Try.f60 2 [.r, .l, .r, .b] (vc (.d .fro (.sl (.int .i64)) v0) :: vc (.fn 52 [.rp [.fn 33 []] 0]) :: nn 5 (vc (iL v1) :: vc (iL v2) :: nn 10 ([]))) = xs07.t2 (fun b => some (xs07.mk b)) xs07.q2 v0 v1 v2 := by kernel_rfl
theorem xs07.eq (v0 : List Int) {b : Int} (h : xs07.t some xs07.l2 v0 = some b) : xs07 v0 = some b := tOf_intro xs07.un (fun _ => by kernel_rfl) (vlim_fn (callT_le E tab) rfl rfl rfl ((xs07.k v0).trans ((by unfold xs07.t; repeat' first | exact Sub.ret | exact Sub.none | exact Sub.loop | apply Sub.cond | (apply Sub.bind; intro _) : Sub xs07.mk _ _) b h)))
theorem xs07.eq2 (v0 : List Int) (v1 : Int) (v2 : Int) {b : Int} (h : xs07.t2 some xs07.l2 v0 v1 v2 = some b) : xs07.l2 v0 v1 v2 = some b := tOf_intro xs07.un (fun _ => by kernel_rfl) (loopAtL_step ((xs07.k2 v0 v1 v2).trans ((by unfold xs07.t2; repeat' first | exact Sub.ret | exact Sub.none | exact Sub.loop | apply Sub.cond | (apply Sub.bind; intro _) : Sub xs07.mk _ _) b h)))
noncomputable def xi0f.t {γ : Type} (ret : (Bool) → Option γ) (v0 : Int) : Option γ :=
 (impl_isColumns (v0)).bind fun (r0 : Bool) =>
 ret (!r0)
theorem xi0f.k (v0 : Int) : topL E (callT E tab) 52 Try.f52 (xi0f.c v0) = xi0f.t (fun b => some (xi0f.mk b)) v0 := by kernel_rfl
theorem xi0f.eq (v0 : Int) {b : Bool} (h : xi0f.t some v0 = some b) : xi0f v0 = some b := tOf_intro xi0f.un (fun _ => by kernel_rfl) (vlim_fn (callT_le E tab) rfl rfl rfl ((xi0f.k v0).trans ((by unfold xi0f.t; repeat' first | exact Sub.ret | exact Sub.none | exact Sub.loop | apply Sub.cond | (apply Sub.bind; intro _) : Sub xi0f.mk _ _) b h)))
noncomputable def impl_isColumns.t {γ : Type} (ret : (Bool) → Option γ) (v0 : Int) : Option γ :=
 (impl_within (v0) ((0 : Int)) ((6 : Int))).bind fun (r0 : Bool) =>
 ret (r0)
theorem impl_isColumns.k (v0 : Int) : topL E (callT E tab) 33 Try.f33 (impl_isColumns.c v0) = impl_isColumns.t (fun b => some (impl_isColumns.mk b)) v0 := by kernel_rfl
theorem impl_isColumns.eq (v0 : Int) {b : Bool} (h : impl_isColumns.t some v0 = some b) : impl_isColumns v0 = some b := tOf_intro impl_isColumns.un (fun _ => by kernel_rfl) (vlim_fn (callT_le E tab) rfl rfl rfl ((impl_isColumns.k v0).trans ((by unfold impl_isColumns.t; repeat' first | exact Sub.ret | exact Sub.none | exact Sub.loop | apply Sub.cond | (apply Sub.bind; intro _) : Sub impl_isColumns.mk _ _) b h)))
noncomputable def xi0l.t {γ : Type} (ret : (Int × Bool) → Option γ) (v0 : List Int) (v1 : List (Int × Int × Int × List (Int × Int × Int) × List Int × List (List Int))) (v2 : Int) (v3 : Int) (v4 : Int) (v5 : List (Int × Int × Int)) (v6 : List Int) (v7 : List (List Int)) (v8 : List Int) : Option γ :=
 bif v2 == (1 : Int) then
  (impl_within (v3) ((0 : Int)) (IntKind.i64.wrap ((↑v0.length : Int) - (1 : Int)))).bind fun (r0 : Bool) =>
  bif !r0 then
   ret ((0 : Int), Bool.false)
  else
   bif decide ((0 : Int) ≤ v3) then
    bif decide (v3.toNat < v0.length) then
     ret (v0.getD v3.toNat (0 : Int), Bool.true)
    else
     none
   else
    none
 else
  (impl_within (v3) ((0 : Int)) (IntKind.i64.wrap ((↑v8.length : Int) - (1 : Int)))).bind fun (r1 : Bool) =>
  bif !r1 then
   ret ((0 : Int), Bool.false)
  else
   (impl_within (v4) ((0 : Int)) (IntKind.i64.wrap ((↑v8.length : Int) - (1 : Int)))).bind fun (r2 : Bool) =>
   bif !r2 then
    ret ((0 : Int), Bool.false)
   else
    bif decide ((0 : Int) ≤ v3) then
     bif decide (v3.toNat < v8.length) then
      bif decide ((0 : Int) ≤ v4) then
       bif decide (v4.toNat < v8.length) then
        bif v2 == (2 : Int) then
         (impl_GoodTests (v5) (v8.getD v3.toNat (0 : Int))).bind fun (r3 : Bool) =>
         ret (v8.getD v3.toNat (0 : Int), r3)
        else
         bif v2 == (3 : Int) then
          (impl_areColumns (v6) (v8.getD v3.toNat (0 : Int))).bind fun (r4 : Bool) =>
          ret ((↑v6.length : Int), r4)
         else
          bif v2 == (4 : Int) then
           (impl_arePairs (v7) (v8.getD v3.toNat (0 : Int)) (v8.getD v4.toNat (0 : Int))).bind fun (r5 : Bool) =>
           bif !r5 then
            ret ((0 : Int), Bool.false)
           else
            (impl_joinedColumns (v8.getD v3.toNat (0 : Int)) (v8.getD v4.toNat (0 : Int)) (v7)).bind fun (r6 : Int) =>
            (impl_isColumns (r6)).bind fun (r7 : Bool) =>
            ret (r6, r7)
          else
           bif v2 == (5 : Int) then
            bif v2 == (5 : Int) then
             ret (v8.getD v3.toNat (0 : Int), v8.getD v3.toNat (0 : Int) == v8.getD v4.toNat (0 : Int))
            else
             ret (v8.getD v3.toNat (0 : Int), v2 == (7 : Int))
           else
            bif v2 == (6 : Int) then
             ret (v8.getD v3.toNat (0 : Int), v8.getD v3.toNat (0 : Int) == v8.getD v4.toNat (0 : Int))
            else
             ret (v8.getD v3.toNat (0 : Int), v2 == (7 : Int))
       else
        none
      else
       none
     else
      none
    else
     none
theorem xi0l.k (v0 : List Int) (v1 : List (Int × Int × Int × List (Int × Int × Int) × List Int × List (List Int))) (v2 : Int) (v3 : Int) (v4 : Int) (v5 : List (Int × Int × Int)) (v6 : List Int) (v7 : List (List Int)) (v8 : List Int) : topL E (callT E tab) 34 Try.f34 (xi0l.c v0 v1 v2 v3 v4 v5 v6 v7 v8) = xi0l.t (fun b => some (xi0l.mk b)) v0 v1 v2 v3 v4 v5 v6 v7 v8 := by kernel_rfl
theorem xi0l.eq (v0 : List Int) (v1 : List (Int × Int × Int × List (Int × Int × Int) × List Int × List (List Int))) (v2 : Int) (v3 : Int) (v4 : Int) (v5 : List (Int × Int × Int)) (v6 : List Int) (v7 : List (List Int)) (v8 : List Int) {b : Int × Bool} (h : xi0l.t some v0 v1 v2 v3 v4 v5 v6 v7 v8 = some b) : xi0l v0 v1 v2 v3 v4 v5 v6 v7 v8 = some b := tOf_intro xi0l.un (fun _ => by kernel_rfl) (vlim_fn (callT_le E tab) rfl rfl rfl ((xi0l.k v0 v1 v2 v3 v4 v5 v6 v7 v8).trans ((by unfold xi0l.t; repeat' first | exact Sub.ret | exact Sub.none | exact Sub.loop | apply Sub.cond | (apply Sub.bind; intro _) : Sub xi0l.mk _ _) b h)))
noncomputable def impl_GoodTests.t {γ : Type} (ret : (Bool) → Option γ) (v0 : List (Int × Int × Int)) (v1 : Int) : Option γ :=
 bif decide ((↑v0.length : Int) ≤ (8 : Int)) then
  (xi0b (v0) (v1)).bind fun (r0 : Bool) =>
  ret (r0)
 else
  ret (Bool.false)
theorem impl_GoodTests.k (v0 : List (Int × Int × Int)) (v1 : Int) : topL E (callT E tab) 53 Try.f53 (impl_GoodTests.c v0 v1) = impl_GoodTests.t (fun b => some (impl_GoodTests.mk b)) v0 v1 := by kernel_rfl
theorem impl_GoodTests.eq (v0 : List (Int × Int × Int)) (v1 : Int) {b : Bool} (h : impl_GoodTests.t some v0 v1 = some b) : impl_GoodTests v0 v1 = some b := tOf_intro impl_GoodTests.un (fun _ => by kernel_rfl) (vlim_fn (callT_le E tab) rfl rfl rfl ((impl_GoodTests.k v0 v1).trans ((by unfold impl_GoodTests.t; repeat' first | exact Sub.ret | exact Sub.none | exact Sub.loop | apply Sub.cond | (apply Sub.bind; intro _) : Sub impl_GoodTests.mk _ _) b h)))
noncomputable def xi0b.t {γ : Type} (ret : (Bool) → Option γ) (v0 : List (Int × Int × Int)) (v1 : Int) : Option γ :=
 (xs00 (v0) (v1)).bind fun (r0 : Bool) =>
 ret (!r0)
theorem xi0b.k (v0 : List (Int × Int × Int)) (v1 : Int) : topL E (callT E tab) 61 Try.f61 (xi0b.c v0 v1) = xi0b.t (fun b => some (xi0b.mk b)) v0 v1 := by kernel_rfl
theorem xi0b.eq (v0 : List (Int × Int × Int)) (v1 : Int) {b : Bool} (h : xi0b.t some v0 v1 = some b) : xi0b v0 v1 = some b := tOf_intro xi0b.un (fun _ => by kernel_rfl) (vlim_fn (callT_le E tab) rfl rfl rfl ((xi0b.k v0 v1).trans ((by unfold xi0b.t; repeat' first | exact Sub.ret | exact Sub.none | exact Sub.loop | apply Sub.cond | (apply Sub.bind; intro _) : Sub xi0b.mk _ _) b h)))
noncomputable def xs00.t {γ : Type} (ret : (Bool) → Option γ) (v0 : List (Int × Int × Int)) (v1 : Int) : Option γ :=
 (xs01 (v0) (v1)).bind fun (r0 : Int) =>
 ret (decide (r0 ≥ (0 : Int)))
theorem xs00.k (v0 : List (Int × Int × Int)) (v1 : Int) : topL E (callT E tab) 70 Try.f70 (xs00.c v0 v1) = xs00.t (fun b => some (xs00.mk b)) v0 v1 := by kernel_rfl
theorem xs00.eq (v0 : List (Int × Int × Int)) (v1 : Int) {b : Bool} (h : xs00.t some v0 v1 = some b) : xs00 v0 v1 = some b := tOf_intro xs00.un (fun _ => by kernel_rfl) (vlim_fn (callT_le E tab) rfl rfl rfl ((xs00.k v0 v1).trans ((by unfold xs00.t; repeat' first | exact Sub.ret | exact Sub.none | exact Sub.loop | apply Sub.cond | (apply Sub.bind; intro _) : Sub xs00.mk _ _) b h)))
noncomputable def xs01.q2 (v0 : List (Int × Int × Int)) (v1 : Int) (v2 : Int) (v3 : Int) : Option R := loopAtL E (callT E tab) 75 Try.f75 2 [.r, .l, .r, .b] (vc (.d .fro (.sl (.pair (.int .i64) (.pair (.int .i64) (.int .i64)))) v0) :: vc (.fn 71 [.rp [.fn 62 [.rp [iL v1] 0]] 0]) :: nn 5 (vc (iL v2) :: vc (iL v3) :: nn 10 ([])))
noncomputable def xs01.l2 (v0 : List (Int × Int × Int)) (v1 : Int) (v2 : Int) (v3 : Int) : Option (Int) := tOf xs01.mk (xs01.q2 v0 v1 v2 v3)
noncomputable def xs01.t {γ : Type} (ret : (Int) → Option γ) (lp2 : (List (Int × Int × Int)) → Int → Int → Int → Option γ) (v0 : List (Int × Int × Int)) (v1 : Int) : Option γ :=
 lp2 (v0) (v1) ((↑v0.length : Int)) ((0 : Int))
noncomputable def xs01.t2 {γ : Type} (ret : (Int) → Option γ) (lp2 : (List (Int × Int × Int)) → Int → Int → Int → Option γ) (v0 : List (Int × Int × Int)) (v1 : Int) (v2 : Int) (v3 : Int) : Option γ :=
 bif decide (v3 < v2) then
  bif decide ((0 : Int) ≤ v3) then
   bif decide (v3.toNat < v0.length) then
    (xi09 ((v0.getD v3.toNat ((0 : Int), (0 : Int), (0 : Int))).fst) ((v0.getD v3.toNat ((0 : Int), (0 : Int), (0 : Int))).snd.fst) ((v0.getD v3.toNat ((0 : Int), (0 : Int), (0 : Int))).snd.snd) (v1)).bind fun (r0 : Bool) =>
    bif r0 then
     ret (v3)
    else
     lp2 (v0) (v1) (v2) (IntKind.i64.wrap (v3 + (1 : Int)))
   else
    none
  else
   none
 else
  ret ((-1 : Int))
theorem xs01.k (v0 : List (Int × Int × Int)) (v1 : Int) : topL E (callT E tab) 75 Try.f75 (xs01.c v0 v1) = xs01.t (fun b => some (xs01.mk b)) xs01.q2 v0 v1 := by kernel_rfl
theorem xs01.k2 (v0 : List (Int × Int × Int)) (v1 : Int) (v2 : Int) (v3 : Int) : roundL E (callT E tab) 75 Try.f75 2 [.r, .l, .r, .b] (vc (.d .fro (.sl (.pair (.int .i64) (.pair (.int .i64) (.int .i64)))) v0) :: vc (.fn 71 [.rp [.fn 62 [.rp [iL v1] 0]] 0]) :: nn 5 (vc (iL v2) :: vc (iL v3) :: nn 10 ([]))) = xs01.t2 (fun b => some (xs01.mk b)) xs01.q2 v0 v1 v2 v3 := by kernel_rfl
theorem xs01.eq (v0 : List (Int × Int × Int)) (v1 : Int) {b : Int} (h : xs01.t some xs01.l2 v0 v1 = some b) : xs01 v0 v1 = some b := tOf_intro xs01.un (fun _ => by kernel_rfl) (vlim_fn (callT_le E tab) rfl rfl rfl ((xs01.k v0 v1).trans ((by unfold xs01.t; repeat' first | exact Sub.ret | exact Sub.none | exact Sub.loop | apply Sub.cond | (apply Sub.bind; intro _) : Sub xs01.mk _ _) b h)))
theorem xs01.eq2 (v0 : List (Int × Int × Int)) (v1 : Int) (v2 : Int) (v3 : Int) {b : Int} (h : xs01.t2 some xs01.l2 v0 v1 v2 v3 = some b) : xs01.l2 v0 v1 v2 v3 = some b := tOf_intro xs01.un (fun _ => by kernel_rfl) (loopAtL_step ((xs01.k2 v0 v1 v2 v3).trans ((by unfold xs01.t2; repeat' first | exact Sub.ret | exact Sub.none | exact Sub.loop | apply Sub.cond | (apply Sub.bind; intro _) : Sub xs01.mk _ _) b h)))
noncomputable def xi09.t {γ : Type} (ret : (Bool) → Option γ) (v0 : Int) (v1 : Int) (v2 : Int) (v3 : Int) : Option γ :=
 (impl_GoodTests_1 (v0) (v1) (v2) (v3)).bind fun (r0 : Bool) =>
 ret (!r0)
theorem xi09.k (v0 : Int) (v1 : Int) (v2 : Int) (v3 : Int) : topL E (callT E tab) 71 Try.f71 (xi09.c v0 v1 v2 v3) = xi09.t (fun b => some (xi09.mk b)) v0 v1 v2 v3 := by kernel_rfl
theorem xi09.eq (v0 : Int) (v1 : Int) (v2 : Int) (v3 : Int) {b : Bool} (h : xi09.t some v0 v1 v2 v3 = some b) : xi09 v0 v1 v2 v3 = some b := tOf_intro xi09.un (fun _ => by kernel_rfl) (vlim_fn (callT_le E tab) rfl rfl rfl ((xi09.k v0 v1 v2 v3).trans ((by unfold xi09.t; repeat' first | exact Sub.ret | exact Sub.none | exact Sub.loop | apply Sub.cond | (apply Sub.bind; intro _) : Sub xi09.mk _ _) b h)))
noncomputable def impl_GoodTests_1.t {γ : Type} (ret : (Bool) → Option γ) (v0 : Int) (v1 : Int) (v2 : Int) (v3 : Int) : Option γ :=
 (impl_isPlace (v1) (v3)).bind fun (r0 : Bool) =>
 bif !r0 then
  ret (Bool.false)
 else
  bif v0 == (4 : Int) then
   (impl_isPlace (v2) (v3)).bind fun (r1 : Bool) =>
   ret (r1)
  else
   (impl_within (v0) ((1 : Int)) ((3 : Int))).bind fun (r2 : Bool) =>
   bif r2 then
    (impl_isCell (v2)).bind fun (r3 : Bool) =>
    ret (r3)
   else
    ret (Bool.false)
theorem impl_GoodTests_1.k (v0 : Int) (v1 : Int) (v2 : Int) (v3 : Int) : topL E (callT E tab) 62 Try.f62 (impl_GoodTests_1.c v0 v1 v2 v3) = impl_GoodTests_1.t (fun b => some (impl_GoodTests_1.mk b)) v0 v1 v2 v3 := by kernel_rfl
theorem impl_GoodTests_1.eq (v0 : Int) (v1 : Int) (v2 : Int) (v3 : Int) {b : Bool} (h : impl_GoodTests_1.t some v0 v1 v2 v3 = some b) : impl_GoodTests_1 v0 v1 v2 v3 = some b := tOf_intro impl_GoodTests_1.un (fun _ => by kernel_rfl) (vlim_fn (callT_le E tab) rfl rfl rfl ((impl_GoodTests_1.k v0 v1 v2 v3).trans ((by unfold impl_GoodTests_1.t; repeat' first | exact Sub.ret | exact Sub.none | exact Sub.loop | apply Sub.cond | (apply Sub.bind; intro _) : Sub impl_GoodTests_1.mk _ _) b h)))
noncomputable def impl_isPlace.t {γ : Type} (ret : (Bool) → Option γ) (v0 : Int) (v1 : Int) : Option γ :=
 bif decide (v0 ≥ (0 : Int)) then
  ret (decide (v0 < v1))
 else
  ret (Bool.false)
theorem impl_isPlace.k (v0 : Int) (v1 : Int) : topL E (callT E tab) 63 Try.f63 (impl_isPlace.c v0 v1) = impl_isPlace.t (fun b => some (impl_isPlace.mk b)) v0 v1 := by kernel_rfl
theorem impl_isPlace.eq (v0 : Int) (v1 : Int) {b : Bool} (h : impl_isPlace.t some v0 v1 = some b) : impl_isPlace v0 v1 = some b := tOf_intro impl_isPlace.un (fun _ => by kernel_rfl) (vlim_fn (callT_le E tab) rfl rfl rfl ((impl_isPlace.k v0 v1).trans ((by unfold impl_isPlace.t; repeat' first | exact Sub.ret | exact Sub.none | exact Sub.loop | apply Sub.cond | (apply Sub.bind; intro _) : Sub impl_isPlace.mk _ _) b h)))
end GoV

/- Equations of the program's functions (printed by wip/tools/emit.py). -/
namespace GoV
open Go Go.Proofs
set_option maxRecDepth 100000

noncomputable def impl_isCell.t {γ : Type} (ret : (Bool) → Option γ) (v0 : Int) : Option γ :=
 (impl_within (v0) ((-100000 : Int)) ((100000 : Int))).bind fun (r0 : Bool) =>
 ret (r0)
theorem impl_isCell.k (v0 : Int) : topL E (callT E tab) 64 Try.f64 (impl_isCell.c v0) = impl_isCell.t (fun b => some (impl_isCell.mk b)) v0 := by kernel_rfl
theorem impl_isCell.eq (v0 : Int) {b : Bool} (h : impl_isCell.t some v0 = some b) : impl_isCell v0 = some b := tOf_intro impl_isCell.un (fun _ => by kernel_rfl) (vlim_fn (callT_le E tab) rfl rfl rfl ((impl_isCell.k v0).trans ((by unfold impl_isCell.t; repeat' first | exact Sub.ret | exact Sub.none | exact Sub.loop | apply Sub.cond | (apply Sub.bind; intro _) : Sub impl_isCell.mk _ _) b h)))
noncomputable def impl_areColumns.t {γ : Type} (ret : (Bool) → Option γ) (v0 : List Int) (v1 : Int) : Option γ :=
 bif decide ((↑v0.length : Int) ≤ (6 : Int)) then
  (xi0e (v0) (v1)).bind fun (r0 : Bool) =>
  ret (r0)
 else
  ret (Bool.false)
theorem impl_areColumns.k (v0 : List Int) (v1 : Int) : topL E (callT E tab) 54 Try.f54 (impl_areColumns.c v0 v1) = impl_areColumns.t (fun b => some (impl_areColumns.mk b)) v0 v1 := by kernel_rfl
theorem impl_areColumns.eq (v0 : List Int) (v1 : Int) {b : Bool} (h : impl_areColumns.t some v0 v1 = some b) : impl_areColumns v0 v1 = some b := tOf_intro impl_areColumns.un (fun _ => by kernel_rfl) (vlim_fn (callT_le E tab) rfl rfl rfl ((impl_areColumns.k v0 v1).trans ((by unfold impl_areColumns.t; repeat' first | exact Sub.ret | exact Sub.none | exact Sub.loop | apply Sub.cond | (apply Sub.bind; intro _) : Sub impl_areColumns.mk _ _) b h)))
noncomputable def xi0e.t {γ : Type} (ret : (Bool) → Option γ) (v0 : List Int) (v1 : Int) : Option γ :=
 (xs02 (v0) (v1)).bind fun (r0 : Bool) =>
 ret (!r0)
theorem xi0e.k (v0 : List Int) (v1 : Int) : topL E (callT E tab) 32 Try.f32 (xi0e.c v0 v1) = xi0e.t (fun b => some (xi0e.mk b)) v0 v1 := by kernel_rfl
theorem xi0e.eq (v0 : List Int) (v1 : Int) {b : Bool} (h : xi0e.t some v0 v1 = some b) : xi0e v0 v1 = some b := tOf_intro xi0e.un (fun _ => by kernel_rfl) (vlim_fn (callT_le E tab) rfl rfl rfl ((xi0e.k v0 v1).trans ((by unfold xi0e.t; repeat' first | exact Sub.ret | exact Sub.none | exact Sub.loop | apply Sub.cond | (apply Sub.bind; intro _) : Sub xi0e.mk _ _) b h)))
noncomputable def xs02.t {γ : Type} (ret : (Bool) → Option γ) (v0 : List Int) (v1 : Int) : Option γ :=
 (xs05 (v0) (v1)).bind fun (r0 : Int) =>
 ret (decide (r0 ≥ (0 : Int)))
theorem xs02.k (v0 : List Int) (v1 : Int) : topL E (callT E tab) 51 Try.f51 (xs02.c v0 v1) = xs02.t (fun b => some (xs02.mk b)) v0 v1 := by kernel_rfl
theorem xs02.eq (v0 : List Int) (v1 : Int) {b : Bool} (h : xs02.t some v0 v1 = some b) : xs02 v0 v1 = some b := tOf_intro xs02.un (fun _ => by kernel_rfl) (vlim_fn (callT_le E tab) rfl rfl rfl ((xs02.k v0 v1).trans ((by unfold xs02.t; repeat' first | exact Sub.ret | exact Sub.none | exact Sub.loop | apply Sub.cond | (apply Sub.bind; intro _) : Sub xs02.mk _ _) b h)))
noncomputable def xs05.q2 (v0 : List Int) (v1 : Int) (v2 : Int) (v3 : Int) : Option R := loopAtL E (callT E tab) 60 Try.f60 2 [.r, .l, .r, .b] (vc (.d .fro (.sl (.int .i64)) v0) :: vc (.fn 52 [.rp [.fn 65 [.rp [iL v1] 0]] 0]) :: nn 5 (vc (iL v2) :: vc (iL v3) :: nn 10 ([])))
noncomputable def xs05.l2 (v0 : List Int) (v1 : Int) (v2 : Int) (v3 : Int) : Option (Int) := tOf xs05.mk (xs05.q2 v0 v1 v2 v3)
noncomputable def xs05.t {γ : Type} (ret : (Int) → Option γ) (lp2 : (List Int) → Int → Int → Int → Option γ) (v0 : List Int) (v1 : Int) : Option γ :=
 lp2 (v0) (v1) ((↑v0.length : Int)) ((0 : Int))
noncomputable def xs05.t2 {γ : Type} (ret : (Int) → Option γ) (lp2 : (List Int) → Int → Int → Int → Option γ) (v0 : List Int) (v1 : Int) (v2 : Int) (v3 : Int) : Option γ :=
 bif decide (v3 < v2) then
  bif decide ((0 : Int) ≤ v3) then
   bif decide (v3.toNat < v0.length) then
    (xi0c (v0.getD v3.toNat (0 : Int)) (v1)).bind fun (r0 : Bool) =>
    bif r0 then
     ret (v3)
    else
     lp2 (v0) (v1) (v2) (IntKind.i64.wrap (v3 + (1 : Int)))
   else
    none
  else
   none
 else
  ret ((-1 : Int))
theorem xs05.k (v0 : List Int) (v1 : Int) : topL E (callT E tab) 60 Try.f60 (xs05.c v0 v1) = xs05.t (fun b => some (xs05.mk b)) xs05.q2 v0 v1 := by kernel_rfl
theorem xs05.k2 (v0 : List Int) (v1 : Int) (v2 : Int) (v3 : Int) : roundL E (callT E tab) 60 Try.f60 2 [.r, .l, .r, .b] (vc (.d .fro (.sl (.int .i64)) v0) :: vc (.fn 52 [.rp [.fn 65 [.rp [iL v1] 0]] 0]) :: nn 5 (vc (iL v2) :: vc (iL v3) :: nn 10 ([]))) = xs05.t2 (fun b => some (xs05.mk b)) xs05.q2 v0 v1 v2 v3 := by kernel_rfl
theorem xs05.eq (v0 : List Int) (v1 : Int) {b : Int} (h : xs05.t some xs05.l2 v0 v1 = some b) : xs05 v0 v1 = some b := tOf_intro xs05.un (fun _ => by kernel_rfl) (vlim_fn (callT_le E tab) rfl rfl rfl ((xs05.k v0 v1).trans ((by unfold xs05.t; repeat' first | exact Sub.ret | exact Sub.none | exact Sub.loop | apply Sub.cond | (apply Sub.bind; intro _) : Sub xs05.mk _ _) b h)))
theorem xs05.eq2 (v0 : List Int) (v1 : Int) (v2 : Int) (v3 : Int) {b : Int} (h : xs05.t2 some xs05.l2 v0 v1 v2 v3 = some b) : xs05.l2 v0 v1 v2 v3 = some b := tOf_intro xs05.un (fun _ => by kernel_rfl) (loopAtL_step ((xs05.k2 v0 v1 v2 v3).trans ((by unfold xs05.t2; repeat' first | exact Sub.ret | exact Sub.none | exact Sub.loop | apply Sub.cond | (apply Sub.bind; intro _) : Sub xs05.mk _ _) b h)))
noncomputable def xi0c.t {γ : Type} (ret : (Bool) → Option γ) (v0 : Int) (v1 : Int) : Option γ :=
 (impl_areColumns_1 (v0) (v1)).bind fun (r0 : Bool) =>
 ret (!r0)
theorem xi0c.k (v0 : Int) (v1 : Int) : topL E (callT E tab) 52 Try.f52 (xi0c.c v0 v1) = xi0c.t (fun b => some (xi0c.mk b)) v0 v1 := by kernel_rfl
theorem xi0c.eq (v0 : Int) (v1 : Int) {b : Bool} (h : xi0c.t some v0 v1 = some b) : xi0c v0 v1 = some b := tOf_intro xi0c.un (fun _ => by kernel_rfl) (vlim_fn (callT_le E tab) rfl rfl rfl ((xi0c.k v0 v1).trans ((by unfold xi0c.t; repeat' first | exact Sub.ret | exact Sub.none | exact Sub.loop | apply Sub.cond | (apply Sub.bind; intro _) : Sub xi0c.mk _ _) b h)))
noncomputable def impl_areColumns_1.t {γ : Type} (ret : (Bool) → Option γ) (v0 : Int) (v1 : Int) : Option γ :=
 (impl_isPlace (v0) (v1)).bind fun (r0 : Bool) =>
 ret (r0)
theorem impl_areColumns_1.k (v0 : Int) (v1 : Int) : topL E (callT E tab) 65 Try.f65 (impl_areColumns_1.c v0 v1) = impl_areColumns_1.t (fun b => some (impl_areColumns_1.mk b)) v0 v1 := by kernel_rfl
theorem impl_areColumns_1.eq (v0 : Int) (v1 : Int) {b : Bool} (h : impl_areColumns_1.t some v0 v1 = some b) : impl_areColumns_1 v0 v1 = some b := tOf_intro impl_areColumns_1.un (fun _ => by kernel_rfl) (vlim_fn (callT_le E tab) rfl rfl rfl ((impl_areColumns_1.k v0 v1).trans ((by unfold impl_areColumns_1.t; repeat' first | exact Sub.ret | exact Sub.none | exact Sub.loop | apply Sub.cond | (apply Sub.bind; intro _) : Sub impl_areColumns_1.mk _ _) b h)))
noncomputable def impl_arePairs.t {γ : Type} (ret : (Bool) → Option γ) (v0 : List (List Int)) (v1 : Int) (v2 : Int) : Option γ :=
 bif decide ((↑v0.length : Int) ≤ (6 : Int)) then
  (xi0h (v0) (v1) (v2)).bind fun (r0 : Bool) =>
  ret (r0)
 else
  ret (Bool.false)
theorem impl_arePairs.k (v0 : List (List Int)) (v1 : Int) (v2 : Int) : topL E (callT E tab) 55 Try.f55 (impl_arePairs.c v0 v1 v2) = impl_arePairs.t (fun b => some (impl_arePairs.mk b)) v0 v1 v2 := by kernel_rfl
theorem impl_arePairs.eq (v0 : List (List Int)) (v1 : Int) (v2 : Int) {b : Bool} (h : impl_arePairs.t some v0 v1 v2 = some b) : impl_arePairs v0 v1 v2 = some b := tOf_intro impl_arePairs.un (fun _ => by kernel_rfl) (vlim_fn (callT_le E tab) rfl rfl rfl ((impl_arePairs.k v0 v1 v2).trans ((by unfold impl_arePairs.t; repeat' first | exact Sub.ret | exact Sub.none | exact Sub.loop | apply Sub.cond | (apply Sub.bind; intro _) : Sub impl_arePairs.mk _ _) b h)))
noncomputable def xi0h.t {γ : Type} (ret : (Bool) → Option γ) (v0 : List (List Int)) (v1 : Int) (v2 : Int) : Option γ :=
 (xs03 (v0) (v1) (v2)).bind fun (r0 : Bool) =>
 ret (!r0)
theorem xi0h.k (v0 : List (List Int)) (v1 : Int) (v2 : Int) : topL E (callT E tab) 66 Try.f66 (xi0h.c v0 v1 v2) = xi0h.t (fun b => some (xi0h.mk b)) v0 v1 v2 := by kernel_rfl
theorem xi0h.eq (v0 : List (List Int)) (v1 : Int) (v2 : Int) {b : Bool} (h : xi0h.t some v0 v1 v2 = some b) : xi0h v0 v1 v2 = some b := tOf_intro xi0h.un (fun _ => by kernel_rfl) (vlim_fn (callT_le E tab) rfl rfl rfl ((xi0h.k v0 v1 v2).trans ((by unfold xi0h.t; repeat' first | exact Sub.ret | exact Sub.none | exact Sub.loop | apply Sub.cond | (apply Sub.bind; intro _) : Sub xi0h.mk _ _) b h)))
noncomputable def xs03.t {γ : Type} (ret : (Bool) → Option γ) (v0 : List (List Int)) (v1 : Int) (v2 : Int) : Option γ :=
 (xs06 (v0) (v1) (v2)).bind fun (r0 : Int) =>
 ret (decide (r0 ≥ (0 : Int)))
theorem xs03.k (v0 : List (List Int)) (v1 : Int) (v2 : Int) : topL E (callT E tab) 72 Try.f72 (xs03.c v0 v1 v2) = xs03.t (fun b => some (xs03.mk b)) v0 v1 v2 := by kernel_rfl
theorem xs03.eq (v0 : List (List Int)) (v1 : Int) (v2 : Int) {b : Bool} (h : xs03.t some v0 v1 v2 = some b) : xs03 v0 v1 v2 = some b := tOf_intro xs03.un (fun _ => by kernel_rfl) (vlim_fn (callT_le E tab) rfl rfl rfl ((xs03.k v0 v1 v2).trans ((by unfold xs03.t; repeat' first | exact Sub.ret | exact Sub.none | exact Sub.loop | apply Sub.cond | (apply Sub.bind; intro _) : Sub xs03.mk _ _) b h)))
noncomputable def xs06.q2 (v0 : List (List Int)) (v1 : Int) (v2 : Int) (v3 : Int) (v4 : Int) : Option R := loopAtL E (callT E tab) 76 Try.f76 2 [.r, .l, .r, .b] (vc (.d .fro (.sl (.sl (.int .i64))) v0) :: vc (.fn 73 [.rp [.fn 67 [.rp [iL v1] 0, .rp [iL v2] 0]] 0]) :: nn 5 (vc (iL v3) :: vc (iL v4) :: nn 10 ([])))
noncomputable def xs06.l2 (v0 : List (List Int)) (v1 : Int) (v2 : Int) (v3 : Int) (v4 : Int) : Option (Int) := tOf xs06.mk (xs06.q2 v0 v1 v2 v3 v4)
noncomputable def xs06.t {γ : Type} (ret : (Int) → Option γ) (lp2 : (List (List Int)) → Int → Int → Int → Int → Option γ) (v0 : List (List Int)) (v1 : Int) (v2 : Int) : Option γ :=
 lp2 (v0) (v1) (v2) ((↑v0.length : Int)) ((0 : Int))
noncomputable def xs06.t2 {γ : Type} (ret : (Int) → Option γ) (lp2 : (List (List Int)) → Int → Int → Int → Int → Option γ) (v0 : List (List Int)) (v1 : Int) (v2 : Int) (v3 : Int) (v4 : Int) : Option γ :=
 bif decide (v4 < v3) then
  bif decide ((0 : Int) ≤ v4) then
   bif decide (v4.toNat < v0.length) then
    (xi0d (v0.getD v4.toNat []) (v1) (v2)).bind fun (r0 : Bool) =>
    bif r0 then
     ret (v4)
    else
     lp2 (v0) (v1) (v2) (v3) (IntKind.i64.wrap (v4 + (1 : Int)))
   else
    none
  else
   none
 else
  ret ((-1 : Int))
theorem xs06.k (v0 : List (List Int)) (v1 : Int) (v2 : Int) : topL E (callT E tab) 76 Try.f76 (xs06.c v0 v1 v2) = xs06.t (fun b => some (xs06.mk b)) xs06.q2 v0 v1 v2 := by kernel_rfl
theorem xs06.k2 (v0 : List (List Int)) (v1 : Int) (v2 : Int) (v3 : Int) (v4 : Int) : roundL E (callT E tab) 76 Try.f76 2 [.r, .l, .r, .b] (vc (.d .fro (.sl (.sl (.int .i64))) v0) :: vc (.fn 73 [.rp [.fn 67 [.rp [iL v1] 0, .rp [iL v2] 0]] 0]) :: nn 5 (vc (iL v3) :: vc (iL v4) :: nn 10 ([]))) = xs06.t2 (fun b => some (xs06.mk b)) xs06.q2 v0 v1 v2 v3 v4 := by kernel_rfl
theorem xs06.eq (v0 : List (List Int)) (v1 : Int) (v2 : Int) {b : Int} (h : xs06.t some xs06.l2 v0 v1 v2 = some b) : xs06 v0 v1 v2 = some b := tOf_intro xs06.un (fun _ => by kernel_rfl) (vlim_fn (callT_le E tab) rfl rfl rfl ((xs06.k v0 v1 v2).trans ((by unfold xs06.t; repeat' first | exact Sub.ret | exact Sub.none | exact Sub.loop | apply Sub.cond | (apply Sub.bind; intro _) : Sub xs06.mk _ _) b h)))
theorem xs06.eq2 (v0 : List (List Int)) (v1 : Int) (v2 : Int) (v3 : Int) (v4 : Int) {b : Int} (h : xs06.t2 some xs06.l2 v0 v1 v2 v3 v4 = some b) : xs06.l2 v0 v1 v2 v3 v4 = some b := tOf_intro xs06.un (fun _ => by kernel_rfl) (loopAtL_step ((xs06.k2 v0 v1 v2 v3 v4).trans ((by unfold xs06.t2; repeat' first | exact Sub.ret | exact Sub.none | exact Sub.loop | apply Sub.cond | (apply Sub.bind; intro _) : Sub xs06.mk _ _) b h)))
noncomputable def xi0d.t {γ : Type} (ret : (Bool) → Option γ) (v0 : List Int) (v1 : Int) (v2 : Int) : Option γ :=
 (impl_arePairs_1 (v0) (v1) (v2)).bind fun (r0 : Bool) =>
 ret (!r0)
theorem xi0d.k (v0 : List Int) (v1 : Int) (v2 : Int) : topL E (callT E tab) 73 Try.f73 (xi0d.c v0 v1 v2) = xi0d.t (fun b => some (xi0d.mk b)) v0 v1 v2 := by kernel_rfl
theorem xi0d.eq (v0 : List Int) (v1 : Int) (v2 : Int) {b : Bool} (h : xi0d.t some v0 v1 v2 = some b) : xi0d v0 v1 v2 = some b := tOf_intro xi0d.un (fun _ => by kernel_rfl) (vlim_fn (callT_le E tab) rfl rfl rfl ((xi0d.k v0 v1 v2).trans ((by unfold xi0d.t; repeat' first | exact Sub.ret | exact Sub.none | exact Sub.loop | apply Sub.cond | (apply Sub.bind; intro _) : Sub xi0d.mk _ _) b h)))
noncomputable def impl_arePairs_1.t {γ : Type} (ret : (Bool) → Option γ) (v0 : List Int) (v1 : Int) (v2 : Int) : Option γ :=
 bif (↑v0.length : Int) == (2 : Int) then
  bif decide (Int.toNat (0 : Int) < v0.length) then
   (impl_isPlace (v0.getD (Int.toNat (0 : Int)) (0 : Int)) (v1)).bind fun (r0 : Bool) =>
   bif r0 then
    bif decide (Int.toNat (1 : Int) < v0.length) then
     (impl_isPlace (v0.getD (Int.toNat (1 : Int)) (0 : Int)) (v2)).bind fun (r1 : Bool) =>
     ret (r1)
    else
     none
   else
    ret (Bool.false)
  else
   none
 else
  ret (Bool.false)
theorem impl_arePairs_1.k (v0 : List Int) (v1 : Int) (v2 : Int) : topL E (callT E tab) 67 Try.f67 (impl_arePairs_1.c v0 v1 v2) = impl_arePairs_1.t (fun b => some (impl_arePairs_1.mk b)) v0 v1 v2 := by kernel_rfl
theorem impl_arePairs_1.eq (v0 : List Int) (v1 : Int) (v2 : Int) {b : Bool} (h : impl_arePairs_1.t some v0 v1 v2 = some b) : impl_arePairs_1 v0 v1 v2 = some b := tOf_intro impl_arePairs_1.un (fun _ => by kernel_rfl) (vlim_fn (callT_le E tab) rfl rfl rfl ((impl_arePairs_1.k v0 v1 v2).trans ((by unfold impl_arePairs_1.t; repeat' first | exact Sub.ret | exact Sub.none | exact Sub.loop | apply Sub.cond | (apply Sub.bind; intro _) : Sub impl_arePairs_1.mk _ _) b h)))
noncomputable def impl_joinedColumns.t {γ : Type} (ret : (Int) → Option γ) (v0 : Int) (v1 : Int) (v2 : List (List Int)) : Option γ :=
 (impl_unpaired (v1) (v2)).bind fun (r0 : (List Int)) =>
 ret (IntKind.i64.wrap (v0 + (↑r0.length : Int)))
theorem impl_joinedColumns.k (v0 : Int) (v1 : Int) (v2 : List (List Int)) : topL E (callT E tab) 56 Try.f56 (impl_joinedColumns.c v0 v1 v2) = impl_joinedColumns.t (fun b => some (impl_joinedColumns.mk b)) v0 v1 v2 := by kernel_rfl
theorem impl_joinedColumns.eq (v0 : Int) (v1 : Int) (v2 : List (List Int)) {b : Int} (h : impl_joinedColumns.t some v0 v1 v2 = some b) : impl_joinedColumns v0 v1 v2 = some b := tOf_intro impl_joinedColumns.un (fun _ => by kernel_rfl) (vlim_fn (callT_le E tab) rfl rfl rfl ((impl_joinedColumns.k v0 v1 v2).trans ((by unfold impl_joinedColumns.t; repeat' first | exact Sub.ret | exact Sub.none | exact Sub.loop | apply Sub.cond | (apply Sub.bind; intro _) : Sub impl_joinedColumns.mk _ _) b h)))
noncomputable def impl_unpaired.q3 (v0 : List (List Int)) (v1 : List Int) (v2 : Int) (v3 : Int) : Option R := loopAtL E (callT E tab) 68 Try.f68 2 [.r, .r, .l, .r, .b] (nn 1 (vc (.d .fro (.sl (.sl (.int .i64))) v0) :: nn 3 (vc (.d .deep (.sl (.int .i64)) v1) :: nn 1 (vc (iL v2) :: vc (iL v3) :: nn 12 ([])))))
noncomputable def impl_unpaired.l3 (v0 : List (List Int)) (v1 : List Int) (v2 : Int) (v3 : Int) : Option ((List Int)) := tOf impl_unpaired.mk (impl_unpaired.q3 v0 v1 v2 v3)
noncomputable def impl_unpaired.t {γ : Type} (ret : ((List Int)) → Option γ) (lp3 : (List (List Int)) → (List Int) → Int → Int → Option γ) (v0 : Int) (v1 : List (List Int)) : Option γ :=
 lp3 (v1) ([]) (v0) ((0 : Int))
noncomputable def impl_unpaired.t3 {γ : Type} (ret : ((List Int)) → Option γ) (lp3 : (List (List Int)) → (List Int) → Int → Int → Option γ) (v0 : List (List Int)) (v1 : List Int) (v2 : Int) (v3 : Int) : Option γ :=
 bif decide (v3 < v2) then
  (xs08 (v0) (v3)).bind fun (r0 : Bool) =>
  bif !r0 then
   bif decide (v1.length + [v3].length ≤ (4294967296 : Nat)) then
    lp3 (v0) (v1 ++ [v3]) (v2) (IntKind.i64.wrap (v3 + (1 : Int)))
   else
    none
  else
   lp3 (v0) (v1) (v2) (IntKind.i64.wrap (v3 + (1 : Int)))
 else
  ret (v1)
theorem impl_unpaired.k (v0 : Int) (v1 : List (List Int)) : topL E (callT E tab) 68 Try.f68 (impl_unpaired.c v0 v1) = impl_unpaired.t (fun b => some (impl_unpaired.mk b)) impl_unpaired.q3 v0 v1 := by kernel_rfl
theorem impl_unpaired.k3 (v0 : List (List Int)) (v1 : List Int) (v2 : Int) (v3 : Int) : roundL E (callT E tab) 68 Try.f68 2 [.r, .r, .l, .r, .b] (nn 1 (vc (.d .fro (.sl (.sl (.int .i64))) v0) :: nn 3 (vc (.d .deep (.sl (.int .i64)) v1) :: nn 1 (vc (iL v2) :: vc (iL v3) :: nn 12 ([]))))) = impl_unpaired.t3 (fun b => some (impl_unpaired.mk b)) impl_unpaired.q3 v0 v1 v2 v3 := by kernel_rfl
theorem impl_unpaired.eq (v0 : Int) (v1 : List (List Int)) {b : (List Int)} (h : impl_unpaired.t some impl_unpaired.l3 v0 v1 = some b) : impl_unpaired v0 v1 = some b := tOf_intro impl_unpaired.un (fun _ => by kernel_rfl) (vlim_fn (callT_le E tab) rfl rfl rfl ((impl_unpaired.k v0 v1).trans ((by unfold impl_unpaired.t; repeat' first | exact Sub.ret | exact Sub.none | exact Sub.loop | apply Sub.cond | (apply Sub.bind; intro _) : Sub impl_unpaired.mk _ _) b h)))
theorem impl_unpaired.eq3 (v0 : List (List Int)) (v1 : List Int) (v2 : Int) (v3 : Int) {b : (List Int)} (h : impl_unpaired.t3 some impl_unpaired.l3 v0 v1 v2 v3 = some b) : impl_unpaired.l3 v0 v1 v2 v3 = some b := tOf_intro impl_unpaired.un (fun _ => by kernel_rfl) (loopAtL_step ((impl_unpaired.k3 v0 v1 v2 v3).trans ((by unfold impl_unpaired.t3; repeat' first | exact Sub.ret | exact Sub.none | exact Sub.loop | apply Sub.cond | (apply Sub.bind; intro _) : Sub impl_unpaired.mk _ _) b h)))
noncomputable def xs08.t {γ : Type} (ret : (Bool) → Option γ) (v0 : List (List Int)) (v1 : Int) : Option γ :=
 (xs0a (v0) (v1)).bind fun (r0 : Int) =>
 ret (decide (r0 ≥ (0 : Int)))
theorem xs08.k (v0 : List (List Int)) (v1 : Int) : topL E (callT E tab) 72 Try.f72 (xs08.c v0 v1) = xs08.t (fun b => some (xs08.mk b)) v0 v1 := by kernel_rfl
theorem xs08.eq (v0 : List (List Int)) (v1 : Int) {b : Bool} (h : xs08.t some v0 v1 = some b) : xs08 v0 v1 = some b := tOf_intro xs08.un (fun _ => by kernel_rfl) (vlim_fn (callT_le E tab) rfl rfl rfl ((xs08.k v0 v1).trans ((by unfold xs08.t; repeat' first | exact Sub.ret | exact Sub.none | exact Sub.loop | apply Sub.cond | (apply Sub.bind; intro _) : Sub xs08.mk _ _) b h)))
noncomputable def xs0a.q2 (v0 : List (List Int)) (v1 : Int) (v2 : Int) (v3 : Int) : Option R := loopAtL E (callT E tab) 76 Try.f76 2 [.r, .l, .r, .b] (vc (.d .fro (.sl (.sl (.int .i64))) v0) :: vc (.fn 74 [.rp [iL v1] 0]) :: nn 5 (vc (iL v2) :: vc (iL v3) :: nn 10 ([])))
noncomputable def xs0a.l2 (v0 : List (List Int)) (v1 : Int) (v2 : Int) (v3 : Int) : Option (Int) := tOf xs0a.mk (xs0a.q2 v0 v1 v2 v3)
noncomputable def xs0a.t {γ : Type} (ret : (Int) → Option γ) (lp2 : (List (List Int)) → Int → Int → Int → Option γ) (v0 : List (List Int)) (v1 : Int) : Option γ :=
 lp2 (v0) (v1) ((↑v0.length : Int)) ((0 : Int))
noncomputable def xs0a.t2 {γ : Type} (ret : (Int) → Option γ) (lp2 : (List (List Int)) → Int → Int → Int → Option γ) (v0 : List (List Int)) (v1 : Int) (v2 : Int) (v3 : Int) : Option γ :=
 bif decide (v3 < v2) then
  bif decide ((0 : Int) ≤ v3) then
   bif decide (v3.toNat < v0.length) then
    (impl_unpaired_1 (v0.getD v3.toNat []) (v1)).bind fun (r0 : Bool) =>
    bif r0 then
     ret (v3)
    else
     lp2 (v0) (v1) (v2) (IntKind.i64.wrap (v3 + (1 : Int)))
   else
    none
  else
   none
 else
  ret ((-1 : Int))
theorem xs0a.k (v0 : List (List Int)) (v1 : Int) : topL E (callT E tab) 76 Try.f76 (xs0a.c v0 v1) = xs0a.t (fun b => some (xs0a.mk b)) xs0a.q2 v0 v1 := by kernel_rfl
theorem xs0a.k2 (v0 : List (List Int)) (v1 : Int) (v2 : Int) (v3 : Int) : roundL E (callT E tab) 76 Try.f76 2 [.r, .l, .r, .b] (vc (.d .fro (.sl (.sl (.int .i64))) v0) :: vc (.fn 74 [.rp [iL v1] 0]) :: nn 5 (vc (iL v2) :: vc (iL v3) :: nn 10 ([]))) = xs0a.t2 (fun b => some (xs0a.mk b)) xs0a.q2 v0 v1 v2 v3 := by kernel_rfl
theorem xs0a.eq (v0 : List (List Int)) (v1 : Int) {b : Int} (h : xs0a.t some xs0a.l2 v0 v1 = some b) : xs0a v0 v1 = some b := tOf_intro xs0a.un (fun _ => by kernel_rfl) (vlim_fn (callT_le E tab) rfl rfl rfl ((xs0a.k v0 v1).trans ((by unfold xs0a.t; repeat' first | exact Sub.ret | exact Sub.none | exact Sub.loop | apply Sub.cond | (apply Sub.bind; intro _) : Sub xs0a.mk _ _) b h)))
theorem xs0a.eq2 (v0 : List (List Int)) (v1 : Int) (v2 : Int) (v3 : Int) {b : Int} (h : xs0a.t2 some xs0a.l2 v0 v1 v2 v3 = some b) : xs0a.l2 v0 v1 v2 v3 = some b := tOf_intro xs0a.un (fun _ => by kernel_rfl) (loopAtL_step ((xs0a.k2 v0 v1 v2 v3).trans ((by unfold xs0a.t2; repeat' first | exact Sub.ret | exact Sub.none | exact Sub.loop | apply Sub.cond | (apply Sub.bind; intro _) : Sub xs0a.mk _ _) b h)))
noncomputable def impl_unpaired_1.t {γ : Type} (ret : (Bool) → Option γ) (v0 : List Int) (v1 : Int) : Option γ :=
 bif decide (Int.toNat (1 : Int) < v0.length) then
  ret (v0.getD (Int.toNat (1 : Int)) (0 : Int) == v1)
 else
  none
theorem impl_unpaired_1.k (v0 : List Int) (v1 : Int) : topL E (callT E tab) 74 Try.f74 (impl_unpaired_1.c v0 v1) = impl_unpaired_1.t (fun b => some (impl_unpaired_1.mk b)) v0 v1 := by kernel_rfl
theorem impl_unpaired_1.eq (v0 : List Int) (v1 : Int) {b : Bool} (h : impl_unpaired_1.t some v0 v1 = some b) : impl_unpaired_1 v0 v1 = some b := tOf_intro impl_unpaired_1.un (fun _ => by kernel_rfl) (vlim_fn (callT_le E tab) rfl rfl rfl ((impl_unpaired_1.k v0 v1).trans ((by unfold impl_unpaired_1.t; repeat' first | exact Sub.ret | exact Sub.none | exact Sub.loop | apply Sub.cond | (apply Sub.bind; intro _) : Sub impl_unpaired_1.mk _ _) b h)))
noncomputable def impl_Part_uses.t {γ : Type} (ret : (Bool) → Option γ) (v0 : Int) (v1 : Int) (v2 : Int) (v3 : List (Int × Int × Int)) (v4 : List Int) (v5 : List (List Int)) : Option γ :=
 bif v0 == (4 : Int) then
  bif v0 == (2 : Int) then
   bif v0 == (3 : Int) then
    bif v0 == (4 : Int) then
     ret (Bool.true)
    else
     ret ((↑v5.length : Int) == (0 : Int))
   else
    bif (↑v4.length : Int) == (0 : Int) then
     bif v0 == (4 : Int) then
      ret (Bool.true)
     else
      ret ((↑v5.length : Int) == (0 : Int))
    else
     ret (Bool.false)
  else
   bif (↑v3.length : Int) == (0 : Int) then
    bif v0 == (3 : Int) then
     bif v0 == (4 : Int) then
      ret (Bool.true)
     else
      ret ((↑v5.length : Int) == (0 : Int))
    else
     bif (↑v4.length : Int) == (0 : Int) then
      bif v0 == (4 : Int) then
       ret (Bool.true)
      else
       ret ((↑v5.length : Int) == (0 : Int))
     else
      ret (Bool.false)
   else
    ret (Bool.false)
 else
  bif v0 == (5 : Int) then
   bif v0 == (2 : Int) then
    bif v0 == (3 : Int) then
     bif v0 == (4 : Int) then
      ret (Bool.true)
     else
      ret ((↑v5.length : Int) == (0 : Int))
    else
     bif (↑v4.length : Int) == (0 : Int) then
      bif v0 == (4 : Int) then
       ret (Bool.true)
      else
       ret ((↑v5.length : Int) == (0 : Int))
     else
      ret (Bool.false)
   else
    bif (↑v3.length : Int) == (0 : Int) then
     bif v0 == (3 : Int) then
      bif v0 == (4 : Int) then
       ret (Bool.true)
      else
       ret ((↑v5.length : Int) == (0 : Int))
     else
      bif (↑v4.length : Int) == (0 : Int) then
       bif v0 == (4 : Int) then
        ret (Bool.true)
       else
        ret ((↑v5.length : Int) == (0 : Int))
      else
       ret (Bool.false)
    else
     ret (Bool.false)
  else
   bif v0 == (6 : Int) then
    bif v0 == (2 : Int) then
     bif v0 == (3 : Int) then
      bif v0 == (4 : Int) then
       ret (Bool.true)
      else
       ret ((↑v5.length : Int) == (0 : Int))
     else
      bif (↑v4.length : Int) == (0 : Int) then
       bif v0 == (4 : Int) then
        ret (Bool.true)
       else
        ret ((↑v5.length : Int) == (0 : Int))
      else
       ret (Bool.false)
    else
     bif (↑v3.length : Int) == (0 : Int) then
      bif v0 == (3 : Int) then
       bif v0 == (4 : Int) then
        ret (Bool.true)
       else
        ret ((↑v5.length : Int) == (0 : Int))
      else
       bif (↑v4.length : Int) == (0 : Int) then
        bif v0 == (4 : Int) then
         ret (Bool.true)
        else
         ret ((↑v5.length : Int) == (0 : Int))
       else
        ret (Bool.false)
     else
      ret (Bool.false)
   else
    bif v2 == (0 : Int) then
     bif v0 == (2 : Int) then
      bif v0 == (3 : Int) then
       bif v0 == (4 : Int) then
        ret (Bool.true)
       else
        ret ((↑v5.length : Int) == (0 : Int))
      else
       bif (↑v4.length : Int) == (0 : Int) then
        bif v0 == (4 : Int) then
         ret (Bool.true)
        else
         ret ((↑v5.length : Int) == (0 : Int))
       else
        ret (Bool.false)
     else
      bif (↑v3.length : Int) == (0 : Int) then
       bif v0 == (3 : Int) then
        bif v0 == (4 : Int) then
         ret (Bool.true)
        else
         ret ((↑v5.length : Int) == (0 : Int))
       else
        bif (↑v4.length : Int) == (0 : Int) then
         bif v0 == (4 : Int) then
          ret (Bool.true)
         else
          ret ((↑v5.length : Int) == (0 : Int))
        else
         ret (Bool.false)
      else
       ret (Bool.false)
    else
     ret (Bool.false)
theorem impl_Part_uses.k (v0 : Int) (v1 : Int) (v2 : Int) (v3 : List (Int × Int × Int)) (v4 : List Int) (v5 : List (List Int)) : topL E (callT E tab) 35 Try.f35 (impl_Part_uses.c v0 v1 v2 v3 v4 v5) = impl_Part_uses.t (fun b => some (impl_Part_uses.mk b)) v0 v1 v2 v3 v4 v5 := by kernel_rfl
theorem impl_Part_uses.eq (v0 : Int) (v1 : Int) (v2 : Int) (v3 : List (Int × Int × Int)) (v4 : List Int) (v5 : List (List Int)) {b : Bool} (h : impl_Part_uses.t some v0 v1 v2 v3 v4 v5 = some b) : impl_Part_uses v0 v1 v2 v3 v4 v5 = some b := tOf_intro impl_Part_uses.un (fun _ => by kernel_rfl) (vlim_fn (callT_le E tab) rfl rfl rfl ((impl_Part_uses.k v0 v1 v2 v3 v4 v5).trans ((by unfold impl_Part_uses.t; repeat' first | exact Sub.ret | exact Sub.none | exact Sub.loop | apply Sub.cond | (apply Sub.bind; intro _) : Sub impl_Part_uses.mk _ _) b h)))
noncomputable def impl_View_own.q3 (v0 : List Int) (v1 : List (Int × Int × Int × List (Int × Int × Int) × List Int × List (List Int))) (v2 : List Int) (v3 : List (Int × Int × Int × List (Int × Int × Int) × List Int × List (List Int))) (v4 : List (Int × Int × Int × List (Int × Int × Int) × List Int × List (List Int))) (v5 : Int) (v6 : Int) : Option R := loopAtL E (callT E tab) 19 Try.f19 1 [.r, .r, .l, .r, .b] (nn 2 (⟨(.box false), [.d .deep (.sl (.int .i64)) v0, .d .deep (.sl (.pair (.int .i64) (.pair (.int .i64) (.pair (.int .i64) (.pair (.sl (.pair (.int .i64) (.pair (.int .i64) (.int .i64)))) (.pair (.sl (.int .i64)) (.sl (.sl (.int .i64))))))))) v1], false, false, false, 0, 0⟩ :: ⟨(.box false), [.d .deep (.sl (.int .i64)) v2, .d .deep (.sl (.pair (.int .i64) (.pair (.int .i64) (.pair (.int .i64) (.pair (.sl (.pair (.int .i64) (.pair (.int .i64) (.int .i64)))) (.pair (.sl (.int .i64)) (.sl (.sl (.int .i64))))))))) v3], false, false, false, 0, 0⟩ :: nn 7 (vc (.d .fro (.sl (.pair (.int .i64) (.pair (.int .i64) (.pair (.int .i64) (.pair (.sl (.pair (.int .i64) (.pair (.int .i64) (.int .i64)))) (.pair (.sl (.int .i64)) (.sl (.sl (.int .i64))))))))) v4) :: vc (iL v5) :: vc (iL v6) :: nn 12 ([]))))
noncomputable def impl_View_own.l3 (v0 : List Int) (v1 : List (Int × Int × Int × List (Int × Int × Int) × List Int × List (List Int))) (v2 : List Int) (v3 : List (Int × Int × Int × List (Int × Int × Int) × List Int × List (List Int))) (v4 : List (Int × Int × Int × List (Int × Int × Int) × List Int × List (List Int))) (v5 : Int) (v6 : Int) : Option ((List Int) × (List (Int × Int × Int × List (Int × Int × Int) × List Int × List (List Int)))) := tOf impl_View_own.mk (impl_View_own.q3 v0 v1 v2 v3 v4 v5 v6)
noncomputable def impl_View_own.t {γ : Type} (ret : ((List Int) × (List (Int × Int × Int × List (Int × Int × Int) × List Int × List (List Int)))) → Option γ) (lp3 : (List Int) → (List (Int × Int × Int × List (Int × Int × Int) × List Int × List (List Int))) → (List Int) → (List (Int × Int × Int × List (Int × Int × Int) × List Int × List (List Int))) → (List (Int × Int × Int × List (Int × Int × Int) × List Int × List (List Int))) → Int → Int → Option γ) (v0 : List Int) (v1 : List (Int × Int × Int × List (Int × Int × Int) × List Int × List (List Int))) : Option γ :=
 (xs0k (v0)).bind fun (r0 : (List Int)) =>
 lp3 ([]) ([]) (r0) ([]) (v1) ((↑v1.length : Int)) ((0 : Int))
noncomputable def impl_View_own.t3 {γ : Type} (ret : ((List Int) × (List (Int × Int × Int × List (Int × Int × Int) × List Int × List (List Int)))) → Option γ) (lp3 : (List Int) → (List (Int × Int × Int × List (Int × Int × Int) × List Int × List (List Int))) → (List Int) → (List (Int × Int × Int × List (Int × Int × Int) × List Int × List (List Int))) → (List (Int × Int × Int × List (Int × Int × Int) × List Int × List (List Int))) → Int → Int → Option γ) (v0 : List Int) (v1 : List (Int × Int × Int × List (Int × Int × Int) × List Int × List (List Int))) (v2 : List Int) (v3 : List (Int × Int × Int × List (Int × Int × Int) × List Int × List (List Int))) (v4 : List (Int × Int × Int × List (Int × Int × Int) × List Int × List (List Int))) (v5 : Int) (v6 : Int) : Option γ :=
 bif decide (v6 < v5) then
  bif decide ((0 : Int) ≤ v6) then
   bif decide (v6.toNat < v4.length) then
    (impl_Part_own ((v4.getD v6.toNat ((0 : Int), (0 : Int), (0 : Int), [], [], [])).fst) ((v4.getD v6.toNat ((0 : Int), (0 : Int), (0 : Int), [], [], [])).snd.fst) ((v4.getD v6.toNat ((0 : Int), (0 : Int), (0 : Int), [], [], [])).snd.snd.fst) ((v4.getD v6.toNat ((0 : Int), (0 : Int), (0 : Int), [], [], [])).snd.snd.snd.fst) ((v4.getD v6.toNat ((0 : Int), (0 : Int), (0 : Int), [], [], [])).snd.snd.snd.snd.fst) ((v4.getD v6.toNat ((0 : Int), (0 : Int), (0 : Int), [], [], [])).snd.snd.snd.snd.snd)).bind fun (r1 : Int × Int × Int × (List (Int × Int × Int)) × (List Int) × (List (List Int))) =>
    bif decide   (v3.length +       [(r1.fst, r1.snd.fst, r1.snd.snd.fst, r1.snd.snd.snd.fst, r1.snd.snd.snd.snd.fst,             r1.snd.snd.snd.snd.snd)].length ≤     (4294967296 : Nat)) then
     lp3 (v0) (v1) (v2) (v3 ++ [(r1.fst, r1.snd.fst, r1.snd.snd.fst, r1.snd.snd.snd.fst, r1.snd.snd.snd.snd.fst, r1.snd.snd.snd.snd.snd)]) (v4) (v5) (IntKind.i64.wrap (v6 + (1 : Int)))
    else
     none
   else
    none
  else
   none
 else
  ret (v2, v3)
theorem impl_View_own.k (v0 : List Int) (v1 : List (Int × Int × Int × List (Int × Int × Int) × List Int × List (List Int))) : topL E (callT E tab) 19 Try.f19 (impl_View_own.c v0 v1) = impl_View_own.t (fun b => some (impl_View_own.mk b)) impl_View_own.q3 v0 v1 := by kernel_rfl
theorem impl_View_own.k3 (v0 : List Int) (v1 : List (Int × Int × Int × List (Int × Int × Int) × List Int × List (List Int))) (v2 : List Int) (v3 : List (Int × Int × Int × List (Int × Int × Int) × List Int × List (List Int))) (v4 : List (Int × Int × Int × List (Int × Int × Int) × List Int × List (List Int))) (v5 : Int) (v6 : Int) : roundL E (callT E tab) 19 Try.f19 1 [.r, .r, .l, .r, .b] (nn 2 (⟨(.box false), [.d .deep (.sl (.int .i64)) v0, .d .deep (.sl (.pair (.int .i64) (.pair (.int .i64) (.pair (.int .i64) (.pair (.sl (.pair (.int .i64) (.pair (.int .i64) (.int .i64)))) (.pair (.sl (.int .i64)) (.sl (.sl (.int .i64))))))))) v1], false, false, false, 0, 0⟩ :: ⟨(.box false), [.d .deep (.sl (.int .i64)) v2, .d .deep (.sl (.pair (.int .i64) (.pair (.int .i64) (.pair (.int .i64) (.pair (.sl (.pair (.int .i64) (.pair (.int .i64) (.int .i64)))) (.pair (.sl (.int .i64)) (.sl (.sl (.int .i64))))))))) v3], false, false, false, 0, 0⟩ :: nn 7 (vc (.d .fro (.sl (.pair (.int .i64) (.pair (.int .i64) (.pair (.int .i64) (.pair (.sl (.pair (.int .i64) (.pair (.int .i64) (.int .i64)))) (.pair (.sl (.int .i64)) (.sl (.sl (.int .i64))))))))) v4) :: vc (iL v5) :: vc (iL v6) :: nn 12 ([])))) = impl_View_own.t3 (fun b => some (impl_View_own.mk b)) impl_View_own.q3 v0 v1 v2 v3 v4 v5 v6 := by kernel_rfl
theorem impl_View_own.eq (v0 : List Int) (v1 : List (Int × Int × Int × List (Int × Int × Int) × List Int × List (List Int))) {b : (List Int) × (List (Int × Int × Int × List (Int × Int × Int) × List Int × List (List Int)))} (h : impl_View_own.t some impl_View_own.l3 v0 v1 = some b) : impl_View_own v0 v1 = some b := tOf_intro impl_View_own.un (fun _ => by kernel_rfl) (vlim_fn (callT_le E tab) rfl rfl rfl ((impl_View_own.k v0 v1).trans ((by unfold impl_View_own.t; repeat' first | exact Sub.ret | exact Sub.none | exact Sub.loop | apply Sub.cond | (apply Sub.bind; intro _) : Sub impl_View_own.mk _ _) b h)))
theorem impl_View_own.eq3 (v0 : List Int) (v1 : List (Int × Int × Int × List (Int × Int × Int) × List Int × List (List Int))) (v2 : List Int) (v3 : List (Int × Int × Int × List (Int × Int × Int) × List Int × List (List Int))) (v4 : List (Int × Int × Int × List (Int × Int × Int) × List Int × List (List Int))) (v5 : Int) (v6 : Int) {b : (List Int) × (List (Int × Int × Int × List (Int × Int × Int) × List Int × List (List Int)))} (h : impl_View_own.t3 some impl_View_own.l3 v0 v1 v2 v3 v4 v5 v6 = some b) : impl_View_own.l3 v0 v1 v2 v3 v4 v5 v6 = some b := tOf_intro impl_View_own.un (fun _ => by kernel_rfl) (loopAtL_step ((impl_View_own.k3 v0 v1 v2 v3 v4 v5 v6).trans ((by unfold impl_View_own.t3; repeat' first | exact Sub.ret | exact Sub.none | exact Sub.loop | apply Sub.cond | (apply Sub.bind; intro _) : Sub impl_View_own.mk _ _) b h)))
end GoV
