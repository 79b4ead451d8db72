/- A part of the proof of FnExactPopMap: an interpreter of the model over plain data, its soundness, and what it makes of the functions that the statement reaches. Conditions: none beyond what the given statement itself says. -/
import Derived.Test.YtnfegdcbofnjhaaTI
set_option linter.unusedVariables false
set_option linter.unusedSimpArgs false
set_option linter.unnecessarySimpa false
set_option linter.unusedSectionVars false
/- The functions of the program, each told by what it answers in the end (printed by wip/tools/emit.py). -/
/-! Names of functions here: xs00 = slices_ContainsFunc_impl_Map_impl_Map_impl_areAll_impl_Map_1_impl_GoodMap, xs01 = slices_IndexFunc_impl_Map_impl_Map_impl_areAll_impl_Map_1_impl_GoodMap, xs02 = slices_Reverse_impl_Map_impl_Map_040, xi03 = impl_areAll_impl_Map_1_impl_GoodMap, xi04 = impl_areAll_impl_Map_impl_GoodMap, xs05 = slices_Clone_impl_Map_impl_Map, xs06 = slices_Equal_impl_Map_impl_Map, xi07 = impl_Window_pop_dff, xl08 = laws_markWindow_0e6 -/
namespace GoV
open Go Go.Proofs
set_option maxRecDepth 100000

def laws_FnExactPopMap.c (v0 : List (Int × Int)) (v1 : List (Int × Int)) (v2 : List (Int × Int)) (v3 : Int) (v4 : Int) : List Cell := ac [.d .fro (.sl (.pair (.int .i64) (.int .i64))) v0, .d .fro (.sl (.pair (.int .i64) (.int .i64))) v1, .d .fro (.sl (.pair (.int .i64) (.int .i64))) v2, iL v3, iL v4] :: []
def laws_FnExactPopMap.mk (b : Bool) : R := (⟨.one, [bL b]⟩, nn 1 ([]))
def laws_FnExactPopMap.un (r : R) : Bool := ((leafR r 0).dat .bool)
noncomputable def laws_FnExactPopMap (v0 : List (Int × Int)) (v1 : List (Int × Int)) (v2 : List (Int × Int)) (v3 : Int) (v4 : Int) : Option (Bool) := tOf laws_FnExactPopMap.mk (vlim E 3 (laws_FnExactPopMap.c v0 v1 v2 v3 v4))
def laws_szWindow.c (v0 : List (Int × Int)) (v1 : List (Int × Int)) (v2 : List (Int × Int)) (v3 : Int) (v4 : Int) (v5 : Int) : List Cell := ac [.d .fro (.sl (.pair (.int .i64) (.int .i64))) v0, .d .fro (.sl (.pair (.int .i64) (.int .i64))) v1, .d .fro (.sl (.pair (.int .i64) (.int .i64))) v2, iL v3, iL v4] :: vc (iL v5) :: []
def laws_szWindow.mk (b : Int) : R := (⟨.one, [iL b]⟩, nn 2 ([]))
def laws_szWindow.un (r : R) : Int := ((leafR r 0).dat (.int .i64))
noncomputable def laws_szWindow (v0 : List (Int × Int)) (v1 : List (Int × Int)) (v2 : List (Int × Int)) (v3 : Int) (v4 : Int) (v5 : Int) : Option (Int) := tOf laws_szWindow.mk (vlim E 10 (laws_szWindow.c v0 v1 v2 v3 v4 v5))
def laws_szMapS.c (v0 : List (Int × Int)) (v1 : Int) : List Cell := vc (.d .fro (.sl (.pair (.int .i64) (.int .i64))) v0) :: vc (iL v1) :: []
def laws_szMapS.mk (b : Int) : R := (⟨.one, [iL b]⟩, nn 2 ([]))
def laws_szMapS.un (r : R) : Int := ((leafR r 0).dat (.int .i64))
noncomputable def laws_szMapS (v0 : List (Int × Int)) (v1 : Int) : Option (Int) := tOf laws_szMapS.mk (vlim E 46 (laws_szMapS.c v0 v1))
def laws_toWindow.c (v0 : List (Int × Int)) (v1 : List (Int × Int)) (v2 : List (Int × Int)) (v3 : Int) (v4 : Int) : List Cell := ac [.d .fro (.sl (.pair (.int .i64) (.int .i64))) v0, .d .fro (.sl (.pair (.int .i64) (.int .i64))) v1, .d .fro (.sl (.pair (.int .i64) (.int .i64))) v2, iL v3, iL v4] :: []
def laws_toWindow.mk (b : (List (Int × Int)) × (List (Int × Int)) × (List (Int × Int)) × Int × Int) : R := (⟨.agg, [.d .deep (.sl (.pair (.int .i64) (.int .i64))) b.1, .d .deep (.sl (.pair (.int .i64) (.int .i64))) b.2.1, .d .deep (.sl (.pair (.int .i64) (.int .i64))) b.2.2.1, iL b.2.2.2.1, iL b.2.2.2.2]⟩, nn 1 ([]))
def laws_toWindow.un (r : R) : (List (Int × Int)) × (List (Int × Int)) × (List (Int × Int)) × Int × Int := ((leafR r 0).dat (.sl (.pair (.int .i64) (.int .i64))), (leafR r 1).dat (.sl (.pair (.int .i64) (.int .i64))), (leafR r 2).dat (.sl (.pair (.int .i64) (.int .i64))), (leafR r 3).dat (.int .i64), (leafR r 4).dat (.int .i64))
noncomputable def laws_toWindow (v0 : List (Int × Int)) (v1 : List (Int × Int)) (v2 : List (Int × Int)) (v3 : Int) (v4 : Int) : Option ((List (Int × Int)) × (List (Int × Int)) × (List (Int × Int)) × Int × Int) := tOf laws_toWindow.mk (vlim E 12 (laws_toWindow.c v0 v1 v2 v3 v4))
def laws_toMapS.c (v0 : List (Int × Int)) : List Cell := vc (.d .fro (.sl (.pair (.int .i64) (.int .i64))) v0) :: []
def laws_toMapS.mk (b : (List (Int × Int))) : R := (⟨.one, [.d .deep (.sl (.pair (.int .i64) (.int .i64))) b]⟩, nn 1 ([]))
def laws_toMapS.un (r : R) : (List (Int × Int)) := ((leafR r 0).dat (.sl (.pair (.int .i64) (.int .i64))))
noncomputable def laws_toMapS (v0 : List (Int × Int)) : Option ((List (Int × Int))) := tOf laws_toMapS.mk (vlim E 52 (laws_toMapS.c v0))
def laws_toMap.c (v0 : Int) (v1 : Int) : List Cell := ac [iL v0, iL v1] :: []
def laws_toMap.mk (b : Int × Int) : R := (⟨.agg, [iL b.1, iL b.2]⟩, nn 1 ([]))
def laws_toMap.un (r : R) : Int × Int := ((leafR r 0).dat (.int .i64), (leafR r 1).dat (.int .i64))
noncomputable def laws_toMap (v0 : Int) (v1 : Int) : Option (Int × Int) := tOf laws_toMap.mk (vlim E 53 (laws_toMap.c v0 v1))
def spec_PopMap.c (v0 : List (Int × Int)) (v1 : List (Int × Int)) (v2 : List (Int × Int)) (v3 : Int) (v4 : Int) : List Cell := ac [.d .fro (.sl (.pair (.int .i64) (.int .i64))) v0, .d .fro (.sl (.pair (.int .i64) (.int .i64))) v1, .d .fro (.sl (.pair (.int .i64) (.int .i64))) v2, iL v3, iL v4] :: []
def spec_PopMap.mk (b : (List (Int × Int)) × (List (Int × Int)) × (List (Int × Int)) × Int × Int × Int × Int × Int × Bool) : R := (⟨(.tup [some 5, some 2, none, none]), [.d .deep (.sl (.pair (.int .i64) (.int .i64))) b.1, .d .deep (.sl (.pair (.int .i64) (.int .i64))) b.2.1, .d .deep (.sl (.pair (.int .i64) (.int .i64))) b.2.2.1, iL b.2.2.2.1, iL b.2.2.2.2.1, iL b.2.2.2.2.2.1, iL b.2.2.2.2.2.2.1, iL b.2.2.2.2.2.2.2.1, bL b.2.2.2.2.2.2.2.2]⟩, nn 1 ([]))
def spec_PopMap.un (r : R) : (List (Int × Int)) × (List (Int × Int)) × (List (Int × Int)) × Int × Int × Int × Int × Int × Bool := ((leafR r 0).dat (.sl (.pair (.int .i64) (.int .i64))), (leafR r 1).dat (.sl (.pair (.int .i64) (.int .i64))), (leafR r 2).dat (.sl (.pair (.int .i64) (.int .i64))), (leafR r 3).dat (.int .i64), (leafR r 4).dat (.int .i64), (leafR r 5).dat (.int .i64), (leafR r 6).dat (.int .i64), (leafR r 7).dat (.int .i64), (leafR r 8).dat .bool)
noncomputable def spec_PopMap (v0 : List (Int × Int)) (v1 : List (Int × Int)) (v2 : List (Int × Int)) (v3 : Int) (v4 : Int) : Option ((List (Int × Int)) × (List (Int × Int)) × (List (Int × Int)) × Int × Int × Int × Int × Int × Bool) := tOf spec_PopMap.mk (vlim E 11 (spec_PopMap.c v0 v1 v2 v3 v4))
def spec_GoodWindow.c (v0 : List (Int × Int)) (v1 : List (Int × Int)) (v2 : List (Int × Int)) (v3 : Int) (v4 : Int) : List Cell := ac [.d .fro (.sl (.pair (.int .i64) (.int .i64))) v0, .d .fro (.sl (.pair (.int .i64) (.int .i64))) v1, .d .fro (.sl (.pair (.int .i64) (.int .i64))) v2, iL v3, iL v4] :: []
def spec_GoodWindow.mk (b : Bool) : R := (⟨.one, [bL b]⟩, nn 1 ([]))
def spec_GoodWindow.un (r : R) : Bool := ((leafR r 0).dat .bool)
noncomputable def spec_GoodWindow (v0 : List (Int × Int)) (v1 : List (Int × Int)) (v2 : List (Int × Int)) (v3 : Int) (v4 : Int) : Option (Bool) := tOf spec_GoodWindow.mk (vlim E 47 (spec_GoodWindow.c v0 v1 v2 v3 v4))
def spec_GoodMap.c (v0 : Int) (v1 : Int) : List Cell := ac [iL v0, iL v1] :: []
def spec_GoodMap.mk (b : Bool) : R := (⟨.one, [bL b]⟩, nn 1 ([]))
def spec_GoodMap.un (r : R) : Bool := ((leafR r 0).dat .bool)
noncomputable def spec_GoodMap (v0 : Int) (v1 : Int) : Option (Bool) := tOf spec_GoodMap.mk (vlim E 88 (spec_GoodMap.c v0 v1))
def spec_l1In.c (v0 : Int) (v1 : Int) (v2 : Int) : List Cell := vc (iL v0) :: vc (iL v1) :: vc (iL v2) :: []
def spec_l1In.mk (b : Bool) : R := (⟨.one, [bL b]⟩, nn 3 ([]))
def spec_l1In.un (r : R) : Bool := ((leafR r 0).dat .bool)
noncomputable def spec_l1In (v0 : Int) (v1 : Int) (v2 : Int) : Option (Bool) := tOf spec_l1In.mk (vlim E 82 (spec_l1In.c v0 v1 v2))
def spec_l17Turned.c (v0 : List (Int × Int)) : List Cell := vc (.d .fro (.sl (.pair (.int .i64) (.int .i64))) v0) :: []
def spec_l17Turned.mk (b : (List (Int × Int))) : R := (⟨.one, [.d .deep (.sl (.pair (.int .i64) (.int .i64))) b]⟩, nn 1 ([]))
def spec_l17Turned.un (r : R) : (List (Int × Int)) := ((leafR r 0).dat (.sl (.pair (.int .i64) (.int .i64))))
noncomputable def spec_l17Turned (v0 : List (Int × Int)) : Option ((List (Int × Int))) := tOf spec_l17Turned.mk (vlim E 50 (spec_l17Turned.c v0))
def spec_l17All.c (v0 : List (Int × Int)) : List Cell := vc (.d .fro (.sl (.pair (.int .i64) (.int .i64))) v0) :: []
def spec_l17All.mk (b : Int × Int) : R := (⟨.agg, [iL b.1, iL b.2]⟩, nn 1 ([]))
def spec_l17All.un (r : R) : Int × Int := ((leafR r 0).dat (.int .i64), (leafR r 1).dat (.int .i64))
noncomputable def spec_l17All (v0 : List (Int × Int)) : Option (Int × Int) := tOf spec_l17All.mk (vlim E 89 (spec_l17All.c v0))
def spec_l17One.c : List Cell := []
def spec_l17One.mk (b : Int × Int) : R := (⟨.agg, [iL b.1, iL b.2]⟩, [])
def spec_l17One.un (r : R) : Int × Int := ((leafR r 0).dat (.int .i64), (leafR r 1).dat (.int .i64))
noncomputable def spec_l17One : Option (Int × Int) := tOf spec_l17One.mk (vlim E 49 (spec_l17One.c))
def spec_l17Then.c (v0 : Int) (v1 : Int) (v2 : Int) (v3 : Int) : List Cell := ac [iL v0, iL v1] :: ac [iL v2, iL v3] :: []
def spec_l17Then.mk (b : Int × Int) : R := (⟨.agg, [iL b.1, iL b.2]⟩, nn 2 ([]))
def spec_l17Then.un (r : R) : Int × Int := ((leafR r 0).dat (.int .i64), (leafR r 1).dat (.int .i64))
noncomputable def spec_l17Then (v0 : Int) (v1 : Int) (v2 : Int) (v3 : Int) : Option (Int × Int) := tOf spec_l17Then.mk (vlim E 51 (spec_l17Then.c v0 v1 v2 v3))
def spec_l17Own.c (v0 : List (Int × Int)) (v1 : List (Int × Int)) (v2 : List (Int × Int)) (v3 : Int) (v4 : Int) : List Cell := ac [.d .fro (.sl (.pair (.int .i64) (.int .i64))) v0, .d .fro (.sl (.pair (.int .i64) (.int .i64))) v1, .d .fro (.sl (.pair (.int .i64) (.int .i64))) v2, iL v3, iL v4] :: []
def spec_l17Own.mk (b : (List (Int × Int)) × (List (Int × Int)) × (List (Int × Int)) × Int × Int) : R := (⟨.agg, [.d .deep (.sl (.pair (.int .i64) (.int .i64))) b.1, .d .deep (.sl (.pair (.int .i64) (.int .i64))) b.2.1, .d .deep (.sl (.pair (.int .i64) (.int .i64))) b.2.2.1, iL b.2.2.2.1, iL b.2.2.2.2]⟩, nn 1 ([]))
def spec_l17Own.un (r : R) : (List (Int × Int)) × (List (Int × Int)) × (List (Int × Int)) × Int × Int := ((leafR r 0).dat (.sl (.pair (.int .i64) (.int .i64))), (leafR r 1).dat (.sl (.pair (.int .i64) (.int .i64))), (leafR r 2).dat (.sl (.pair (.int .i64) (.int .i64))), (leafR r 3).dat (.int .i64), (leafR r 4).dat (.int .i64))
noncomputable def spec_l17Own (v0 : List (Int × Int)) (v1 : List (Int × Int)) (v2 : List (Int × Int)) (v3 : Int) (v4 : Int) : Option ((List (Int × Int)) × (List (Int × Int)) × (List (Int × Int)) × Int × Int) := tOf spec_l17Own.mk (vlim E 48 (spec_l17Own.c v0 v1 v2 v3 v4))
def impl_PopMap.c (v0 : List (Int × Int)) (v1 : List (Int × Int)) (v2 : List (Int × Int)) (v3 : Int) (v4 : Int) : List Cell := ac [.d .fro (.sl (.pair (.int .i64) (.int .i64))) v0, .d .fro (.sl (.pair (.int .i64) (.int .i64))) v1, .d .fro (.sl (.pair (.int .i64) (.int .i64))) v2, iL v3, iL v4] :: []
def impl_PopMap.mk (b : (List (Int × Int)) × (List (Int × Int)) × (List (Int × Int)) × Int × Int × Int × Int × Int × Bool) : R := (⟨(.tup [some 5, some 2, none, none]), [.d .deep (.sl (.pair (.int .i64) (.int .i64))) b.1, .d .deep (.sl (.pair (.int .i64) (.int .i64))) b.2.1, .d .deep (.sl (.pair (.int .i64) (.int .i64))) b.2.2.1, iL b.2.2.2.1, iL b.2.2.2.2.1, iL b.2.2.2.2.2.1, iL b.2.2.2.2.2.2.1, iL b.2.2.2.2.2.2.2.1, bL b.2.2.2.2.2.2.2.2]⟩, nn 1 ([]))
def impl_PopMap.un (r : R) : (List (Int × Int)) × (List (Int × Int)) × (List (Int × Int)) × Int × Int × Int × Int × Int × Bool := ((leafR r 0).dat (.sl (.pair (.int .i64) (.int .i64))), (leafR r 1).dat (.sl (.pair (.int .i64) (.int .i64))), (leafR r 2).dat (.sl (.pair (.int .i64) (.int .i64))), (leafR r 3).dat (.int .i64), (leafR r 4).dat (.int .i64), (leafR r 5).dat (.int .i64), (leafR r 6).dat (.int .i64), (leafR r 7).dat (.int .i64), (leafR r 8).dat .bool)
noncomputable def impl_PopMap (v0 : List (Int × Int)) (v1 : List (Int × Int)) (v2 : List (Int × Int)) (v3 : Int) (v4 : Int) : Option ((List (Int × Int)) × (List (Int × Int)) × (List (Int × Int)) × Int × Int × Int × Int × Int × Bool) := tOf impl_PopMap.mk (vlim E 13 (impl_PopMap.c v0 v1 v2 v3 v4))
def impl_GoodWindow.c (v0 : List (Int × Int)) (v1 : List (Int × Int)) (v2 : List (Int × Int)) (v3 : Int) (v4 : Int) : List Cell := ac [.d .fro (.sl (.pair (.int .i64) (.int .i64))) v0, .d .fro (.sl (.pair (.int .i64) (.int .i64))) v1, .d .fro (.sl (.pair (.int .i64) (.int .i64))) v2, iL v3, iL v4] :: []
def impl_GoodWindow.mk (b : Bool) : R := (⟨.one, [bL b]⟩, nn 1 ([]))
def impl_GoodWindow.un (r : R) : Bool := ((leafR r 0).dat .bool)
noncomputable def impl_GoodWindow (v0 : List (Int × Int)) (v1 : List (Int × Int)) (v2 : List (Int × Int)) (v3 : Int) (v4 : Int) : Option (Bool) := tOf impl_GoodWindow.mk (vlim E 54 (impl_GoodWindow.c v0 v1 v2 v3 v4))
def xi04.c (v0 : List (Int × Int)) : List Cell := vc (.d .fro (.sl (.pair (.int .i64) (.int .i64))) v0) :: vc (.fn 91 []) :: []
def xi04.mk (b : Bool) : R := (⟨.one, [bL b]⟩, nn 2 ([]))
def xi04.un (r : R) : Bool := ((leafR r 0).dat .bool)
noncomputable def xi04 (v0 : List (Int × Int)) : Option (Bool) := tOf xi04.mk (vlim E 90 (xi04.c v0))
def xs00.c (v0 : List (Int × Int)) : List Cell := vc (.d .fro (.sl (.pair (.int .i64) (.int .i64))) v0) :: vc (.fn 109 [.rp [.fn 91 []] 0]) :: []
def xs00.mk (b : Bool) : R := (⟨.one, [bL b]⟩, nn 2 ([]))
def xs00.un (r : R) : Bool := ((leafR r 0).dat .bool)
noncomputable def xs00 (v0 : List (Int × Int)) : Option (Bool) := tOf xs00.mk (vlim E 108 (xs00.c v0))
def xs01.c (v0 : List (Int × Int)) : List Cell := vc (.d .fro (.sl (.pair (.int .i64) (.int .i64))) v0) :: vc (.fn 109 [.rp [.fn 91 []] 0]) :: []
def xs01.mk (b : Int) : R := (⟨.one, [iL b]⟩, nn 2 ([]))
def xs01.un (r : R) : Int := ((leafR r 0).dat (.int .i64))
noncomputable def xs01 (v0 : List (Int × Int)) : Option (Int) := tOf xs01.mk (vlim E 112 (xs01.c v0))
def xi03.c (v0 : Int) (v1 : Int) : List Cell := ac [iL v0, iL v1] :: vc (.rp [.fn 91 []] 0) :: []
def xi03.mk (b : Bool) : R := (⟨.one, [bL b]⟩, nn 2 ([]))
def xi03.un (r : R) : Bool := ((leafR r 0).dat .bool)
noncomputable def xi03 (v0 : Int) (v1 : Int) : Option (Bool) := tOf xi03.mk (vlim E 109 (xi03.c v0 v1))
def impl_GoodMap.c (v0 : Int) (v1 : Int) : List Cell := ac [iL v0, iL v1] :: []
def impl_GoodMap.mk (b : Bool) : R := (⟨.one, [bL b]⟩, nn 1 ([]))
def impl_GoodMap.un (r : R) : Bool := ((leafR r 0).dat .bool)
noncomputable def impl_GoodMap (v0 : Int) (v1 : Int) : Option (Bool) := tOf impl_GoodMap.mk (vlim E 91 (impl_GoodMap.c v0 v1))
def impl_isRest.c (v0 : Int) : List Cell := vc (iL v0) :: []
def impl_isRest.mk (b : Bool) : R := (⟨.one, [bL b]⟩, nn 1 ([]))
def impl_isRest.un (r : R) : Bool := ((leafR r 0).dat .bool)
noncomputable def impl_isRest (v0 : Int) : Option (Bool) := tOf impl_isRest.mk (vlim E 110 (impl_isRest.c v0))
def impl_within.c (v0 : Int) (v1 : Int) (v2 : Int) : List Cell := vc (iL v0) :: vc (iL v1) :: vc (iL v2) :: []
def impl_within.mk (b : Bool) : R := (⟨.one, [bL b]⟩, nn 3 ([]))
def impl_within.un (r : R) : Bool := ((leafR r 0).dat .bool)
noncomputable def impl_within (v0 : Int) (v1 : Int) (v2 : Int) : Option (Bool) := tOf impl_within.mk (vlim E 80 (impl_within.c v0 v1 v2))
def impl_sumsOf.c (v0 : List (Int × Int)) : List Cell := vc (.d .fro (.sl (.pair (.int .i64) (.int .i64))) v0) :: []
def impl_sumsOf.mk (b : (List (Int × Int))) : R := (⟨.one, [.d .deep (.sl (.pair (.int .i64) (.int .i64))) b]⟩, nn 1 ([]))
def impl_sumsOf.un (r : R) : (List (Int × Int)) := ((leafR r 0).dat (.sl (.pair (.int .i64) (.int .i64))))
noncomputable def impl_sumsOf (v0 : List (Int × Int)) : Option ((List (Int × Int))) := tOf impl_sumsOf.mk (vlim E 93 (impl_sumsOf.c v0))
def impl_same.c : List Cell := []
def impl_same.mk (b : Int × Int) : R := (⟨.agg, [iL b.1, iL b.2]⟩, [])
def impl_same.un (r : R) : Int × Int := ((leafR r 0).dat (.int .i64), (leafR r 1).dat (.int .i64))
noncomputable def impl_same : Option (Int × Int) := tOf impl_same.mk (vlim E 97 (impl_same.c))
def impl_Map_then.c (v0 : Int) (v1 : Int) (v2 : Int) (v3 : Int) : List Cell := ac [iL v0, iL v1] :: ac [iL v2, iL v3] :: []
def impl_Map_then.mk (b : Int × Int) : R := (⟨.agg, [iL b.1, iL b.2]⟩, nn 2 ([]))
def impl_Map_then.un (r : R) : Int × Int := ((leafR r 0).dat (.int .i64), (leafR r 1).dat (.int .i64))
noncomputable def impl_Map_then (v0 : Int) (v1 : Int) (v2 : Int) (v3 : Int) : Option (Int × Int) := tOf impl_Map_then.mk (vlim E 111 (impl_Map_then.c v0 v1 v2 v3))
def xs06.c (v0 : List (Int × Int)) (v1 : List (Int × Int)) : List Cell := vc (.d .fro (.sl (.pair (.int .i64) (.int .i64))) v0) :: vc (.d .fro (.sl (.pair (.int .i64) (.int .i64))) v1) :: []
def xs06.mk (b : Bool) : R := (⟨.one, [bL b]⟩, nn 2 ([]))
def xs06.un (r : R) : Bool := ((leafR r 0).dat .bool)
noncomputable def xs06 (v0 : List (Int × Int)) (v1 : List (Int × Int)) : Option (Bool) := tOf xs06.mk (vlim E 92 (xs06.c v0 v1))
def impl_composed.c (v0 : List (Int × Int)) : List Cell := vc (.d .fro (.sl (.pair (.int .i64) (.int .i64))) v0) :: []
def impl_composed.mk (b : Int × Int) : R := (⟨.agg, [iL b.1, iL b.2]⟩, nn 1 ([]))
def impl_composed.un (r : R) : Int × Int := ((leafR r 0).dat (.int .i64), (leafR r 1).dat (.int .i64))
noncomputable def impl_composed (v0 : List (Int × Int)) : Option (Int × Int) := tOf impl_composed.mk (vlim E 94 (impl_composed.c v0))
def impl_Window_own.c (v0 : List (Int × Int)) (v1 : List (Int × Int)) (v2 : List (Int × Int)) (v3 : Int) (v4 : Int) : List Cell := ac [.d .fro (.sl (.pair (.int .i64) (.int .i64))) v0, .d .fro (.sl (.pair (.int .i64) (.int .i64))) v1, .d .fro (.sl (.pair (.int .i64) (.int .i64))) v2, iL v3, iL v4] :: []
def impl_Window_own.mk (b : (List (Int × Int)) × (List (Int × Int)) × (List (Int × Int)) × Int × Int) : R := (⟨.agg, [.d .deep (.sl (.pair (.int .i64) (.int .i64))) b.1, .d .deep (.sl (.pair (.int .i64) (.int .i64))) b.2.1, .d .deep (.sl (.pair (.int .i64) (.int .i64))) b.2.2.1, iL b.2.2.2.1, iL b.2.2.2.2]⟩, nn 1 ([]))
def impl_Window_own.un (r : R) : (List (Int × Int)) × (List (Int × Int)) × (List (Int × Int)) × Int × Int := ((leafR r 0).dat (.sl (.pair (.int .i64) (.int .i64))), (leafR r 1).dat (.sl (.pair (.int .i64) (.int .i64))), (leafR r 2).dat (.sl (.pair (.int .i64) (.int .i64))), (leafR r 3).dat (.int .i64), (leafR r 4).dat (.int .i64))
noncomputable def impl_Window_own (v0 : List (Int × Int)) (v1 : List (Int × Int)) (v2 : List (Int × Int)) (v3 : Int) (v4 : Int) : Option ((List (Int × Int)) × (List (Int × Int)) × (List (Int × Int)) × Int × Int) := tOf impl_Window_own.mk (vlim E 55 (impl_Window_own.c v0 v1 v2 v3 v4))
def xs05.c (v0 : List (Int × Int)) : List Cell := vc (.d .fro (.sl (.pair (.int .i64) (.int .i64))) v0) :: []
def xs05.mk (b : (List (Int × Int))) : R := (⟨.one, [.d .deep (.sl (.pair (.int .i64) (.int .i64))) b]⟩, nn 1 ([]))
def xs05.un (r : R) : (List (Int × Int)) := ((leafR r 0).dat (.sl (.pair (.int .i64) (.int .i64))))
noncomputable def xs05 (v0 : List (Int × Int)) : Option ((List (Int × Int))) := tOf xs05.mk (vlim E 95 (xs05.c v0))
def xi07.c (v0 : List (Int × Int)) (v1 : List (Int × Int)) (v2 : List (Int × Int)) (v3 : Int) (v4 : Int) : List Cell := ⟨(.box false), [.d .deep (.sl (.pair (.int .i64) (.int .i64))) v0, .d .deep (.sl (.pair (.int .i64) (.int .i64))) v1, .d .deep (.sl (.pair (.int .i64) (.int .i64))) v2, iL v3, iL v4], true, false, false, 0, 0⟩ :: []
def xi07.mk (b : Int × Int × Int × (List (Int × Int)) × (List (Int × Int)) × (List (Int × Int)) × Int × Int) : R := (⟨(.tup [some 2, none]), [iL b.1, iL b.2.1, iL b.2.2.1]⟩, ⟨(.box false), [.d .deep (.sl (.pair (.int .i64) (.int .i64))) b.2.2.2.1, .d .deep (.sl (.pair (.int .i64) (.int .i64))) b.2.2.2.2.1, .d .deep (.sl (.pair (.int .i64) (.int .i64))) b.2.2.2.2.2.1, iL b.2.2.2.2.2.2.1, iL b.2.2.2.2.2.2.2], true, false, false, 0, 0⟩ :: [])
def xi07.un (r : R) : Int × Int × Int × (List (Int × Int)) × (List (Int × Int)) × (List (Int × Int)) × Int × Int := ((leafR r 0).dat (.int .i64), (leafR r 1).dat (.int .i64), (leafR r 2).dat (.int .i64), (leafF r 0 0).dat (.sl (.pair (.int .i64) (.int .i64))), (leafF r 0 1).dat (.sl (.pair (.int .i64) (.int .i64))), (leafF r 0 2).dat (.sl (.pair (.int .i64) (.int .i64))), (leafF r 0 3).dat (.int .i64), (leafF r 0 4).dat (.int .i64))
noncomputable def xi07 (v0 : List (Int × Int)) (v1 : List (Int × Int)) (v2 : List (Int × Int)) (v3 : Int) (v4 : Int) : Option (Int × Int × Int × (List (Int × Int)) × (List (Int × Int)) × (List (Int × Int)) × Int × Int) := tOf xi07.mk (vlim E 56 (xi07.c v0 v1 v2 v3 v4))
def xs02.c (v0 : List (Int × Int)) : List Cell := ⟨(.val .one), [.d .deep (.sl (.pair (.int .i64) (.int .i64))) v0], true, false, false, 0, 0⟩ :: []
def xs02.mk (b : (List (Int × Int))) : R := (⟨(.tup []), []⟩, ⟨(.val .one), [.d .deep (.sl (.pair (.int .i64) (.int .i64))) b], true, false, false, 0, 0⟩ :: [])
def xs02.un (r : R) : (List (Int × Int)) := ((leafF r 0 0).dat (.sl (.pair (.int .i64) (.int .i64))))
noncomputable def xs02 (v0 : List (Int × Int)) : Option ((List (Int × Int))) := tOf xs02.mk (vlim E 96 (xs02.c v0))
def laws_eqWindow.c (v0 : List (Int × Int)) (v1 : List (Int × Int)) (v2 : List (Int × Int)) (v3 : Int) (v4 : Int) (v5 : List (Int × Int)) (v6 : List (Int × Int)) (v7 : List (Int × Int)) (v8 : Int) (v9 : Int) : List Cell := ac [.d .fro (.sl (.pair (.int .i64) (.int .i64))) v0, .d .fro (.sl (.pair (.int .i64) (.int .i64))) v1, .d .fro (.sl (.pair (.int .i64) (.int .i64))) v2, iL v3, iL v4] :: ac [.d .fro (.sl (.pair (.int .i64) (.int .i64))) v5, .d .fro (.sl (.pair (.int .i64) (.int .i64))) v6, .d .fro (.sl (.pair (.int .i64) (.int .i64))) v7, iL v8, iL v9] :: []
def laws_eqWindow.mk (b : Bool) : R := (⟨.one, [bL b]⟩, nn 2 ([]))
def laws_eqWindow.un (r : R) : Bool := ((leafR r 0).dat .bool)
noncomputable def laws_eqWindow (v0 : List (Int × Int)) (v1 : List (Int × Int)) (v2 : List (Int × Int)) (v3 : Int) (v4 : Int) (v5 : List (Int × Int)) (v6 : List (Int × Int)) (v7 : List (Int × Int)) (v8 : Int) (v9 : Int) : Option (Bool) := tOf laws_eqWindow.mk (vlim E 14 (laws_eqWindow.c v0 v1 v2 v3 v4 v5 v6 v7 v8 v9))
def laws_eqMapS.c (v0 : List (Int × Int)) (v1 : List (Int × Int)) : List Cell := vc (.d .fro (.sl (.pair (.int .i64) (.int .i64))) v0) :: vc (.d .fro (.sl (.pair (.int .i64) (.int .i64))) v1) :: []
def laws_eqMapS.mk (b : Bool) : R := (⟨.one, [bL b]⟩, nn 2 ([]))
def laws_eqMapS.un (r : R) : Bool := ((leafR r 0).dat .bool)
noncomputable def laws_eqMapS (v0 : List (Int × Int)) (v1 : List (Int × Int)) : Option (Bool) := tOf laws_eqMapS.mk (vlim E 57 (laws_eqMapS.c v0 v1))
def laws_eqMap.c (v0 : Int) (v1 : Int) (v2 : Int) (v3 : Int) : List Cell := ac [iL v0, iL v1] :: ac [iL v2, iL v3] :: []
def laws_eqMap.mk (b : Bool) : R := (⟨.one, [bL b]⟩, nn 2 ([]))
def laws_eqMap.un (r : R) : Bool := ((leafR r 0).dat .bool)
noncomputable def laws_eqMap (v0 : Int) (v1 : Int) (v2 : Int) (v3 : Int) : Option (Bool) := tOf laws_eqMap.mk (vlim E 15 (laws_eqMap.c v0 v1 v2 v3))
def xl08.c (v0 : List (Int × Int)) (v1 : List (Int × Int)) (v2 : List (Int × Int)) (v3 : Int) (v4 : Int) (v5 : Int) : List Cell := ⟨(.val .agg), [.d .deep (.sl (.pair (.int .i64) (.int .i64))) v0, .d .deep (.sl (.pair (.int .i64) (.int .i64))) v1, .d .deep (.sl (.pair (.int .i64) (.int .i64))) v2, iL v3, iL v4], true, false, false, 0, 0⟩ :: vc (iL v5) :: []
def xl08.mk (b : Int × (List (Int × Int)) × (List (Int × Int)) × (List (Int × Int)) × Int × Int) : R := (⟨.one, [iL b.1]⟩, ⟨(.val .agg), [.d .deep (.sl (.pair (.int .i64) (.int .i64))) b.2.1, .d .deep (.sl (.pair (.int .i64) (.int .i64))) b.2.2.1, .d .deep (.sl (.pair (.int .i64) (.int .i64))) b.2.2.2.1, iL b.2.2.2.2.1, iL b.2.2.2.2.2], true, false, false, 0, 0⟩ :: nn 1 ([]))
def xl08.un (r : R) : Int × (List (Int × Int)) × (List (Int × Int)) × (List (Int × Int)) × Int × Int := ((leafR r 0).dat (.int .i64), (leafF r 0 0).dat (.sl (.pair (.int .i64) (.int .i64))), (leafF r 0 1).dat (.sl (.pair (.int .i64) (.int .i64))), (leafF r 0 2).dat (.sl (.pair (.int .i64) (.int .i64))), (leafF r 0 3).dat (.int .i64), (leafF r 0 4).dat (.int .i64))
noncomputable def xl08 (v0 : List (Int × Int)) (v1 : List (Int × Int)) (v2 : List (Int × Int)) (v3 : Int) (v4 : Int) (v5 : Int) : Option (Int × (List (Int × Int)) × (List (Int × Int)) × (List (Int × Int)) × Int × Int) := tOf xl08.mk (vlim E 16 (xl08.c v0 v1 v2 v3 v4 v5))
def laws_markMapS_cfe.c (v0 : List (Int × Int)) (v1 : Int) : List Cell := ⟨(.val .one), [.d .deep (.sl (.pair (.int .i64) (.int .i64))) v0], true, false, false, 0, 0⟩ :: vc (iL v1) :: []
def laws_markMapS_cfe.mk (b : Int × (List (Int × Int))) : R := (⟨.one, [iL b.1]⟩, ⟨(.val .one), [.d .deep (.sl (.pair (.int .i64) (.int .i64))) b.2], true, false, false, 0, 0⟩ :: nn 1 ([]))
def laws_markMapS_cfe.un (r : R) : Int × (List (Int × Int)) := ((leafR r 0).dat (.int .i64), (leafF r 0 0).dat (.sl (.pair (.int .i64) (.int .i64))))
noncomputable def laws_markMapS_cfe (v0 : List (Int × Int)) (v1 : Int) : Option (Int × (List (Int × Int))) := tOf laws_markMapS_cfe.mk (vlim E 58 (laws_markMapS_cfe.c v0 v1))
def laws_heldWindow.c (v0 : List (Int × Int)) (v1 : List (Int × Int)) (v2 : List (Int × Int)) (v3 : Int) (v4 : Int) (v5 : Int) : List Cell := ac [.d .fro (.sl (.pair (.int .i64) (.int .i64))) v0, .d .fro (.sl (.pair (.int .i64) (.int .i64))) v1, .d .fro (.sl (.pair (.int .i64) (.int .i64))) v2, iL v3, iL v4] :: vc (iL v5) :: []
def laws_heldWindow.mk (b : Int) : R := (⟨.one, [iL b]⟩, nn 2 ([]))
def laws_heldWindow.un (r : R) : Int := ((leafR r 0).dat (.int .i64))
noncomputable def laws_heldWindow (v0 : List (Int × Int)) (v1 : List (Int × Int)) (v2 : List (Int × Int)) (v3 : Int) (v4 : Int) (v5 : Int) : Option (Int) := tOf laws_heldWindow.mk (vlim E 17 (laws_heldWindow.c v0 v1 v2 v3 v4 v5))
def laws_heldMapS.c (v0 : List (Int × Int)) (v1 : Int) : List Cell := vc (.d .fro (.sl (.pair (.int .i64) (.int .i64))) v0) :: vc (iL v1) :: []
def laws_heldMapS.mk (b : Int) : R := (⟨.one, [iL b]⟩, nn 2 ([]))
def laws_heldMapS.un (r : R) : Int := ((leafR r 0).dat (.int .i64))
noncomputable def laws_heldMapS (v0 : List (Int × Int)) (v1 : Int) : Option (Int) := tOf laws_heldMapS.mk (vlim E 59 (laws_heldMapS.c v0 v1))
def tabT : List (Nat × List (List Cell × Tb)) := [
 (3, [(laws_FnExactPopMap.c [] [] [] 0 0, ⟨Bool, laws_FnExactPopMap.mk⟩)]),
 (10, [(laws_szWindow.c [] [] [] 0 0 0, ⟨Int, laws_szWindow.mk⟩)]),
 (11, [(spec_PopMap.c [] [] [] 0 0, ⟨(List (Int × Int)) × (List (Int × Int)) × (List (Int × Int)) × Int × Int × Int × Int × Int × Bool, spec_PopMap.mk⟩)]),
 (12, [(laws_toWindow.c [] [] [] 0 0, ⟨(List (Int × Int)) × (List (Int × Int)) × (List (Int × Int)) × Int × Int, laws_toWindow.mk⟩)]),
 (13, [(impl_PopMap.c [] [] [] 0 0, ⟨(List (Int × Int)) × (List (Int × Int)) × (List (Int × Int)) × Int × Int × Int × Int × Int × Bool, impl_PopMap.mk⟩)]),
 (14, [(laws_eqWindow.c [] [] [] 0 0 [] [] [] 0 0, ⟨Bool, laws_eqWindow.mk⟩)]),
 (15, [(laws_eqMap.c 0 0 0 0, ⟨Bool, laws_eqMap.mk⟩)]),
 (16, [(xl08.c [] [] [] 0 0 0, ⟨Int × (List (Int × Int)) × (List (Int × Int)) × (List (Int × Int)) × Int × Int, xl08.mk⟩)]),
 (17, [(laws_heldWindow.c [] [] [] 0 0 0, ⟨Int, laws_heldWindow.mk⟩)]),
 (46, [(laws_szMapS.c [] 0, ⟨Int, laws_szMapS.mk⟩)]),
 (47, [(spec_GoodWindow.c [] [] [] 0 0, ⟨Bool, spec_GoodWindow.mk⟩)]),
 (48, [(spec_l17Own.c [] [] [] 0 0, ⟨(List (Int × Int)) × (List (Int × Int)) × (List (Int × Int)) × Int × Int, spec_l17Own.mk⟩)]),
 (49, [(spec_l17One.c , ⟨Int × Int, spec_l17One.mk⟩)]),
 (50, [(spec_l17Turned.c [], ⟨(List (Int × Int)), spec_l17Turned.mk⟩)]),
 (51, [(spec_l17Then.c 0 0 0 0, ⟨Int × Int, spec_l17Then.mk⟩)]),
 (52, [(laws_toMapS.c [], ⟨(List (Int × Int)), laws_toMapS.mk⟩)]),
 (53, [(laws_toMap.c 0 0, ⟨Int × Int, laws_toMap.mk⟩)]),
 (54, [(impl_GoodWindow.c [] [] [] 0 0, ⟨Bool, impl_GoodWindow.mk⟩)]),
 (55, [(impl_Window_own.c [] [] [] 0 0, ⟨(List (Int × Int)) × (List (Int × Int)) × (List (Int × Int)) × Int × Int, impl_Window_own.mk⟩)]),
 (56, [(xi07.c [] [] [] 0 0, ⟨Int × Int × Int × (List (Int × Int)) × (List (Int × Int)) × (List (Int × Int)) × Int × Int, xi07.mk⟩)]),
 (57, [(laws_eqMapS.c [] [], ⟨Bool, laws_eqMapS.mk⟩)]),
 (58, [(laws_markMapS_cfe.c [] 0, ⟨Int × (List (Int × Int)), laws_markMapS_cfe.mk⟩)]),
 (59, [(laws_heldMapS.c [] 0, ⟨Int, laws_heldMapS.mk⟩)]),
 (80, [(impl_within.c 0 0 0, ⟨Bool, impl_within.mk⟩)]),
 (82, [(spec_l1In.c 0 0 0, ⟨Bool, spec_l1In.mk⟩)]),
 (88, [(spec_GoodMap.c 0 0, ⟨Bool, spec_GoodMap.mk⟩)]),
 (89, [(spec_l17All.c [], ⟨Int × Int, spec_l17All.mk⟩)]),
 (90, [(xi04.c [], ⟨Bool, xi04.mk⟩)]),
 (91, [(impl_GoodMap.c 0 0, ⟨Bool, impl_GoodMap.mk⟩)]),
 (92, [(xs06.c [] [], ⟨Bool, xs06.mk⟩)]),
 (93, [(impl_sumsOf.c [], ⟨(List (Int × Int)), impl_sumsOf.mk⟩)]),
 (94, [(impl_composed.c [], ⟨Int × Int, impl_composed.mk⟩)]),
 (95, [(xs05.c [], ⟨(List (Int × Int)), xs05.mk⟩)]),
 (96, [(xs02.c [], ⟨(List (Int × Int)), xs02.mk⟩)]),
 (97, [(impl_same.c , ⟨Int × Int, impl_same.mk⟩)]),
 (108, [(xs00.c [], ⟨Bool, xs00.mk⟩)]),
 (109, [(xi03.c 0 0, ⟨Bool, xi03.mk⟩)]),
 (110, [(impl_isRest.c 0, ⟨Bool, impl_isRest.mk⟩)]),
 (111, [(impl_Map_then.c 0 0 0 0, ⟨Int × Int, impl_Map_then.mk⟩)]),
 (112, [(xs01.c [], ⟨Int, xs01.mk⟩)])]
def tab : FuncId → List Cell → Tb := fun g cs => match assoc tabT g with | some l => pickT l cs | none => ⟨Unit, fun _ => (⟨.one, []⟩, [])⟩
end GoV

/- Equations of the program's functions (printed by wip/tools/emit.py). -/
namespace GoV
open Go Go.Proofs
set_option maxRecDepth 100000

noncomputable def laws_FnExactPopMap.t {γ : Type} (ret : (Bool) → Option γ) (v0 : List (Int × Int)) (v1 : List (Int × Int)) (v2 : List (Int × Int)) (v3 : Int) (v4 : Int) : Option γ :=
 (laws_szWindow (v0) (v1) (v2) (v3) (v4) ((1048576 : Int))).bind fun (r0 : Int) =>
 bif decide (r0 < (0 : Int)) then
  ret (Bool.true)
 else
  (laws_toWindow (v0) (v1) (v2) (v3) (v4)).bind fun (r1 : (List (Int × Int)) × (List (Int × Int)) × (List (Int × Int)) × Int × Int) =>
  (spec_PopMap (r1.fst) (r1.snd.fst) (r1.snd.snd.fst) (r1.snd.snd.snd.fst) (r1.snd.snd.snd.snd)).bind fun (r2 : (List (Int × Int)) × (List (Int × Int)) × (List (Int × Int)) × Int × Int × Int × Int × Int × Bool) =>
  (laws_toWindow (v0) (v1) (v2) (v3) (v4)).bind fun (r3 : (List (Int × Int)) × (List (Int × Int)) × (List (Int × Int)) × Int × Int) =>
  (impl_PopMap (r3.fst) (r3.snd.fst) (r3.snd.snd.fst) (r3.snd.snd.snd.fst) (r3.snd.snd.snd.snd)).bind fun (r4 : (List (Int × Int)) × (List (Int × Int)) × (List (Int × Int)) × Int × Int × Int × Int × Int × Bool) =>
  (laws_eqWindow (r4.fst) (r4.snd.fst) (r4.snd.snd.fst) (r4.snd.snd.snd.fst) (r4.snd.snd.snd.snd.fst) (r2.fst) (r2.snd.fst) (r2.snd.snd.fst) (r2.snd.snd.snd.fst) (r2.snd.snd.snd.snd.fst)).bind fun (r5 : Bool) =>
  bif !r5 then
   ret (Bool.false)
  else
   (laws_eqMap (r4.snd.snd.snd.snd.snd.fst) (r4.snd.snd.snd.snd.snd.snd.fst) (r2.snd.snd.snd.snd.snd.fst) (r2.snd.snd.snd.snd.snd.snd.fst)).bind fun (r6 : Bool) =>
   bif !r6 then
    ret (Bool.false)
   else
    bif r4.snd.snd.snd.snd.snd.snd.snd.fst != r2.snd.snd.snd.snd.snd.snd.snd.fst then
     ret (Bool.false)
    else
     bif !r4.snd.snd.snd.snd.snd.snd.snd.snd == r2.snd.snd.snd.snd.snd.snd.snd.snd then
      ret (Bool.false)
     else
      (laws_toWindow (v0) (v1) (v2) (v3) (v4)).bind fun (r7 : (List (Int × Int)) × (List (Int × Int)) × (List (Int × Int)) × Int × Int) =>
      (laws_eqWindow (r3.fst) (r3.snd.fst) (r3.snd.snd.fst) (r3.snd.snd.snd.fst) (r3.snd.snd.snd.snd) (r7.fst) (r7.snd.fst) (r7.snd.snd.fst) (r7.snd.snd.snd.fst) (r7.snd.snd.snd.snd)).bind fun (r8 : Bool) =>
      bif !r8 then
       ret (Bool.false)
      else
       (xl08 (r3.fst) (r3.snd.fst) (r3.snd.snd.fst) (r3.snd.snd.snd.fst) (r3.snd.snd.snd.snd) ((1 : Int))).bind fun (r9 : Int × (List (Int × Int)) × (List (Int × Int)) × (List (Int × Int)) × Int × Int) =>
       bif decide (r9.fst < (0 : Int)) then
        ret (Bool.false)
       else
        (laws_eqWindow (r4.fst) (r4.snd.fst) (r4.snd.snd.fst) (r4.snd.snd.snd.fst) (r4.snd.snd.snd.snd.fst) (r2.fst) (r2.snd.fst) (r2.snd.snd.fst) (r2.snd.snd.snd.fst) (r2.snd.snd.snd.snd.fst)).bind fun (r10 : Bool) =>
        bif !r10 then
         ret (Bool.false)
        else
         (laws_eqMap (r4.snd.snd.snd.snd.snd.fst) (r4.snd.snd.snd.snd.snd.snd.fst) (r2.snd.snd.snd.snd.snd.fst) (r2.snd.snd.snd.snd.snd.snd.fst)).bind fun (r11 : Bool) =>
         bif !r11 then
          ret (Bool.false)
         else
          bif r4.snd.snd.snd.snd.snd.snd.snd.fst != r2.snd.snd.snd.snd.snd.snd.snd.fst then
           ret (Bool.false)
          else
           bif !r4.snd.snd.snd.snd.snd.snd.snd.snd == r2.snd.snd.snd.snd.snd.snd.snd.snd then
            ret (Bool.false)
           else
            (xl08 (r4.fst) (r4.snd.fst) (r4.snd.snd.fst) (r4.snd.snd.snd.fst) (r4.snd.snd.snd.snd.fst) ((1 : Int))).bind fun (r12 : Int × (List (Int × Int)) × (List (Int × Int)) × (List (Int × Int)) × Int × Int) =>
            (laws_heldWindow (r12.snd.fst) (r12.snd.snd.fst) (r12.snd.snd.snd.fst) (r4.snd.snd.snd.fst) (r4.snd.snd.snd.snd.fst) ((1 : Int))).bind fun (r13 : Int) =>
            bif decide (r13 < (0 : Int)) then
             ret (Bool.false)
            else
             bif r13 != r12.fst then
              ret (Bool.false)
             else
              (laws_toWindow (v0) (v1) (v2) (v3) (v4)).bind fun (r14 : (List (Int × Int)) × (List (Int × Int)) × (List (Int × Int)) × Int × Int) =>
              (impl_PopMap (r14.fst) (r14.snd.fst) (r14.snd.snd.fst) (r14.snd.snd.snd.fst) (r14.snd.snd.snd.snd)).bind fun (r15 : (List (Int × Int)) × (List (Int × Int)) × (List (Int × Int)) × Int × Int × Int × Int × Int × Bool) =>
              (laws_eqWindow (r15.fst) (r15.snd.fst) (r15.snd.snd.fst) (r15.snd.snd.snd.fst) (r15.snd.snd.snd.snd.fst) (r2.fst) (r2.snd.fst) (r2.snd.snd.fst) (r2.snd.snd.snd.fst) (r2.snd.snd.snd.snd.fst)).bind fun (r16 : Bool) =>
              bif !r16 then
               ret (Bool.false)
              else
               (laws_eqMap (r15.snd.snd.snd.snd.snd.fst) (r15.snd.snd.snd.snd.snd.snd.fst) (r2.snd.snd.snd.snd.snd.fst) (r2.snd.snd.snd.snd.snd.snd.fst)).bind fun (r17 : Bool) =>
               bif !r17 then
                ret (Bool.false)
               else
                bif r15.snd.snd.snd.snd.snd.snd.snd.fst != r2.snd.snd.snd.snd.snd.snd.snd.fst then
                 ret (Bool.false)
                else
                 bif !r15.snd.snd.snd.snd.snd.snd.snd.snd == r2.snd.snd.snd.snd.snd.snd.snd.snd then
                  ret (Bool.false)
                 else
                  (laws_heldWindow (r12.snd.fst) (r12.snd.snd.fst) (r12.snd.snd.snd.fst) (r4.snd.snd.snd.fst) (r4.snd.snd.snd.snd.fst) ((1 : Int))).bind fun (r18 : Int) =>
                  bif decide (r18 < (0 : Int)) then
                   ret (Bool.false)
                  else
                   bif r18 != r12.fst then
                    ret (Bool.false)
                   else
                    ret (Bool.true)
theorem laws_FnExactPopMap.k (v0 : List (Int × Int)) (v1 : List (Int × Int)) (v2 : List (Int × Int)) (v3 : Int) (v4 : Int) : topL E (callT E tab) 3 Try.f3 (laws_FnExactPopMap.c v0 v1 v2 v3 v4) = laws_FnExactPopMap.t (fun b => some (laws_FnExactPopMap.mk b)) v0 v1 v2 v3 v4 := by kernel_rfl
theorem laws_FnExactPopMap.eq (v0 : List (Int × Int)) (v1 : List (Int × Int)) (v2 : List (Int × Int)) (v3 : Int) (v4 : Int) {b : Bool} (h : laws_FnExactPopMap.t some v0 v1 v2 v3 v4 = some b) : laws_FnExactPopMap v0 v1 v2 v3 v4 = some b := tOf_intro laws_FnExactPopMap.un (fun _ => by kernel_rfl) (vlim_fn (callT_le E tab) rfl rfl rfl ((laws_FnExactPopMap.k v0 v1 v2 v3 v4).trans ((by unfold laws_FnExactPopMap.t; repeat' first | exact Sub.ret | exact Sub.none | exact Sub.loop | apply Sub.cond | (apply Sub.bind; intro _) : Sub laws_FnExactPopMap.mk _ _) b h)))
noncomputable def laws_szWindow.t {γ : Type} (ret : (Int) → Option γ) (v0 : List (Int × Int)) (v1 : List (Int × Int)) (v2 : List (Int × Int)) (v3 : Int) (v4 : Int) (v5 : Int) : Option γ :=
 (laws_szMapS (v0) (v5)).bind fun (r0 : Int) =>
 bif decide (r0 < (0 : Int)) then
  ret ((-1 : Int))
 else
  (laws_szMapS (v1) (r0)).bind fun (r1 : Int) =>
  bif decide (r1 < (0 : Int)) then
   ret ((-1 : Int))
  else
   (laws_szMapS (v2) (r1)).bind fun (r2 : Int) =>
   bif decide (r2 < (0 : Int)) then
    ret ((-1 : Int))
   else
    ret (r2)
theorem laws_szWindow.k (v0 : List (Int × Int)) (v1 : List (Int × Int)) (v2 : List (Int × Int)) (v3 : Int) (v4 : Int) (v5 : Int) : topL E (callT E tab) 10 Try.f10 (laws_szWindow.c v0 v1 v2 v3 v4 v5) = laws_szWindow.t (fun b => some (laws_szWindow.mk b)) v0 v1 v2 v3 v4 v5 := by kernel_rfl
theorem laws_szWindow.eq (v0 : List (Int × Int)) (v1 : List (Int × Int)) (v2 : List (Int × Int)) (v3 : Int) (v4 : Int) (v5 : Int) {b : Int} (h : laws_szWindow.t some v0 v1 v2 v3 v4 v5 = some b) : laws_szWindow v0 v1 v2 v3 v4 v5 = some b := tOf_intro laws_szWindow.un (fun _ => by kernel_rfl) (vlim_fn (callT_le E tab) rfl rfl rfl ((laws_szWindow.k v0 v1 v2 v3 v4 v5).trans ((by unfold laws_szWindow.t; repeat' first | exact Sub.ret | exact Sub.none | exact Sub.loop | apply Sub.cond | (apply Sub.bind; intro _) : Sub laws_szWindow.mk _ _) b h)))
noncomputable def laws_szMapS.t {γ : Type} (ret : (Int) → Option γ) (v0 : List (Int × Int)) (v1 : Int) : Option γ :=
 bif decide (IntKind.i64.wrap (v1 - (↑v0.length : Int)) < (0 : Int)) then
  ret ((-1 : Int))
 else
  ret (IntKind.i64.wrap (v1 - (↑v0.length : Int)))
theorem laws_szMapS.k (v0 : List (Int × Int)) (v1 : Int) : topL E (callT E tab) 46 Try.f46 (laws_szMapS.c v0 v1) = laws_szMapS.t (fun b => some (laws_szMapS.mk b)) v0 v1 := by kernel_rfl
theorem laws_szMapS.eq (v0 : List (Int × Int)) (v1 : Int) {b : Int} (h : laws_szMapS.t some v0 v1 = some b) : laws_szMapS v0 v1 = some b := tOf_intro laws_szMapS.un (fun _ => by kernel_rfl) (vlim_fn (callT_le E tab) rfl rfl rfl ((laws_szMapS.k v0 v1).trans ((by unfold laws_szMapS.t; repeat' first | exact Sub.ret | exact Sub.none | exact Sub.loop | apply Sub.cond | (apply Sub.bind; intro _) : Sub laws_szMapS.mk _ _) b h)))
noncomputable def laws_toWindow.t {γ : Type} (ret : ((List (Int × Int)) × (List (Int × Int)) × (List (Int × Int)) × Int × Int) → Option γ) (v0 : List (Int × Int)) (v1 : List (Int × Int)) (v2 : List (Int × Int)) (v3 : Int) (v4 : Int) : Option γ :=
 (laws_toMapS (v0)).bind fun (r0 : (List (Int × Int))) =>
 (laws_toMapS (v1)).bind fun (r1 : (List (Int × Int))) =>
 (laws_toMapS (v2)).bind fun (r2 : (List (Int × Int))) =>
 (laws_toMap (v3) (v4)).bind fun (r3 : Int × Int) =>
 ret (r0, r1, r2, r3.fst, r3.snd)
theorem laws_toWindow.k (v0 : List (Int × Int)) (v1 : List (Int × Int)) (v2 : List (Int × Int)) (v3 : Int) (v4 : Int) : topL E (callT E tab) 12 Try.f12 (laws_toWindow.c v0 v1 v2 v3 v4) = laws_toWindow.t (fun b => some (laws_toWindow.mk b)) v0 v1 v2 v3 v4 := by kernel_rfl
theorem laws_toWindow.eq (v0 : List (Int × Int)) (v1 : List (Int × Int)) (v2 : List (Int × Int)) (v3 : Int) (v4 : Int) {b : (List (Int × Int)) × (List (Int × Int)) × (List (Int × Int)) × Int × Int} (h : laws_toWindow.t some v0 v1 v2 v3 v4 = some b) : laws_toWindow v0 v1 v2 v3 v4 = some b := tOf_intro laws_toWindow.un (fun _ => by kernel_rfl) (vlim_fn (callT_le E tab) rfl rfl rfl ((laws_toWindow.k v0 v1 v2 v3 v4).trans ((by unfold laws_toWindow.t; repeat' first | exact Sub.ret | exact Sub.none | exact Sub.loop | apply Sub.cond | (apply Sub.bind; intro _) : Sub laws_toWindow.mk _ _) b h)))
noncomputable def laws_toMapS.q3 (v0 : List (Int × Int)) (v1 : List (Int × Int)) (v2 : Int) : Option R := loopAtL E (callT E tab) 52 Try.f52 1 [.r, .r, .l, .r, .b] (vc (.d .fro (.sl (.pair (.int .i64) (.int .i64))) v0) :: nn 2 (vc (.d .deep (.sl (.pair (.int .i64) (.int .i64))) v1) :: vc (iL v2) :: nn 18 ([])))
noncomputable def laws_toMapS.l3 (v0 : List (Int × Int)) (v1 : List (Int × Int)) (v2 : Int) : Option ((List (Int × Int))) := tOf laws_toMapS.mk (laws_toMapS.q3 v0 v1 v2)
noncomputable def laws_toMapS.t {γ : Type} (ret : ((List (Int × Int))) → Option γ) (lp3 : (List (Int × Int)) → (List (Int × Int)) → Int → Option γ) (v0 : List (Int × Int)) : Option γ :=
 bif decide ((↑v0.length : Int) = (↑v0.length : Int)) then
  bif decide ((↑v0.length : Int) ≤ (↑(4294967296 : Nat) : Int)) then
   lp3 (v0) (List.replicate (↑v0.length : Int).toNat ((0 : Int), (0 : Int))) ((0 : Int))
  else
   none
 else
  none
noncomputable def laws_toMapS.t3 {γ : Type} (ret : ((List (Int × Int))) → Option γ) (lp3 : (List (Int × Int)) → (List (Int × Int)) → Int → Option γ) (v0 : List (Int × Int)) (v1 : List (Int × Int)) (v2 : Int) : Option γ :=
 bif decide (v2 < (↑v0.length : Int)) then
  bif decide ((0 : Int) ≤ v2) then
   bif decide (v2.toNat < v0.length) then
    (laws_toMap ((v0.getD v2.toNat ((0 : Int), (0 : Int))).fst) ((v0.getD v2.toNat ((0 : Int), (0 : Int))).snd)).bind fun (r0 : Int × Int) =>
    bif decide ((0 : Int) ≤ v2) then
     bif decide (v2.toNat < v1.length) then
      bif decide (v2.toNat < v1.length) then
       lp3 (v0) (v1.set v2.toNat (r0.fst, r0.snd)) (IntKind.i64.wrap (v2 + (1 : Int)))
      else
       none
     else
      none
    else
     none
   else
    none
  else
   none
 else
  ret (v1)
theorem laws_toMapS.k (v0 : List (Int × Int)) : topL E (callT E tab) 52 Try.f52 (laws_toMapS.c v0) = laws_toMapS.t (fun b => some (laws_toMapS.mk b)) laws_toMapS.q3 v0 := by kernel_rfl
theorem laws_toMapS.k3 (v0 : List (Int × Int)) (v1 : List (Int × Int)) (v2 : Int) : roundL E (callT E tab) 52 Try.f52 1 [.r, .r, .l, .r, .b] (vc (.d .fro (.sl (.pair (.int .i64) (.int .i64))) v0) :: nn 2 (vc (.d .deep (.sl (.pair (.int .i64) (.int .i64))) v1) :: vc (iL v2) :: nn 18 ([]))) = laws_toMapS.t3 (fun b => some (laws_toMapS.mk b)) laws_toMapS.q3 v0 v1 v2 := by kernel_rfl
theorem laws_toMapS.eq (v0 : List (Int × Int)) {b : (List (Int × Int))} (h : laws_toMapS.t some laws_toMapS.l3 v0 = some b) : laws_toMapS v0 = some b := tOf_intro laws_toMapS.un (fun _ => by kernel_rfl) (vlim_fn (callT_le E tab) rfl rfl rfl ((laws_toMapS.k v0).trans ((by unfold laws_toMapS.t; repeat' first | exact Sub.ret | exact Sub.none | exact Sub.loop | apply Sub.cond | (apply Sub.bind; intro _) : Sub laws_toMapS.mk _ _) b h)))
theorem laws_toMapS.eq3 (v0 : List (Int × Int)) (v1 : List (Int × Int)) (v2 : Int) {b : (List (Int × Int))} (h : laws_toMapS.t3 some laws_toMapS.l3 v0 v1 v2 = some b) : laws_toMapS.l3 v0 v1 v2 = some b := tOf_intro laws_toMapS.un (fun _ => by kernel_rfl) (loopAtL_step ((laws_toMapS.k3 v0 v1 v2).trans ((by unfold laws_toMapS.t3; repeat' first | exact Sub.ret | exact Sub.none | exact Sub.loop | apply Sub.cond | (apply Sub.bind; intro _) : Sub laws_toMapS.mk _ _) b h)))
noncomputable def laws_toMap.t {γ : Type} (ret : (Int × Int) → Option γ) (v0 : Int) (v1 : Int) : Option γ :=
 ret (v0, v1)
theorem laws_toMap.k (v0 : Int) (v1 : Int) : topL E (callT E tab) 53 Try.f53 (laws_toMap.c v0 v1) = laws_toMap.t (fun b => some (laws_toMap.mk b)) v0 v1 := by kernel_rfl
theorem laws_toMap.eq (v0 : Int) (v1 : Int) {b : Int × Int} (h : laws_toMap.t some v0 v1 = some b) : laws_toMap v0 v1 = some b := tOf_intro laws_toMap.un (fun _ => by kernel_rfl) (vlim_fn (callT_le E tab) rfl rfl rfl ((laws_toMap.k v0 v1).trans ((by unfold laws_toMap.t; repeat' first | exact Sub.ret | exact Sub.none | exact Sub.loop | apply Sub.cond | (apply Sub.bind; intro _) : Sub laws_toMap.mk _ _) b h)))
noncomputable def spec_PopMap.q9 (v0 : List (Int × Int)) (v1 : List (Int × Int)) (v2 : List (Int × Int)) (v3 : Int) (v4 : Int) (v5 : List (Int × Int)) (v6 : List (Int × Int)) (v7 : List (Int × Int)) (v8 : Int) (v9 : Int) (v10 : Int) (v11 : Int) (v12 : Int) (v13 : Int) (v14 : Int) (v15 : List (Int × Int)) (v16 : Int) (v17 : Int) : Option R := loopAtL E (callT E tab) 11 Try.f11 1 [.r, .r, .r, .r, .l, .r, .l, .r, .r, .l, .r, .b] (nn 1 (⟨(.box false), [.d .deep (.sl (.pair (.int .i64) (.int .i64))) v0, .d .deep (.sl (.pair (.int .i64) (.int .i64))) v1, .d .deep (.sl (.pair (.int .i64) (.int .i64))) v2, iL v3, iL v4], false, false, false, 0, 0⟩ :: ⟨(.box false), [.d .deep (.sl (.pair (.int .i64) (.int .i64))) v5, .d .deep (.sl (.pair (.int .i64) (.int .i64))) v6, .d .deep (.sl (.pair (.int .i64) (.int .i64))) v7, iL v8, iL v9], false, false, false, 0, 0⟩ :: ⟨(.box false), [iL v10, iL v11], false, false, false, 0, 0⟩ :: nn 2 (vc (iL v12) :: ⟨(.box false), [iL v13, iL v14], false, false, false, 0, 0⟩ :: nn 31 (vc (.d .deep (.sl (.pair (.int .i64) (.int .i64))) v15) :: vc (iL v16) :: vc (iL v17) :: nn 45 ([])))))
noncomputable def spec_PopMap.l9 (v0 : List (Int × Int)) (v1 : List (Int × Int)) (v2 : List (Int × Int)) (v3 : Int) (v4 : Int) (v5 : List (Int × Int)) (v6 : List (Int × Int)) (v7 : List (Int × Int)) (v8 : Int) (v9 : Int) (v10 : Int) (v11 : Int) (v12 : Int) (v13 : Int) (v14 : Int) (v15 : List (Int × Int)) (v16 : Int) (v17 : Int) : Option ((List (Int × Int)) × (List (Int × Int)) × (List (Int × Int)) × Int × Int × Int × Int × Int × Bool) := tOf spec_PopMap.mk (spec_PopMap.q9 v0 v1 v2 v3 v4 v5 v6 v7 v8 v9 v10 v11 v12 v13 v14 v15 v16 v17)
noncomputable def spec_PopMap.t {γ : Type} (ret : ((List (Int × Int)) × (List (Int × Int)) × (List (Int × Int)) × Int × Int × Int × Int × Int × Bool) → Option γ) (lp9 : (List (Int × Int)) → (List (Int × Int)) → (List (Int × Int)) → Int → Int → (List (Int × Int)) → (List (Int × Int)) → (List (Int × Int)) → Int → Int → Int → Int → Int → Int → Int → (List (Int × Int)) → Int → Int → Option γ) (v0 : List (Int × Int)) (v1 : List (Int × Int)) (v2 : List (Int × Int)) (v3 : Int) (v4 : Int) : Option γ :=
 (spec_GoodWindow (v0) (v1) (v2) (v3) (v4)).bind fun (r0 : Bool) =>
 bif !r0 then
  ret ([], [], [], (0 : Int), (0 : Int), (0 : Int), (0 : Int), (0 : Int), Bool.false)
 else
  bif IntKind.i64.wrap ((↑v0.length : Int) + (↑v2.length : Int)) == (0 : Int) then
   ret ([], [], [], (0 : Int), (0 : Int), (0 : Int), (0 : Int), (0 : Int), Bool.false)
  else
   (spec_l17Own (v0) (v1) (v2) (v3) (v4)).bind fun (r1 : (List (Int × Int)) × (List (Int × Int)) × (List (Int × Int)) × Int × Int) =>
   bif (↑r1.fst.length : Int) == (0 : Int) then
    (spec_l17One ).bind fun (r2 : Int × Int) =>
    (spec_l17Turned (r1.snd.snd.fst)).bind fun (r3 : (List (Int × Int))) =>
    lp9 (r1.fst) (r1.snd.fst) (r1.snd.snd.fst) (r1.snd.snd.snd.fst) (r1.snd.snd.snd.snd) ([]) ([]) ([]) ((0 : Int)) ((0 : Int)) ((0 : Int)) ((0 : Int)) ((↑r1.snd.snd.fst.length : Int)) (r2.fst) (r2.snd) (r3) ((↑r3.length : Int)) ((0 : Int))
   else
    bif decide ((0 : Int) ≤ IntKind.i64.wrap ((↑r1.fst.length : Int) - (1 : Int))) then
     bif decide ((IntKind.i64.wrap ((↑r1.fst.length : Int) - (1 : Int))).toNat < r1.fst.length) then
      bif decide ((IntKind.i64.wrap ((↑r1.fst.length : Int) - (1 : Int))).toNat < r1.fst.length) then
       bif decide (Option.none.getD (0 : Int) ≤ IntKind.i64.wrap ((↑r1.fst.length : Int) - (1 : Int))) then
        bif decide (IntKind.i64.wrap ((↑r1.fst.length : Int) - (1 : Int)) ≤ (↑r1.fst.length : Int)) then
         bif decide (Option.none.getD (0 : Int) ≤ IntKind.i64.wrap ((↑r1.fst.length : Int) - (1 : Int))) then
          bif decide (IntKind.i64.wrap ((↑r1.fst.length : Int) - (1 : Int)) ≤ (↑r1.snd.fst.length : Int)) then
           (spec_l17Own (List.take (IntKind.i64.wrap ((↑r1.fst.length : Int) - (1 : Int)) - Option.none.getD (0 : Int)).toNat   (List.drop (Option.none.getD (0 : Int)).toNat r1.fst)) (List.take (IntKind.i64.wrap ((↑r1.fst.length : Int) - (1 : Int)) - Option.none.getD (0 : Int)).toNat   (List.drop (Option.none.getD (0 : Int)).toNat r1.snd.fst)) (r1.snd.snd.fst) (r1.snd.snd.snd.fst) (r1.snd.snd.snd.snd)).bind fun (r7 : (List (Int × Int)) × (List (Int × Int)) × (List (Int × Int)) × Int × Int) =>
           ret (r7.fst, r7.snd.fst, r7.snd.snd.fst, r7.snd.snd.snd.fst, r7.snd.snd.snd.snd, (r1.fst.getD (IntKind.i64.wrap ((↑r1.fst.length : Int) - (1 : Int))).toNat ((0 : Int), (0 : Int))).fst, (r1.fst.getD (IntKind.i64.wrap ((↑r1.fst.length : Int) - (1 : Int))).toNat ((0 : Int), (0 : Int))).snd, (0 : Int), Bool.true)
          else
           none
         else
          none
        else
         none
       else
        none
      else
       none
     else
      none
    else
     none
noncomputable def spec_PopMap.t9 {γ : Type} (ret : ((List (Int × Int)) × (List (Int × Int)) × (List (Int × Int)) × Int × Int × Int × Int × Int × Bool) → Option γ) (lp9 : (List (Int × Int)) → (List (Int × Int)) → (List (Int × Int)) → Int → Int → (List (Int × Int)) → (List (Int × Int)) → (List (Int × Int)) → Int → Int → Int → Int → Int → Int → Int → (List (Int × Int)) → Int → Int → Option γ) (v0 : List (Int × Int)) (v1 : List (Int × Int)) (v2 : List (Int × Int)) (v3 : Int) (v4 : Int) (v5 : List (Int × Int)) (v6 : List (Int × Int)) (v7 : List (Int × Int)) (v8 : Int) (v9 : Int) (v10 : Int) (v11 : Int) (v12 : Int) (v13 : Int) (v14 : Int) (v15 : List (Int × Int)) (v16 : Int) (v17 : Int) : Option γ :=
 bif decide (v17 < v16) then
  bif decide ((0 : Int) ≤ v17) then
   bif decide (v17.toNat < v15.length) then
    bif decide (v17.toNat < v15.length) then
     (spec_l17Then ((v15.getD v17.toNat ((0 : Int), (0 : Int))).fst) ((v15.getD v17.toNat ((0 : Int), (0 : Int))).snd) (v13) (v14)).bind fun (r4 : Int × Int) =>
     bif decide   (v0.length +       [((v15.getD v17.toNat ((0 : Int), (0 : Int))).fst, (v15.getD v17.toNat ((0 : Int), (0 : Int))).snd)].length ≤     (4294967296 : Nat)) then
      bif decide (v1.length + [(r4.fst, r4.snd)].length ≤ (4294967296 : Nat)) then
       lp9 (v0 ++ [((v15.getD v17.toNat ((0 : Int), (0 : Int))).fst, (v15.getD v17.toNat ((0 : Int), (0 : Int))).snd)]) (v1 ++ [(r4.fst, r4.snd)]) (v2) (v3) (v4) (v5) (v6) (v7) (v8) (v9) (v10) (v11) (v12) (r4.fst) (r4.snd) (v15) (v16) (IntKind.i64.wrap (v17 + (1 : Int)))
      else
       none
     else
      none
    else
     none
   else
    none
  else
   none
 else
  (spec_l17One ).bind fun (r5 : Int × Int) =>
  bif decide ((0 : Int) ≤ IntKind.i64.wrap ((↑v0.length : Int) - (1 : Int))) then
   bif decide ((IntKind.i64.wrap ((↑v0.length : Int) - (1 : Int))).toNat < v0.length) then
    bif decide ((IntKind.i64.wrap ((↑v0.length : Int) - (1 : Int))).toNat < v0.length) then
     bif decide (Option.none.getD (0 : Int) ≤ IntKind.i64.wrap ((↑v0.length : Int) - (1 : Int))) then
      bif decide (IntKind.i64.wrap ((↑v0.length : Int) - (1 : Int)) ≤ (↑v0.length : Int)) then
       bif decide (Option.none.getD (0 : Int) ≤ IntKind.i64.wrap ((↑v0.length : Int) - (1 : Int))) then
        bif decide (IntKind.i64.wrap ((↑v0.length : Int) - (1 : Int)) ≤ (↑v1.length : Int)) then
         (spec_l17Own (List.take (IntKind.i64.wrap ((↑v0.length : Int) - (1 : Int)) - Option.none.getD (0 : Int)).toNat   (List.drop (Option.none.getD (0 : Int)).toNat v0)) (List.take (IntKind.i64.wrap ((↑v0.length : Int) - (1 : Int)) - Option.none.getD (0 : Int)).toNat   (List.drop (Option.none.getD (0 : Int)).toNat v1)) ([]) (r5.fst) (r5.snd)).bind fun (r6 : (List (Int × Int)) × (List (Int × Int)) × (List (Int × Int)) × Int × Int) =>
         ret (r6.fst, r6.snd.fst, r6.snd.snd.fst, r6.snd.snd.snd.fst, r6.snd.snd.snd.snd, (v0.getD (IntKind.i64.wrap ((↑v0.length : Int) - (1 : Int))).toNat ((0 : Int), (0 : Int))).fst, (v0.getD (IntKind.i64.wrap ((↑v0.length : Int) - (1 : Int))).toNat ((0 : Int), (0 : Int))).snd, v12, Bool.true)
        else
         none
       else
        none
      else
       none
     else
      none
    else
     none
   else
    none
  else
   none
theorem spec_PopMap.k (v0 : List (Int × Int)) (v1 : List (Int × Int)) (v2 : List (Int × Int)) (v3 : Int) (v4 : Int) : topL E (callT E tab) 11 Try.f11 (spec_PopMap.c v0 v1 v2 v3 v4) = spec_PopMap.t (fun b => some (spec_PopMap.mk b)) spec_PopMap.q9 v0 v1 v2 v3 v4 := by kernel_rfl
theorem spec_PopMap.k9 (v0 : List (Int × Int)) (v1 : List (Int × Int)) (v2 : List (Int × Int)) (v3 : Int) (v4 : Int) (v5 : List (Int × Int)) (v6 : List (Int × Int)) (v7 : List (Int × Int)) (v8 : Int) (v9 : Int) (v10 : Int) (v11 : Int) (v12 : Int) (v13 : Int) (v14 : Int) (v15 : List (Int × Int)) (v16 : Int) (v17 : Int) : roundL E (callT E tab) 11 Try.f11 1 [.r, .r, .r, .r, .l, .r, .l, .r, .r, .l, .r, .b] (nn 1 (⟨(.box false), [.d .deep (.sl (.pair (.int .i64) (.int .i64))) v0, .d .deep (.sl (.pair (.int .i64) (.int .i64))) v1, .d .deep (.sl (.pair (.int .i64) (.int .i64))) v2, iL v3, iL v4], false, false, false, 0, 0⟩ :: ⟨(.box false), [.d .deep (.sl (.pair (.int .i64) (.int .i64))) v5, .d .deep (.sl (.pair (.int .i64) (.int .i64))) v6, .d .deep (.sl (.pair (.int .i64) (.int .i64))) v7, iL v8, iL v9], false, false, false, 0, 0⟩ :: ⟨(.box false), [iL v10, iL v11], false, false, false, 0, 0⟩ :: nn 2 (vc (iL v12) :: ⟨(.box false), [iL v13, iL v14], false, false, false, 0, 0⟩ :: nn 31 (vc (.d .deep (.sl (.pair (.int .i64) (.int .i64))) v15) :: vc (iL v16) :: vc (iL v17) :: nn 45 ([]))))) = spec_PopMap.t9 (fun b => some (spec_PopMap.mk b)) spec_PopMap.q9 v0 v1 v2 v3 v4 v5 v6 v7 v8 v9 v10 v11 v12 v13 v14 v15 v16 v17 := by kernel_rfl
theorem spec_PopMap.eq (v0 : List (Int × Int)) (v1 : List (Int × Int)) (v2 : List (Int × Int)) (v3 : Int) (v4 : Int) {b : (List (Int × Int)) × (List (Int × Int)) × (List (Int × Int)) × Int × Int × Int × Int × Int × Bool} (h : spec_PopMap.t some spec_PopMap.l9 v0 v1 v2 v3 v4 = some b) : spec_PopMap v0 v1 v2 v3 v4 = some b := tOf_intro spec_PopMap.un (fun _ => by kernel_rfl) (vlim_fn (callT_le E tab) rfl rfl rfl ((spec_PopMap.k v0 v1 v2 v3 v4).trans ((by unfold spec_PopMap.t; repeat' first | exact Sub.ret | exact Sub.none | exact Sub.loop | apply Sub.cond | (apply Sub.bind; intro _) : Sub spec_PopMap.mk _ _) b h)))
theorem spec_PopMap.eq9 (v0 : List (Int × Int)) (v1 : List (Int × Int)) (v2 : List (Int × Int)) (v3 : Int) (v4 : Int) (v5 : List (Int × Int)) (v6 : List (Int × Int)) (v7 : List (Int × Int)) (v8 : Int) (v9 : Int) (v10 : Int) (v11 : Int) (v12 : Int) (v13 : Int) (v14 : Int) (v15 : List (Int × Int)) (v16 : Int) (v17 : Int) {b : (List (Int × Int)) × (List (Int × Int)) × (List (Int × Int)) × Int × Int × Int × Int × Int × Bool} (h : spec_PopMap.t9 some spec_PopMap.l9 v0 v1 v2 v3 v4 v5 v6 v7 v8 v9 v10 v11 v12 v13 v14 v15 v16 v17 = some b) : spec_PopMap.l9 v0 v1 v2 v3 v4 v5 v6 v7 v8 v9 v10 v11 v12 v13 v14 v15 v16 v17 = some b := tOf_intro spec_PopMap.un (fun _ => by kernel_rfl) (loopAtL_step ((spec_PopMap.k9 v0 v1 v2 v3 v4 v5 v6 v7 v8 v9 v10 v11 v12 v13 v14 v15 v16 v17).trans ((by unfold spec_PopMap.t9; repeat' first | exact Sub.ret | exact Sub.none | exact Sub.loop | apply Sub.cond | (apply Sub.bind; intro _) : Sub spec_PopMap.mk _ _) b h)))
noncomputable def spec_GoodWindow.q10 (v0 : List (Int × Int)) (v1 : List (Int × Int)) (v2 : List (Int × Int)) (v3 : Int) (v4 : Int) (v5 : List (Int × Int)) (v6 : Int) (v7 : Int) : Option R := loopAtL E (callT E tab) 47 Try.f47 1 [.r, .r, .r, .l, .r, .b] (nn 1 (⟨(.box false), [.d .fro (.sl (.pair (.int .i64) (.int .i64))) v0, .d .fro (.sl (.pair (.int .i64) (.int .i64))) v1, .d .fro (.sl (.pair (.int .i64) (.int .i64))) v2, iL v3, iL v4], false, false, false, 0, 0⟩ :: nn 50 (vc (.d .fro (.sl (.pair (.int .i64) (.int .i64))) v5) :: vc (iL v6) :: vc (iL v7) :: nn 13 ([]))))
noncomputable def spec_GoodWindow.l10 (v0 : List (Int × Int)) (v1 : List (Int × Int)) (v2 : List (Int × Int)) (v3 : Int) (v4 : Int) (v5 : List (Int × Int)) (v6 : Int) (v7 : Int) : Option (Bool) := tOf spec_GoodWindow.mk (spec_GoodWindow.q10 v0 v1 v2 v3 v4 v5 v6 v7)
noncomputable def spec_GoodWindow.q4 (v0 : List (Int × Int)) (v1 : List (Int × Int)) (v2 : List (Int × Int)) (v3 : Int) (v4 : Int) (v5 : List (Int × Int)) (v6 : Int) (v7 : Int) : Option R := loopAtL E (callT E tab) 47 Try.f47 1 [.r, .r, .l, .r, .b] (nn 1 (⟨(.box false), [.d .fro (.sl (.pair (.int .i64) (.int .i64))) v0, .d .fro (.sl (.pair (.int .i64) (.int .i64))) v1, .d .fro (.sl (.pair (.int .i64) (.int .i64))) v2, iL v3, iL v4], false, false, false, 0, 0⟩ :: nn 23 (vc (.d .fro (.sl (.pair (.int .i64) (.int .i64))) v5) :: vc (iL v6) :: vc (iL v7) :: nn 40 ([]))))
noncomputable def spec_GoodWindow.l4 (v0 : List (Int × Int)) (v1 : List (Int × Int)) (v2 : List (Int × Int)) (v3 : Int) (v4 : Int) (v5 : List (Int × Int)) (v6 : Int) (v7 : Int) : Option (Bool) := tOf spec_GoodWindow.mk (spec_GoodWindow.q4 v0 v1 v2 v3 v4 v5 v6 v7)
noncomputable def spec_GoodWindow.t {γ : Type} (ret : (Bool) → Option γ) (lp10 : (List (Int × Int)) → (List (Int × Int)) → (List (Int × Int)) → Int → Int → (List (Int × Int)) → Int → Int → Option γ) (lp4 : (List (Int × Int)) → (List (Int × Int)) → (List (Int × Int)) → Int → Int → (List (Int × Int)) → Int → Int → Option γ) (v0 : List (Int × Int)) (v1 : List (Int × Int)) (v2 : List (Int × Int)) (v3 : Int) (v4 : Int) : Option γ :=
 bif (↑v1.length : Int) != (↑v0.length : Int) then
  ret (Bool.false)
 else
  bif decide (IntKind.i64.wrap ((↑v0.length : Int) + (↑v2.length : Int)) > (60 : Int)) then
   ret (Bool.false)
  else
   lp4 (v0) (v1) (v2) (v3) (v4) (v0) ((↑v0.length : Int)) ((0 : Int))
noncomputable def spec_GoodWindow.t10 {γ : Type} (ret : (Bool) → Option γ) (lp10 : (List (Int × Int)) → (List (Int × Int)) → (List (Int × Int)) → Int → Int → (List (Int × Int)) → Int → Int → Option γ) (lp4 : (List (Int × Int)) → (List (Int × Int)) → (List (Int × Int)) → Int → Int → (List (Int × Int)) → Int → Int → Option γ) (v0 : List (Int × Int)) (v1 : List (Int × Int)) (v2 : List (Int × Int)) (v3 : Int) (v4 : Int) (v5 : List (Int × Int)) (v6 : Int) (v7 : Int) : Option γ :=
 bif decide (v7 < v6) then
  bif decide ((0 : Int) ≤ v7) then
   bif decide (v7.toNat < v5.length) then
    (spec_GoodMap ((v5.getD v7.toNat ((0 : Int), (0 : Int))).fst) ((v5.getD v7.toNat ((0 : Int), (0 : Int))).snd)).bind fun (r3 : Bool) =>
    bif !r3 then
     ret (Bool.false)
    else
     lp10 (v0) (v1) (v2) (v3) (v4) (v5) (v6) (IntKind.i64.wrap (v7 + (1 : Int)))
   else
    none
  else
   none
 else
  (spec_l17All (v2)).bind fun (r4 : Int × Int) =>
  ret (decide (v3 = r4.fst) && (decide (v4 = r4.snd) && Bool.true))
noncomputable def spec_GoodWindow.t4 {γ : Type} (ret : (Bool) → Option γ) (lp10 : (List (Int × Int)) → (List (Int × Int)) → (List (Int × Int)) → Int → Int → (List (Int × Int)) → Int → Int → Option γ) (lp4 : (List (Int × Int)) → (List (Int × Int)) → (List (Int × Int)) → Int → Int → (List (Int × Int)) → Int → Int → Option γ) (v0 : List (Int × Int)) (v1 : List (Int × Int)) (v2 : List (Int × Int)) (v3 : Int) (v4 : Int) (v5 : List (Int × Int)) (v6 : Int) (v7 : Int) : Option γ :=
 bif decide (v7 < v6) then
  bif decide ((0 : Int) ≤ v7) then
   bif decide (v7.toNat < v5.length) then
    (spec_GoodMap ((v5.getD v7.toNat ((0 : Int), (0 : Int))).fst) ((v5.getD v7.toNat ((0 : Int), (0 : Int))).snd)).bind fun (r0 : Bool) =>
    bif !r0 then
     ret (Bool.false)
    else
     bif decide ((0 : Int) ≤ v7) then
      bif decide (v7.toNat < v1.length) then
       bif decide (Option.none.getD (0 : Int) ≤ IntKind.i64.wrap (v7 + (1 : Int))) then
        bif decide (IntKind.i64.wrap (v7 + (1 : Int)) ≤ (↑v0.length : Int)) then
         (spec_l17Turned (List.take (IntKind.i64.wrap (v7 + (1 : Int)) - Option.none.getD (0 : Int)).toNat   (List.drop (Option.none.getD (0 : Int)).toNat v0))).bind fun (r1 : (List (Int × Int))) =>
         (spec_l17All (r1)).bind fun (r2 : Int × Int) =>
         bif !(decide ((v1.getD v7.toNat ((0 : Int), (0 : Int))).fst = r2.fst) &&     (decide ((v1.getD v7.toNat ((0 : Int), (0 : Int))).snd = r2.snd) && Bool.true)) then
          ret (Bool.false)
         else
          lp4 (v0) (v1) (v2) (v3) (v4) (v5) (v6) (IntKind.i64.wrap (v7 + (1 : Int)))
        else
         none
       else
        none
      else
       none
     else
      none
   else
    none
  else
   none
 else
  lp10 (v0) (v1) (v2) (v3) (v4) (v2) ((↑v2.length : Int)) ((0 : Int))
theorem spec_GoodWindow.k (v0 : List (Int × Int)) (v1 : List (Int × Int)) (v2 : List (Int × Int)) (v3 : Int) (v4 : Int) : topL E (callT E tab) 47 Try.f47 (spec_GoodWindow.c v0 v1 v2 v3 v4) = spec_GoodWindow.t (fun b => some (spec_GoodWindow.mk b)) spec_GoodWindow.q10 spec_GoodWindow.q4 v0 v1 v2 v3 v4 := by kernel_rfl
theorem spec_GoodWindow.k10 (v0 : List (Int × Int)) (v1 : List (Int × Int)) (v2 : List (Int × Int)) (v3 : Int) (v4 : Int) (v5 : List (Int × Int)) (v6 : Int) (v7 : Int) : roundL E (callT E tab) 47 Try.f47 1 [.r, .r, .r, .l, .r, .b] (nn 1 (⟨(.box false), [.d .fro (.sl (.pair (.int .i64) (.int .i64))) v0, .d .fro (.sl (.pair (.int .i64) (.int .i64))) v1, .d .fro (.sl (.pair (.int .i64) (.int .i64))) v2, iL v3, iL v4], false, false, false, 0, 0⟩ :: nn 50 (vc (.d .fro (.sl (.pair (.int .i64) (.int .i64))) v5) :: vc (iL v6) :: vc (iL v7) :: nn 13 ([])))) = spec_GoodWindow.t10 (fun b => some (spec_GoodWindow.mk b)) spec_GoodWindow.q10 spec_GoodWindow.q4 v0 v1 v2 v3 v4 v5 v6 v7 := by kernel_rfl
theorem spec_GoodWindow.k4 (v0 : List (Int × Int)) (v1 : List (Int × Int)) (v2 : List (Int × Int)) (v3 : Int) (v4 : Int) (v5 : List (Int × Int)) (v6 : Int) (v7 : Int) : roundL E (callT E tab) 47 Try.f47 1 [.r, .r, .l, .r, .b] (nn 1 (⟨(.box false), [.d .fro (.sl (.pair (.int .i64) (.int .i64))) v0, .d .fro (.sl (.pair (.int .i64) (.int .i64))) v1, .d .fro (.sl (.pair (.int .i64) (.int .i64))) v2, iL v3, iL v4], false, false, false, 0, 0⟩ :: nn 23 (vc (.d .fro (.sl (.pair (.int .i64) (.int .i64))) v5) :: vc (iL v6) :: vc (iL v7) :: nn 40 ([])))) = spec_GoodWindow.t4 (fun b => some (spec_GoodWindow.mk b)) spec_GoodWindow.q10 spec_GoodWindow.q4 v0 v1 v2 v3 v4 v5 v6 v7 := by kernel_rfl
theorem spec_GoodWindow.eq (v0 : List (Int × Int)) (v1 : List (Int × Int)) (v2 : List (Int × Int)) (v3 : Int) (v4 : Int) {b : Bool} (h : spec_GoodWindow.t some spec_GoodWindow.l10 spec_GoodWindow.l4 v0 v1 v2 v3 v4 = some b) : spec_GoodWindow v0 v1 v2 v3 v4 = some b := tOf_intro spec_GoodWindow.un (fun _ => by kernel_rfl) (vlim_fn (callT_le E tab) rfl rfl rfl ((spec_GoodWindow.k v0 v1 v2 v3 v4).trans ((by unfold spec_GoodWindow.t; repeat' first | exact Sub.ret | exact Sub.none | exact Sub.loop | apply Sub.cond | (apply Sub.bind; intro _) : Sub spec_GoodWindow.mk _ _) b h)))
theorem spec_GoodWindow.eq10 (v0 : List (Int × Int)) (v1 : List (Int × Int)) (v2 : List (Int × Int)) (v3 : Int) (v4 : Int) (v5 : List (Int × Int)) (v6 : Int) (v7 : Int) {b : Bool} (h : spec_GoodWindow.t10 some spec_GoodWindow.l10 spec_GoodWindow.l4 v0 v1 v2 v3 v4 v5 v6 v7 = some b) : spec_GoodWindow.l10 v0 v1 v2 v3 v4 v5 v6 v7 = some b := tOf_intro spec_GoodWindow.un (fun _ => by kernel_rfl) (loopAtL_step ((spec_GoodWindow.k10 v0 v1 v2 v3 v4 v5 v6 v7).trans ((by unfold spec_GoodWindow.t10; repeat' first | exact Sub.ret | exact Sub.none | exact Sub.loop | apply Sub.cond | (apply Sub.bind; intro _) : Sub spec_GoodWindow.mk _ _) b h)))
theorem spec_GoodWindow.eq4 (v0 : List (Int × Int)) (v1 : List (Int × Int)) (v2 : List (Int × Int)) (v3 : Int) (v4 : Int) (v5 : List (Int × Int)) (v6 : Int) (v7 : Int) {b : Bool} (h : spec_GoodWindow.t4 some spec_GoodWindow.l10 spec_GoodWindow.l4 v0 v1 v2 v3 v4 v5 v6 v7 = some b) : spec_GoodWindow.l4 v0 v1 v2 v3 v4 v5 v6 v7 = some b := tOf_intro spec_GoodWindow.un (fun _ => by kernel_rfl) (loopAtL_step ((spec_GoodWindow.k4 v0 v1 v2 v3 v4 v5 v6 v7).trans ((by unfold spec_GoodWindow.t4; repeat' first | exact Sub.ret | exact Sub.none | exact Sub.loop | apply Sub.cond | (apply Sub.bind; intro _) : Sub spec_GoodWindow.mk _ _) b h)))
noncomputable def spec_GoodMap.t {γ : Type} (ret : (Bool) → Option γ) (v0 : Int) (v1 : Int) : Option γ :=
 (spec_l1In (v0) ((0 : Int)) ((1008 : Int))).bind fun (r0 : Bool) =>
 bif r0 then
  (spec_l1In (v1) ((0 : Int)) ((1008 : Int))).bind fun (r1 : Bool) =>
  ret (r1)
 else
  ret (Bool.false)
theorem spec_GoodMap.k (v0 : Int) (v1 : Int) : topL E (callT E tab) 88 Try.f88 (spec_GoodMap.c v0 v1) = spec_GoodMap.t (fun b => some (spec_GoodMap.mk b)) v0 v1 := by kernel_rfl
theorem spec_GoodMap.eq (v0 : Int) (v1 : Int) {b : Bool} (h : spec_GoodMap.t some v0 v1 = some b) : spec_GoodMap v0 v1 = some b := tOf_intro spec_GoodMap.un (fun _ => by kernel_rfl) (vlim_fn (callT_le E tab) rfl rfl rfl ((spec_GoodMap.k v0 v1).trans ((by unfold spec_GoodMap.t; repeat' first | exact Sub.ret | exact Sub.none | exact Sub.loop | apply Sub.cond | (apply Sub.bind; intro _) : Sub spec_GoodMap.mk _ _) b h)))
noncomputable def spec_l1In.t {γ : Type} (ret : (Bool) → Option γ) (v0 : Int) (v1 : Int) (v2 : Int) : Option γ :=
 bif decide (v0 ≥ v1) then
  ret (decide (v0 ≤ v2))
 else
  ret (Bool.false)
theorem spec_l1In.k (v0 : Int) (v1 : Int) (v2 : Int) : topL E (callT E tab) 82 Try.f82 (spec_l1In.c v0 v1 v2) = spec_l1In.t (fun b => some (spec_l1In.mk b)) v0 v1 v2 := by kernel_rfl
theorem spec_l1In.eq (v0 : Int) (v1 : Int) (v2 : Int) {b : Bool} (h : spec_l1In.t some v0 v1 v2 = some b) : spec_l1In v0 v1 v2 = some b := tOf_intro spec_l1In.un (fun _ => by kernel_rfl) (vlim_fn (callT_le E tab) rfl rfl rfl ((spec_l1In.k v0 v1 v2).trans ((by unfold spec_l1In.t; repeat' first | exact Sub.ret | exact Sub.none | exact Sub.loop | apply Sub.cond | (apply Sub.bind; intro _) : Sub spec_l1In.mk _ _) b h)))
noncomputable def spec_l17Turned.q3 (v0 : List (Int × Int)) (v1 : List (Int × Int)) (v2 : Int) : Option R := loopAtL E (callT E tab) 50 Try.f50 1 [.r, .r, .l, .r, .b] (vc (.d .fro (.sl (.pair (.int .i64) (.int .i64))) v0) :: nn 2 (vc (.d .deep (.sl (.pair (.int .i64) (.int .i64))) v1) :: vc (iL v2) :: nn 15 ([])))
noncomputable def spec_l17Turned.l3 (v0 : List (Int × Int)) (v1 : List (Int × Int)) (v2 : Int) : Option ((List (Int × Int))) := tOf spec_l17Turned.mk (spec_l17Turned.q3 v0 v1 v2)
noncomputable def spec_l17Turned.t {γ : Type} (ret : ((List (Int × Int))) → Option γ) (lp3 : (List (Int × Int)) → (List (Int × Int)) → Int → Option γ) (v0 : List (Int × Int)) : Option γ :=
 lp3 (v0) ([]) (IntKind.i64.wrap ((↑v0.length : Int) - (1 : Int)))
noncomputable def spec_l17Turned.t3 {γ : Type} (ret : ((List (Int × Int))) → Option γ) (lp3 : (List (Int × Int)) → (List (Int × Int)) → Int → Option γ) (v0 : List (Int × Int)) (v1 : List (Int × Int)) (v2 : Int) : Option γ :=
 bif decide (v2 ≥ (0 : Int)) then
  bif decide ((0 : Int) ≤ v2) then
   bif decide (v2.toNat < v0.length) then
    bif decide   (v1.length + [((v0.getD v2.toNat ((0 : Int), (0 : Int))).fst, (v0.getD v2.toNat ((0 : Int), (0 : Int))).snd)].length ≤     (4294967296 : Nat)) then
     lp3 (v0) (v1 ++ [((v0.getD v2.toNat ((0 : Int), (0 : Int))).fst, (v0.getD v2.toNat ((0 : Int), (0 : Int))).snd)]) (IntKind.i64.wrap (v2 - (1 : Int)))
    else
     none
   else
    none
  else
   none
 else
  ret (v1)
theorem spec_l17Turned.k (v0 : List (Int × Int)) : topL E (callT E tab) 50 Try.f50 (spec_l17Turned.c v0) = spec_l17Turned.t (fun b => some (spec_l17Turned.mk b)) spec_l17Turned.q3 v0 := by kernel_rfl
theorem spec_l17Turned.k3 (v0 : List (Int × Int)) (v1 : List (Int × Int)) (v2 : Int) : roundL E (callT E tab) 50 Try.f50 1 [.r, .r, .l, .r, .b] (vc (.d .fro (.sl (.pair (.int .i64) (.int .i64))) v0) :: nn 2 (vc (.d .deep (.sl (.pair (.int .i64) (.int .i64))) v1) :: vc (iL v2) :: nn 15 ([]))) = spec_l17Turned.t3 (fun b => some (spec_l17Turned.mk b)) spec_l17Turned.q3 v0 v1 v2 := by kernel_rfl
theorem spec_l17Turned.eq (v0 : List (Int × Int)) {b : (List (Int × Int))} (h : spec_l17Turned.t some spec_l17Turned.l3 v0 = some b) : spec_l17Turned v0 = some b := tOf_intro spec_l17Turned.un (fun _ => by kernel_rfl) (vlim_fn (callT_le E tab) rfl rfl rfl ((spec_l17Turned.k v0).trans ((by unfold spec_l17Turned.t; repeat' first | exact Sub.ret | exact Sub.none | exact Sub.loop | apply Sub.cond | (apply Sub.bind; intro _) : Sub spec_l17Turned.mk _ _) b h)))
theorem spec_l17Turned.eq3 (v0 : List (Int × Int)) (v1 : List (Int × Int)) (v2 : Int) {b : (List (Int × Int))} (h : spec_l17Turned.t3 some spec_l17Turned.l3 v0 v1 v2 = some b) : spec_l17Turned.l3 v0 v1 v2 = some b := tOf_intro spec_l17Turned.un (fun _ => by kernel_rfl) (loopAtL_step ((spec_l17Turned.k3 v0 v1 v2).trans ((by unfold spec_l17Turned.t3; repeat' first | exact Sub.ret | exact Sub.none | exact Sub.loop | apply Sub.cond | (apply Sub.bind; intro _) : Sub spec_l17Turned.mk _ _) b h)))
noncomputable def spec_l17All.q3 (v0 : Int) (v1 : Int) (v2 : Int) (v3 : Int) (v4 : List (Int × Int)) (v5 : Int) (v6 : Int) : Option R := loopAtL E (callT E tab) 89 Try.f89 1 [.r, .r, .l, .r, .b] (nn 2 (⟨(.box false), [iL v0, iL v1], false, false, false, 0, 0⟩ :: ⟨(.box false), [iL v2, iL v3], false, false, false, 0, 0⟩ :: nn 3 (vc (.d .fro (.sl (.pair (.int .i64) (.int .i64))) v4) :: vc (iL v5) :: vc (iL v6) :: nn 8 ([]))))
noncomputable def spec_l17All.l3 (v0 : Int) (v1 : Int) (v2 : Int) (v3 : Int) (v4 : List (Int × Int)) (v5 : Int) (v6 : Int) : Option (Int × Int) := tOf spec_l17All.mk (spec_l17All.q3 v0 v1 v2 v3 v4 v5 v6)
noncomputable def spec_l17All.t {γ : Type} (ret : (Int × Int) → Option γ) (lp3 : Int → Int → Int → Int → (List (Int × Int)) → Int → Int → Option γ) (v0 : List (Int × Int)) : Option γ :=
 (spec_l17One ).bind fun (r0 : Int × Int) =>
 lp3 ((0 : Int)) ((0 : Int)) (r0.fst) (r0.snd) (v0) ((↑v0.length : Int)) ((0 : Int))
noncomputable def spec_l17All.t3 {γ : Type} (ret : (Int × Int) → Option γ) (lp3 : Int → Int → Int → Int → (List (Int × Int)) → Int → Int → Option γ) (v0 : Int) (v1 : Int) (v2 : Int) (v3 : Int) (v4 : List (Int × Int)) (v5 : Int) (v6 : Int) : Option γ :=
 bif decide (v6 < v5) then
  bif decide ((0 : Int) ≤ v6) then
   bif decide (v6.toNat < v4.length) then
    (spec_l17Then (v2) (v3) ((v4.getD v6.toNat ((0 : Int), (0 : Int))).fst) ((v4.getD v6.toNat ((0 : Int), (0 : Int))).snd)).bind fun (r1 : Int × Int) =>
    lp3 (v0) (v1) (r1.fst) (r1.snd) (v4) (v5) (IntKind.i64.wrap (v6 + (1 : Int)))
   else
    none
  else
   none
 else
  ret (v2, v3)
theorem spec_l17All.k (v0 : List (Int × Int)) : topL E (callT E tab) 89 Try.f89 (spec_l17All.c v0) = spec_l17All.t (fun b => some (spec_l17All.mk b)) spec_l17All.q3 v0 := by kernel_rfl
theorem spec_l17All.k3 (v0 : Int) (v1 : Int) (v2 : Int) (v3 : Int) (v4 : List (Int × Int)) (v5 : Int) (v6 : Int) : roundL E (callT E tab) 89 Try.f89 1 [.r, .r, .l, .r, .b] (nn 2 (⟨(.box false), [iL v0, iL v1], false, false, false, 0, 0⟩ :: ⟨(.box false), [iL v2, iL v3], false, false, false, 0, 0⟩ :: nn 3 (vc (.d .fro (.sl (.pair (.int .i64) (.int .i64))) v4) :: vc (iL v5) :: vc (iL v6) :: nn 8 ([])))) = spec_l17All.t3 (fun b => some (spec_l17All.mk b)) spec_l17All.q3 v0 v1 v2 v3 v4 v5 v6 := by kernel_rfl
theorem spec_l17All.eq (v0 : List (Int × Int)) {b : Int × Int} (h : spec_l17All.t some spec_l17All.l3 v0 = some b) : spec_l17All v0 = some b := tOf_intro spec_l17All.un (fun _ => by kernel_rfl) (vlim_fn (callT_le E tab) rfl rfl rfl ((spec_l17All.k v0).trans ((by unfold spec_l17All.t; repeat' first | exact Sub.ret | exact Sub.none | exact Sub.loop | apply Sub.cond | (apply Sub.bind; intro _) : Sub spec_l17All.mk _ _) b h)))
theorem spec_l17All.eq3 (v0 : Int) (v1 : Int) (v2 : Int) (v3 : Int) (v4 : List (Int × Int)) (v5 : Int) (v6 : Int) {b : Int × Int} (h : spec_l17All.t3 some spec_l17All.l3 v0 v1 v2 v3 v4 v5 v6 = some b) : spec_l17All.l3 v0 v1 v2 v3 v4 v5 v6 = some b := tOf_intro spec_l17All.un (fun _ => by kernel_rfl) (loopAtL_step ((spec_l17All.k3 v0 v1 v2 v3 v4 v5 v6).trans ((by unfold spec_l17All.t3; repeat' first | exact Sub.ret | exact Sub.none | exact Sub.loop | apply Sub.cond | (apply Sub.bind; intro _) : Sub spec_l17All.mk _ _) b h)))
noncomputable def spec_l17One.t {γ : Type} (ret : (Int × Int) → Option γ) : Option γ :=
 ret ((1 : Int), (0 : Int))
theorem spec_l17One.k : topL E (callT E tab) 49 Try.f49 (spec_l17One.c) = spec_l17One.t (fun b => some (spec_l17One.mk b)) := by kernel_rfl
theorem spec_l17One.eq {b : Int × Int} (h : spec_l17One.t some = some b) : spec_l17One = some b := tOf_intro spec_l17One.un (fun _ => by kernel_rfl) (vlim_fn (callT_le E tab) rfl rfl rfl ((spec_l17One.k).trans ((by unfold spec_l17One.t; repeat' first | exact Sub.ret | exact Sub.none | exact Sub.loop | apply Sub.cond | (apply Sub.bind; intro _) : Sub spec_l17One.mk _ _) b h)))
noncomputable def spec_l17Then.t {γ : Type} (ret : (Int × Int) → Option γ) (v0 : Int) (v1 : Int) (v2 : Int) (v3 : Int) : Option γ :=
 ret ((IntKind.i64.wrap (v0 * v2)).tmod (1009 : Int), (IntKind.i64.wrap (IntKind.i64.wrap (v2 * v1) + v3)).tmod (1009 : Int))
theorem spec_l17Then.k (v0 : Int) (v1 : Int) (v2 : Int) (v3 : Int) : topL E (callT E tab) 51 Try.f51 (spec_l17Then.c v0 v1 v2 v3) = spec_l17Then.t (fun b => some (spec_l17Then.mk b)) v0 v1 v2 v3 := by kernel_rfl
theorem spec_l17Then.eq (v0 : Int) (v1 : Int) (v2 : Int) (v3 : Int) {b : Int × Int} (h : spec_l17Then.t some v0 v1 v2 v3 = some b) : spec_l17Then v0 v1 v2 v3 = some b := tOf_intro spec_l17Then.un (fun _ => by kernel_rfl) (vlim_fn (callT_le E tab) rfl rfl rfl ((spec_l17Then.k v0 v1 v2 v3).trans ((by unfold spec_l17Then.t; repeat' first | exact Sub.ret | exact Sub.none | exact Sub.loop | apply Sub.cond | (apply Sub.bind; intro _) : Sub spec_l17Then.mk _ _) b h)))
noncomputable def spec_l17Own.t {γ : Type} (ret : ((List (Int × Int)) × (List (Int × Int)) × (List (Int × Int)) × Int × Int) → Option γ) (v0 : List (Int × Int)) (v1 : List (Int × Int)) (v2 : List (Int × Int)) (v3 : Int) (v4 : Int) : Option γ :=
 bif decide (([] : List Int).length + v0.length ≤ (4294967296 : Nat)) then
  bif decide (([] : List Int).length + v1.length ≤ (4294967296 : Nat)) then
   bif decide (([] : List Int).length + v2.length ≤ (4294967296 : Nat)) then
    ret ([] ++ v0, [] ++ v1, [] ++ v2, v3, v4)
   else
    none
  else
   none
 else
  none
theorem spec_l17Own.k (v0 : List (Int × Int)) (v1 : List (Int × Int)) (v2 : List (Int × Int)) (v3 : Int) (v4 : Int) : topL E (callT E tab) 48 Try.f48 (spec_l17Own.c v0 v1 v2 v3 v4) = spec_l17Own.t (fun b => some (spec_l17Own.mk b)) v0 v1 v2 v3 v4 := by kernel_rfl
theorem spec_l17Own.eq (v0 : List (Int × Int)) (v1 : List (Int × Int)) (v2 : List (Int × Int)) (v3 : Int) (v4 : Int) {b : (List (Int × Int)) × (List (Int × Int)) × (List (Int × Int)) × Int × Int} (h : spec_l17Own.t some v0 v1 v2 v3 v4 = some b) : spec_l17Own v0 v1 v2 v3 v4 = some b := tOf_intro spec_l17Own.un (fun _ => by kernel_rfl) (vlim_fn (callT_le E tab) rfl rfl rfl ((spec_l17Own.k v0 v1 v2 v3 v4).trans ((by unfold spec_l17Own.t; repeat' first | exact Sub.ret | exact Sub.none | exact Sub.loop | apply Sub.cond | (apply Sub.bind; intro _) : Sub spec_l17Own.mk _ _) b h)))
noncomputable def impl_PopMap.t {γ : Type} (ret : ((List (Int × Int)) × (List (Int × Int)) × (List (Int × Int)) × Int × Int × Int × Int × Int × Bool) → Option γ) (v0 : List (Int × Int)) (v1 : List (Int × Int)) (v2 : List (Int × Int)) (v3 : Int) (v4 : Int) : Option γ :=
 (impl_GoodWindow (v0) (v1) (v2) (v3) (v4)).bind fun (r0 : Bool) =>
 bif !r0 then
  ret ([], [], [], (0 : Int), (0 : Int), (0 : Int), (0 : Int), (0 : Int), Bool.false)
 else
  bif IntKind.i64.wrap ((↑v0.length : Int) + (↑v2.length : Int)) == (0 : Int) then
   ret ([], [], [], (0 : Int), (0 : Int), (0 : Int), (0 : Int), (0 : Int), Bool.false)
  else
   (impl_Window_own (v0) (v1) (v2) (v3) (v4)).bind fun (r1 : (List (Int × Int)) × (List (Int × Int)) × (List (Int × Int)) × Int × Int) =>
   (xi07 (r1.fst) (r1.snd.fst) (r1.snd.snd.fst) (r1.snd.snd.snd.fst) (r1.snd.snd.snd.snd)).bind fun (r2 : Int × Int × Int × (List (Int × Int)) × (List (Int × Int)) × (List (Int × Int)) × Int × Int) =>
   (impl_Window_own (r2.snd.snd.snd.fst) (r2.snd.snd.snd.snd.fst) (r2.snd.snd.snd.snd.snd.fst) (r2.snd.snd.snd.snd.snd.snd.fst) (r2.snd.snd.snd.snd.snd.snd.snd)).bind fun (r3 : (List (Int × Int)) × (List (Int × Int)) × (List (Int × Int)) × Int × Int) =>
   ret (r3.fst, r3.snd.fst, r3.snd.snd.fst, r3.snd.snd.snd.fst, r3.snd.snd.snd.snd, r2.fst, r2.snd.fst, r2.snd.snd.fst, Bool.true)
theorem impl_PopMap.k (v0 : List (Int × Int)) (v1 : List (Int × Int)) (v2 : List (Int × Int)) (v3 : Int) (v4 : Int) : topL E (callT E tab) 13 Try.f13 (impl_PopMap.c v0 v1 v2 v3 v4) = impl_PopMap.t (fun b => some (impl_PopMap.mk b)) v0 v1 v2 v3 v4 := by kernel_rfl
theorem impl_PopMap.eq (v0 : List (Int × Int)) (v1 : List (Int × Int)) (v2 : List (Int × Int)) (v3 : Int) (v4 : Int) {b : (List (Int × Int)) × (List (Int × Int)) × (List (Int × Int)) × Int × Int × Int × Int × Int × Bool} (h : impl_PopMap.t some v0 v1 v2 v3 v4 = some b) : impl_PopMap v0 v1 v2 v3 v4 = some b := tOf_intro impl_PopMap.un (fun _ => by kernel_rfl) (vlim_fn (callT_le E tab) rfl rfl rfl ((impl_PopMap.k v0 v1 v2 v3 v4).trans ((by unfold impl_PopMap.t; repeat' first | exact Sub.ret | exact Sub.none | exact Sub.loop | apply Sub.cond | (apply Sub.bind; intro _) : Sub impl_PopMap.mk _ _) b h)))
noncomputable def impl_GoodWindow.t {γ : Type} (ret : (Bool) → Option γ) (v0 : List (Int × Int)) (v1 : List (Int × Int)) (v2 : List (Int × Int)) (v3 : Int) (v4 : Int) : Option γ :=
 (xi04 (v0)).bind fun (r0 : Bool) =>
 bif r0 then
  (xi04 (v2)).bind fun (r1 : Bool) =>
  bif r1 then
   bif decide (IntKind.i64.wrap ((↑v0.length : Int) + (↑v2.length : Int)) ≤ (60 : Int)) then
    (impl_sumsOf (v0)).bind fun (r2 : (List (Int × Int))) =>
    (xs06 (v1) (r2)).bind fun (r3 : Bool) =>
    bif r3 then
     (impl_composed (v2)).bind fun (r4 : Int × Int) =>
     ret (decide (v3 = r4.fst) && (decide (v4 = r4.snd) && Bool.true))
    else
     ret (Bool.false)
   else
    ret (Bool.false)
  else
   ret (Bool.false)
 else
  ret (Bool.false)
theorem impl_GoodWindow.k (v0 : List (Int × Int)) (v1 : List (Int × Int)) (v2 : List (Int × Int)) (v3 : Int) (v4 : Int) : topL E (callT E tab) 54 Try.f54 (impl_GoodWindow.c v0 v1 v2 v3 v4) = impl_GoodWindow.t (fun b => some (impl_GoodWindow.mk b)) v0 v1 v2 v3 v4 := by kernel_rfl
theorem impl_GoodWindow.eq (v0 : List (Int × Int)) (v1 : List (Int × Int)) (v2 : List (Int × Int)) (v3 : Int) (v4 : Int) {b : Bool} (h : impl_GoodWindow.t some v0 v1 v2 v3 v4 = some b) : impl_GoodWindow v0 v1 v2 v3 v4 = some b := tOf_intro impl_GoodWindow.un (fun _ => by kernel_rfl) (vlim_fn (callT_le E tab) rfl rfl rfl ((impl_GoodWindow.k v0 v1 v2 v3 v4).trans ((by unfold impl_GoodWindow.t; repeat' first | exact Sub.ret | exact Sub.none | exact Sub.loop | apply Sub.cond | (apply Sub.bind; intro _) : Sub impl_GoodWindow.mk _ _) b h)))
noncomputable def xi04.t {γ : Type} (ret : (Bool) → Option γ) (v0 : List (Int × Int)) : Option γ :=
 (xs00 (v0)).bind fun (r0 : Bool) =>
 ret (!r0)
theorem xi04.k (v0 : List (Int × Int)) : topL E (callT E tab) 90 Try.f90 (xi04.c v0) = xi04.t (fun b => some (xi04.mk b)) v0 := by kernel_rfl
theorem xi04.eq (v0 : List (Int × Int)) {b : Bool} (h : xi04.t some v0 = some b) : xi04 v0 = some b := tOf_intro xi04.un (fun _ => by kernel_rfl) (vlim_fn (callT_le E tab) rfl rfl rfl ((xi04.k v0).trans ((by unfold xi04.t; repeat' first | exact Sub.ret | exact Sub.none | exact Sub.loop | apply Sub.cond | (apply Sub.bind; intro _) : Sub xi04.mk _ _) b h)))
noncomputable def xs00.t {γ : Type} (ret : (Bool) → Option γ) (v0 : List (Int × Int)) : Option γ :=
 (xs01 (v0)).bind fun (r0 : Int) =>
 ret (decide (r0 ≥ (0 : Int)))
theorem xs00.k (v0 : List (Int × Int)) : topL E (callT E tab) 108 Try.f108 (xs00.c v0) = xs00.t (fun b => some (xs00.mk b)) v0 := by kernel_rfl
theorem xs00.eq (v0 : List (Int × Int)) {b : Bool} (h : xs00.t some v0 = some b) : xs00 v0 = some b := tOf_intro xs00.un (fun _ => by kernel_rfl) (vlim_fn (callT_le E tab) rfl rfl rfl ((xs00.k v0).trans ((by unfold xs00.t; repeat' first | exact Sub.ret | exact Sub.none | exact Sub.loop | apply Sub.cond | (apply Sub.bind; intro _) : Sub xs00.mk _ _) b h)))
noncomputable def xs01.q2 (v0 : List (Int × Int)) (v1 : Int) (v2 : Int) : Option R := loopAtL E (callT E tab) 112 Try.f112 2 [.r, .l, .r, .b] (vc (.d .fro (.sl (.pair (.int .i64) (.int .i64))) v0) :: vc (.fn 109 [.rp [.fn 91 []] 0]) :: nn 5 (vc (iL v1) :: vc (iL v2) :: nn 10 ([])))
noncomputable def xs01.l2 (v0 : List (Int × Int)) (v1 : Int) (v2 : Int) : Option (Int) := tOf xs01.mk (xs01.q2 v0 v1 v2)
noncomputable def xs01.t {γ : Type} (ret : (Int) → Option γ) (lp2 : (List (Int × Int)) → Int → Int → Option γ) (v0 : List (Int × Int)) : Option γ :=
 lp2 (v0) ((↑v0.length : Int)) ((0 : Int))
noncomputable def xs01.t2 {γ : Type} (ret : (Int) → Option γ) (lp2 : (List (Int × Int)) → Int → Int → Option γ) (v0 : List (Int × Int)) (v1 : Int) (v2 : Int) : Option γ :=
 bif decide (v2 < v1) then
  bif decide ((0 : Int) ≤ v2) then
   bif decide (v2.toNat < v0.length) then
    (xi03 ((v0.getD v2.toNat ((0 : Int), (0 : Int))).fst) ((v0.getD v2.toNat ((0 : Int), (0 : Int))).snd)).bind fun (r0 : Bool) =>
    bif r0 then
     ret (v2)
    else
     lp2 (v0) (v1) (IntKind.i64.wrap (v2 + (1 : Int)))
   else
    none
  else
   none
 else
  ret ((-1 : Int))
theorem xs01.k (v0 : List (Int × Int)) : topL E (callT E tab) 112 Try.f112 (xs01.c v0) = xs01.t (fun b => some (xs01.mk b)) xs01.q2 v0 := by kernel_rfl
theorem xs01.k2 (v0 : List (Int × Int)) (v1 : Int) (v2 : Int) : roundL E (callT E tab) 112 Try.f112 2 [.r, .l, .r, .b] (vc (.d .fro (.sl (.pair (.int .i64) (.int .i64))) v0) :: vc (.fn 109 [.rp [.fn 91 []] 0]) :: nn 5 (vc (iL v1) :: vc (iL v2) :: nn 10 ([]))) = xs01.t2 (fun b => some (xs01.mk b)) xs01.q2 v0 v1 v2 := by kernel_rfl
theorem xs01.eq (v0 : List (Int × Int)) {b : Int} (h : xs01.t some xs01.l2 v0 = some b) : xs01 v0 = some b := tOf_intro xs01.un (fun _ => by kernel_rfl) (vlim_fn (callT_le E tab) rfl rfl rfl ((xs01.k v0).trans ((by unfold xs01.t; repeat' first | exact Sub.ret | exact Sub.none | exact Sub.loop | apply Sub.cond | (apply Sub.bind; intro _) : Sub xs01.mk _ _) b h)))
theorem xs01.eq2 (v0 : List (Int × Int)) (v1 : Int) (v2 : Int) {b : Int} (h : xs01.t2 some xs01.l2 v0 v1 v2 = some b) : xs01.l2 v0 v1 v2 = some b := tOf_intro xs01.un (fun _ => by kernel_rfl) (loopAtL_step ((xs01.k2 v0 v1 v2).trans ((by unfold xs01.t2; repeat' first | exact Sub.ret | exact Sub.none | exact Sub.loop | apply Sub.cond | (apply Sub.bind; intro _) : Sub xs01.mk _ _) b h)))
end GoV

/- Equations of the program's functions (printed by wip/tools/emit.py). -/
namespace GoV
open Go Go.Proofs
set_option maxRecDepth 100000

noncomputable def xi03.t {γ : Type} (ret : (Bool) → Option γ) (v0 : Int) (v1 : Int) : Option γ :=
 (impl_GoodMap (v0) (v1)).bind fun (r0 : Bool) =>
 ret (!r0)
theorem xi03.k (v0 : Int) (v1 : Int) : topL E (callT E tab) 109 Try.f109 (xi03.c v0 v1) = xi03.t (fun b => some (xi03.mk b)) v0 v1 := by kernel_rfl
theorem xi03.eq (v0 : Int) (v1 : Int) {b : Bool} (h : xi03.t some v0 v1 = some b) : xi03 v0 v1 = some b := tOf_intro xi03.un (fun _ => by kernel_rfl) (vlim_fn (callT_le E tab) rfl rfl rfl ((xi03.k v0 v1).trans ((by unfold xi03.t; repeat' first | exact Sub.ret | exact Sub.none | exact Sub.loop | apply Sub.cond | (apply Sub.bind; intro _) : Sub xi03.mk _ _) b h)))
noncomputable def impl_GoodMap.t {γ : Type} (ret : (Bool) → Option γ) (v0 : Int) (v1 : Int) : Option γ :=
 (impl_isRest (v0)).bind fun (r0 : Bool) =>
 bif r0 then
  (impl_isRest (v1)).bind fun (r1 : Bool) =>
  ret (r1)
 else
  ret (Bool.false)
theorem impl_GoodMap.k (v0 : Int) (v1 : Int) : topL E (callT E tab) 91 Try.f91 (impl_GoodMap.c v0 v1) = impl_GoodMap.t (fun b => some (impl_GoodMap.mk b)) v0 v1 := by kernel_rfl
theorem impl_GoodMap.eq (v0 : Int) (v1 : Int) {b : Bool} (h : impl_GoodMap.t some v0 v1 = some b) : impl_GoodMap v0 v1 = some b := tOf_intro impl_GoodMap.un (fun _ => by kernel_rfl) (vlim_fn (callT_le E tab) rfl rfl rfl ((impl_GoodMap.k v0 v1).trans ((by unfold impl_GoodMap.t; repeat' first | exact Sub.ret | exact Sub.none | exact Sub.loop | apply Sub.cond | (apply Sub.bind; intro _) : Sub impl_GoodMap.mk _ _) b h)))
noncomputable def impl_isRest.t {γ : Type} (ret : (Bool) → Option γ) (v0 : Int) : Option γ :=
 (impl_within (v0) ((0 : Int)) ((1008 : Int))).bind fun (r0 : Bool) =>
 ret (r0)
theorem impl_isRest.k (v0 : Int) : topL E (callT E tab) 110 Try.f110 (impl_isRest.c v0) = impl_isRest.t (fun b => some (impl_isRest.mk b)) v0 := by kernel_rfl
theorem impl_isRest.eq (v0 : Int) {b : Bool} (h : impl_isRest.t some v0 = some b) : impl_isRest v0 = some b := tOf_intro impl_isRest.un (fun _ => by kernel_rfl) (vlim_fn (callT_le E tab) rfl rfl rfl ((impl_isRest.k v0).trans ((by unfold impl_isRest.t; repeat' first | exact Sub.ret | exact Sub.none | exact Sub.loop | apply Sub.cond | (apply Sub.bind; intro _) : Sub impl_isRest.mk _ _) b h)))
noncomputable def impl_within.t {γ : Type} (ret : (Bool) → Option γ) (v0 : Int) (v1 : Int) (v2 : Int) : Option γ :=
 bif decide (v1 ≤ v0) then
  ret (decide (v0 ≤ v2))
 else
  ret (Bool.false)
theorem impl_within.k (v0 : Int) (v1 : Int) (v2 : Int) : topL E (callT E tab) 80 Try.f80 (impl_within.c v0 v1 v2) = impl_within.t (fun b => some (impl_within.mk b)) v0 v1 v2 := by kernel_rfl
theorem impl_within.eq (v0 : Int) (v1 : Int) (v2 : Int) {b : Bool} (h : impl_within.t some v0 v1 v2 = some b) : impl_within v0 v1 v2 = some b := tOf_intro impl_within.un (fun _ => by kernel_rfl) (vlim_fn (callT_le E tab) rfl rfl rfl ((impl_within.k v0 v1 v2).trans ((by unfold impl_within.t; repeat' first | exact Sub.ret | exact Sub.none | exact Sub.loop | apply Sub.cond | (apply Sub.bind; intro _) : Sub impl_within.mk _ _) b h)))
noncomputable def impl_sumsOf.q4 (v0 : List (Int × Int)) (v1 : Int) (v2 : Int) (v3 : List (Int × Int)) (v4 : Int) (v5 : Int) : Option R := loopAtL E (callT E tab) 93 Try.f93 1 [.r, .r, .r, .l, .r, .b] (nn 3 (vc (.d .deep (.sl (.pair (.int .i64) (.int .i64))) v0) :: ⟨(.box false), [iL v1, iL v2], false, false, false, 0, 0⟩ :: nn 3 (vc (.d .fro (.sl (.pair (.int .i64) (.int .i64))) v3) :: vc (iL v4) :: vc (iL v5) :: nn 12 ([]))))
noncomputable def impl_sumsOf.l4 (v0 : List (Int × Int)) (v1 : Int) (v2 : Int) (v3 : List (Int × Int)) (v4 : Int) (v5 : Int) : Option ((List (Int × Int))) := tOf impl_sumsOf.mk (impl_sumsOf.q4 v0 v1 v2 v3 v4 v5)
noncomputable def impl_sumsOf.t {γ : Type} (ret : ((List (Int × Int))) → Option γ) (lp4 : (List (Int × Int)) → Int → Int → (List (Int × Int)) → Int → Int → Option γ) (v0 : List (Int × Int)) : Option γ :=
 (impl_same ).bind fun (r0 : Int × Int) =>
 lp4 ([]) (r0.fst) (r0.snd) (v0) ((↑v0.length : Int)) ((0 : Int))
noncomputable def impl_sumsOf.t4 {γ : Type} (ret : ((List (Int × Int))) → Option γ) (lp4 : (List (Int × Int)) → Int → Int → (List (Int × Int)) → Int → Int → Option γ) (v0 : List (Int × Int)) (v1 : Int) (v2 : Int) (v3 : List (Int × Int)) (v4 : Int) (v5 : Int) : Option γ :=
 bif decide (v5 < v4) then
  bif decide ((0 : Int) ≤ v5) then
   bif decide (v5.toNat < v3.length) then
    (impl_Map_then ((v3.getD v5.toNat ((0 : Int), (0 : Int))).fst) ((v3.getD v5.toNat ((0 : Int), (0 : Int))).snd) (v1) (v2)).bind fun (r1 : Int × Int) =>
    bif decide (v0.length + [(r1.fst, r1.snd)].length ≤ (4294967296 : Nat)) then
     lp4 (v0 ++ [(r1.fst, r1.snd)]) (r1.fst) (r1.snd) (v3) (v4) (IntKind.i64.wrap (v5 + (1 : Int)))
    else
     none
   else
    none
  else
   none
 else
  ret (v0)
theorem impl_sumsOf.k (v0 : List (Int × Int)) : topL E (callT E tab) 93 Try.f93 (impl_sumsOf.c v0) = impl_sumsOf.t (fun b => some (impl_sumsOf.mk b)) impl_sumsOf.q4 v0 := by kernel_rfl
theorem impl_sumsOf.k4 (v0 : List (Int × Int)) (v1 : Int) (v2 : Int) (v3 : List (Int × Int)) (v4 : Int) (v5 : Int) : roundL E (callT E tab) 93 Try.f93 1 [.r, .r, .r, .l, .r, .b] (nn 3 (vc (.d .deep (.sl (.pair (.int .i64) (.int .i64))) v0) :: ⟨(.box false), [iL v1, iL v2], false, false, false, 0, 0⟩ :: nn 3 (vc (.d .fro (.sl (.pair (.int .i64) (.int .i64))) v3) :: vc (iL v4) :: vc (iL v5) :: nn 12 ([])))) = impl_sumsOf.t4 (fun b => some (impl_sumsOf.mk b)) impl_sumsOf.q4 v0 v1 v2 v3 v4 v5 := by kernel_rfl
theorem impl_sumsOf.eq (v0 : List (Int × Int)) {b : (List (Int × Int))} (h : impl_sumsOf.t some impl_sumsOf.l4 v0 = some b) : impl_sumsOf v0 = some b := tOf_intro impl_sumsOf.un (fun _ => by kernel_rfl) (vlim_fn (callT_le E tab) rfl rfl rfl ((impl_sumsOf.k v0).trans ((by unfold impl_sumsOf.t; repeat' first | exact Sub.ret | exact Sub.none | exact Sub.loop | apply Sub.cond | (apply Sub.bind; intro _) : Sub impl_sumsOf.mk _ _) b h)))
theorem impl_sumsOf.eq4 (v0 : List (Int × Int)) (v1 : Int) (v2 : Int) (v3 : List (Int × Int)) (v4 : Int) (v5 : Int) {b : (List (Int × Int))} (h : impl_sumsOf.t4 some impl_sumsOf.l4 v0 v1 v2 v3 v4 v5 = some b) : impl_sumsOf.l4 v0 v1 v2 v3 v4 v5 = some b := tOf_intro impl_sumsOf.un (fun _ => by kernel_rfl) (loopAtL_step ((impl_sumsOf.k4 v0 v1 v2 v3 v4 v5).trans ((by unfold impl_sumsOf.t4; repeat' first | exact Sub.ret | exact Sub.none | exact Sub.loop | apply Sub.cond | (apply Sub.bind; intro _) : Sub impl_sumsOf.mk _ _) b h)))
noncomputable def impl_same.t {γ : Type} (ret : (Int × Int) → Option γ) : Option γ :=
 ret ((1 : Int), (0 : Int))
theorem impl_same.k : topL E (callT E tab) 97 Try.f97 (impl_same.c) = impl_same.t (fun b => some (impl_same.mk b)) := by kernel_rfl
theorem impl_same.eq {b : Int × Int} (h : impl_same.t some = some b) : impl_same = some b := tOf_intro impl_same.un (fun _ => by kernel_rfl) (vlim_fn (callT_le E tab) rfl rfl rfl ((impl_same.k).trans ((by unfold impl_same.t; repeat' first | exact Sub.ret | exact Sub.none | exact Sub.loop | apply Sub.cond | (apply Sub.bind; intro _) : Sub impl_same.mk _ _) b h)))
noncomputable def impl_Map_then.t {γ : Type} (ret : (Int × Int) → Option γ) (v0 : Int) (v1 : Int) (v2 : Int) (v3 : Int) : Option γ :=
 ret ((IntKind.i64.wrap (v2 * v0)).tmod (1009 : Int), (IntKind.i64.wrap (IntKind.i64.wrap (v2 * v1) + v3)).tmod (1009 : Int))
theorem impl_Map_then.k (v0 : Int) (v1 : Int) (v2 : Int) (v3 : Int) : topL E (callT E tab) 111 Try.f111 (impl_Map_then.c v0 v1 v2 v3) = impl_Map_then.t (fun b => some (impl_Map_then.mk b)) v0 v1 v2 v3 := by kernel_rfl
theorem impl_Map_then.eq (v0 : Int) (v1 : Int) (v2 : Int) (v3 : Int) {b : Int × Int} (h : impl_Map_then.t some v0 v1 v2 v3 = some b) : impl_Map_then v0 v1 v2 v3 = some b := tOf_intro impl_Map_then.un (fun _ => by kernel_rfl) (vlim_fn (callT_le E tab) rfl rfl rfl ((impl_Map_then.k v0 v1 v2 v3).trans ((by unfold impl_Map_then.t; repeat' first | exact Sub.ret | exact Sub.none | exact Sub.loop | apply Sub.cond | (apply Sub.bind; intro _) : Sub impl_Map_then.mk _ _) b h)))
noncomputable def xs06.q4 (v0 : List (Int × Int)) (v1 : List (Int × Int)) (v2 : Int) (v3 : Int) : Option R := loopAtL E (callT E tab) 92 Try.f92 2 [.r, .r, .l, .r, .b] (vc (.d .fro (.sl (.pair (.int .i64) (.int .i64))) v0) :: vc (.d .fro (.sl (.pair (.int .i64) (.int .i64))) v1) :: nn 10 (vc (iL v2) :: vc (iL v3) :: nn 12 ([])))
noncomputable def xs06.l4 (v0 : List (Int × Int)) (v1 : List (Int × Int)) (v2 : Int) (v3 : Int) : Option (Bool) := tOf xs06.mk (xs06.q4 v0 v1 v2 v3)
noncomputable def xs06.t {γ : Type} (ret : (Bool) → Option γ) (lp4 : (List (Int × Int)) → (List (Int × Int)) → Int → Int → Option γ) (v0 : List (Int × Int)) (v1 : List (Int × Int)) : Option γ :=
 bif (↑v0.length : Int) != (↑v1.length : Int) then
  ret (Bool.false)
 else
  lp4 (v0) (v1) ((↑v0.length : Int)) ((0 : Int))
noncomputable def xs06.t4 {γ : Type} (ret : (Bool) → Option γ) (lp4 : (List (Int × Int)) → (List (Int × Int)) → Int → Int → Option γ) (v0 : List (Int × Int)) (v1 : List (Int × Int)) (v2 : Int) (v3 : Int) : Option γ :=
 bif decide (v3 < v2) then
  bif decide ((0 : Int) ≤ v3) then
   bif decide (v3.toNat < v0.length) then
    bif decide ((0 : Int) ≤ v3) then
     bif decide (v3.toNat < v1.length) then
      bif !(decide ((v0.getD v3.toNat ((0 : Int), (0 : Int))).fst = (v1.getD v3.toNat ((0 : Int), (0 : Int))).fst) &&     (decide ((v0.getD v3.toNat ((0 : Int), (0 : Int))).snd = (v1.getD v3.toNat ((0 : Int), (0 : Int))).snd) &&       Bool.true)) then
       ret (Bool.false)
      else
       lp4 (v0) (v1) (v2) (IntKind.i64.wrap (v3 + (1 : Int)))
     else
      none
    else
     none
   else
    none
  else
   none
 else
  ret (Bool.true)
theorem xs06.k (v0 : List (Int × Int)) (v1 : List (Int × Int)) : topL E (callT E tab) 92 Try.f92 (xs06.c v0 v1) = xs06.t (fun b => some (xs06.mk b)) xs06.q4 v0 v1 := by kernel_rfl
theorem xs06.k4 (v0 : List (Int × Int)) (v1 : List (Int × Int)) (v2 : Int) (v3 : Int) : roundL E (callT E tab) 92 Try.f92 2 [.r, .r, .l, .r, .b] (vc (.d .fro (.sl (.pair (.int .i64) (.int .i64))) v0) :: vc (.d .fro (.sl (.pair (.int .i64) (.int .i64))) v1) :: nn 10 (vc (iL v2) :: vc (iL v3) :: nn 12 ([]))) = xs06.t4 (fun b => some (xs06.mk b)) xs06.q4 v0 v1 v2 v3 := by kernel_rfl
theorem xs06.eq (v0 : List (Int × Int)) (v1 : List (Int × Int)) {b : Bool} (h : xs06.t some xs06.l4 v0 v1 = some b) : xs06 v0 v1 = some b := tOf_intro xs06.un (fun _ => by kernel_rfl) (vlim_fn (callT_le E tab) rfl rfl rfl ((xs06.k v0 v1).trans ((by unfold xs06.t; repeat' first | exact Sub.ret | exact Sub.none | exact Sub.loop | apply Sub.cond | (apply Sub.bind; intro _) : Sub xs06.mk _ _) b h)))
theorem xs06.eq4 (v0 : List (Int × Int)) (v1 : List (Int × Int)) (v2 : Int) (v3 : Int) {b : Bool} (h : xs06.t4 some xs06.l4 v0 v1 v2 v3 = some b) : xs06.l4 v0 v1 v2 v3 = some b := tOf_intro xs06.un (fun _ => by kernel_rfl) (loopAtL_step ((xs06.k4 v0 v1 v2 v3).trans ((by unfold xs06.t4; repeat' first | exact Sub.ret | exact Sub.none | exact Sub.loop | apply Sub.cond | (apply Sub.bind; intro _) : Sub xs06.mk _ _) b h)))
noncomputable def impl_composed.q3 (v0 : Int) (v1 : Int) (v2 : Int) (v3 : Int) (v4 : List (Int × Int)) (v5 : Int) (v6 : Int) : Option R := loopAtL E (callT E tab) 94 Try.f94 1 [.r, .r, .l, .r, .b] (nn 2 (⟨(.box false), [iL v0, iL v1], false, false, false, 0, 0⟩ :: ⟨(.box false), [iL v2, iL v3], false, false, false, 0, 0⟩ :: nn 3 (vc (.d .fro (.sl (.pair (.int .i64) (.int .i64))) v4) :: vc (iL v5) :: vc (iL v6) :: nn 8 ([]))))
noncomputable def impl_composed.l3 (v0 : Int) (v1 : Int) (v2 : Int) (v3 : Int) (v4 : List (Int × Int)) (v5 : Int) (v6 : Int) : Option (Int × Int) := tOf impl_composed.mk (impl_composed.q3 v0 v1 v2 v3 v4 v5 v6)
noncomputable def impl_composed.t {γ : Type} (ret : (Int × Int) → Option γ) (lp3 : Int → Int → Int → Int → (List (Int × Int)) → Int → Int → Option γ) (v0 : List (Int × Int)) : Option γ :=
 (impl_same ).bind fun (r0 : Int × Int) =>
 lp3 ((0 : Int)) ((0 : Int)) (r0.fst) (r0.snd) (v0) ((↑v0.length : Int)) ((0 : Int))
noncomputable def impl_composed.t3 {γ : Type} (ret : (Int × Int) → Option γ) (lp3 : Int → Int → Int → Int → (List (Int × Int)) → Int → Int → Option γ) (v0 : Int) (v1 : Int) (v2 : Int) (v3 : Int) (v4 : List (Int × Int)) (v5 : Int) (v6 : Int) : Option γ :=
 bif decide (v6 < v5) then
  bif decide ((0 : Int) ≤ v6) then
   bif decide (v6.toNat < v4.length) then
    (impl_Map_then (v2) (v3) ((v4.getD v6.toNat ((0 : Int), (0 : Int))).fst) ((v4.getD v6.toNat ((0 : Int), (0 : Int))).snd)).bind fun (r1 : Int × Int) =>
    lp3 (v0) (v1) (r1.fst) (r1.snd) (v4) (v5) (IntKind.i64.wrap (v6 + (1 : Int)))
   else
    none
  else
   none
 else
  ret (v2, v3)
theorem impl_composed.k (v0 : List (Int × Int)) : topL E (callT E tab) 94 Try.f94 (impl_composed.c v0) = impl_composed.t (fun b => some (impl_composed.mk b)) impl_composed.q3 v0 := by kernel_rfl
theorem impl_composed.k3 (v0 : Int) (v1 : Int) (v2 : Int) (v3 : Int) (v4 : List (Int × Int)) (v5 : Int) (v6 : Int) : roundL E (callT E tab) 94 Try.f94 1 [.r, .r, .l, .r, .b] (nn 2 (⟨(.box false), [iL v0, iL v1], false, false, false, 0, 0⟩ :: ⟨(.box false), [iL v2, iL v3], false, false, false, 0, 0⟩ :: nn 3 (vc (.d .fro (.sl (.pair (.int .i64) (.int .i64))) v4) :: vc (iL v5) :: vc (iL v6) :: nn 8 ([])))) = impl_composed.t3 (fun b => some (impl_composed.mk b)) impl_composed.q3 v0 v1 v2 v3 v4 v5 v6 := by kernel_rfl
theorem impl_composed.eq (v0 : List (Int × Int)) {b : Int × Int} (h : impl_composed.t some impl_composed.l3 v0 = some b) : impl_composed v0 = some b := tOf_intro impl_composed.un (fun _ => by kernel_rfl) (vlim_fn (callT_le E tab) rfl rfl rfl ((impl_composed.k v0).trans ((by unfold impl_composed.t; repeat' first | exact Sub.ret | exact Sub.none | exact Sub.loop | apply Sub.cond | (apply Sub.bind; intro _) : Sub impl_composed.mk _ _) b h)))
theorem impl_composed.eq3 (v0 : Int) (v1 : Int) (v2 : Int) (v3 : Int) (v4 : List (Int × Int)) (v5 : Int) (v6 : Int) {b : Int × Int} (h : impl_composed.t3 some impl_composed.l3 v0 v1 v2 v3 v4 v5 v6 = some b) : impl_composed.l3 v0 v1 v2 v3 v4 v5 v6 = some b := tOf_intro impl_composed.un (fun _ => by kernel_rfl) (loopAtL_step ((impl_composed.k3 v0 v1 v2 v3 v4 v5 v6).trans ((by unfold impl_composed.t3; repeat' first | exact Sub.ret | exact Sub.none | exact Sub.loop | apply Sub.cond | (apply Sub.bind; intro _) : Sub impl_composed.mk _ _) b h)))
noncomputable def impl_Window_own.t {γ : Type} (ret : ((List (Int × Int)) × (List (Int × Int)) × (List (Int × Int)) × Int × Int) → Option γ) (v0 : List (Int × Int)) (v1 : List (Int × Int)) (v2 : List (Int × Int)) (v3 : Int) (v4 : Int) : Option γ :=
 (xs05 (v0)).bind fun (r0 : (List (Int × Int))) =>
 (xs05 (v1)).bind fun (r1 : (List (Int × Int))) =>
 (xs05 (v2)).bind fun (r2 : (List (Int × Int))) =>
 ret (r0, r1, r2, v3, v4)
theorem impl_Window_own.k (v0 : List (Int × Int)) (v1 : List (Int × Int)) (v2 : List (Int × Int)) (v3 : Int) (v4 : Int) : topL E (callT E tab) 55 Try.f55 (impl_Window_own.c v0 v1 v2 v3 v4) = impl_Window_own.t (fun b => some (impl_Window_own.mk b)) v0 v1 v2 v3 v4 := by kernel_rfl
theorem impl_Window_own.eq (v0 : List (Int × Int)) (v1 : List (Int × Int)) (v2 : List (Int × Int)) (v3 : Int) (v4 : Int) {b : (List (Int × Int)) × (List (Int × Int)) × (List (Int × Int)) × Int × Int} (h : impl_Window_own.t some v0 v1 v2 v3 v4 = some b) : impl_Window_own v0 v1 v2 v3 v4 = some b := tOf_intro impl_Window_own.un (fun _ => by kernel_rfl) (vlim_fn (callT_le E tab) rfl rfl rfl ((impl_Window_own.k v0 v1 v2 v3 v4).trans ((by unfold impl_Window_own.t; repeat' first | exact Sub.ret | exact Sub.none | exact Sub.loop | apply Sub.cond | (apply Sub.bind; intro _) : Sub impl_Window_own.mk _ _) b h)))
noncomputable def xs05.t {γ : Type} (ret : ((List (Int × Int))) → Option γ) (v0 : List (Int × Int)) : Option γ :=
 bif decide (v0.length ≤ (4294967296 : Nat)) then
  ret (v0)
 else
  none
theorem xs05.k (v0 : List (Int × Int)) : extOf 95 (xs05.c v0) = xs05.t (fun b => some (xs05.mk b)) v0 := by kernel_rfl
theorem xs05.eq (v0 : List (Int × Int)) {b : (List (Int × Int))} (h : xs05.t some v0 = some b) : xs05 v0 = some b := tOf_intro xs05.un (fun _ => by kernel_rfl) (vlim_ext (g := extOf 95) rfl ((xs05.k v0).trans ((by unfold xs05.t; repeat' first | exact Sub.ret | exact Sub.none | exact Sub.loop | apply Sub.cond | (apply Sub.bind; intro _) : Sub xs05.mk _ _) b h)))
noncomputable def xi07.t {γ : Type} (ret : (Int × Int × Int × (List (Int × Int)) × (List (Int × Int)) × (List (Int × Int)) × Int × Int) → Option γ) (v0 : List (Int × Int)) (v1 : List (Int × Int)) (v2 : List (Int × Int)) (v3 : Int) (v4 : Int) : Option γ :=
 bif (↑v0.length : Int) == (0 : Int) then
  (xs02 (v2)).bind fun (r0 : (List (Int × Int))) =>
  (impl_sumsOf (r0)).bind fun (r1 : (List (Int × Int))) =>
  (impl_same ).bind fun (r2 : Int × Int) =>
  bif decide ((0 : Int) ≤ IntKind.i64.wrap ((↑r0.length : Int) - (1 : Int))) then
   bif decide ((IntKind.i64.wrap ((↑r0.length : Int) - (1 : Int))).toNat < r0.length) then
    bif decide ((IntKind.i64.wrap ((↑r0.length : Int) - (1 : Int))).toNat < r0.length) then
     bif decide (Option.none.getD (0 : Int) ≤ IntKind.i64.wrap ((↑r0.length : Int) - (1 : Int))) then
      bif decide (IntKind.i64.wrap ((↑r0.length : Int) - (1 : Int)) ≤ (↑r0.length : Int)) then
       bif decide (Option.none.getD (0 : Int) ≤ IntKind.i64.wrap ((↑r0.length : Int) - (1 : Int))) then
        bif decide (IntKind.i64.wrap ((↑r0.length : Int) - (1 : Int)) ≤ (↑r1.length : Int)) then
         ret ((r0.getD (IntKind.i64.wrap ((↑r0.length : Int) - (1 : Int))).toNat ((0 : Int), (0 : Int))).fst, (r0.getD (IntKind.i64.wrap ((↑r0.length : Int) - (1 : Int))).toNat ((0 : Int), (0 : Int))).snd, (↑v2.length : Int), List.take (IntKind.i64.wrap ((↑r0.length : Int) - (1 : Int)) - Option.none.getD (0 : Int)).toNat   (List.drop (Option.none.getD (0 : Int)).toNat r0), List.take (IntKind.i64.wrap ((↑r0.length : Int) - (1 : Int)) - Option.none.getD (0 : Int)).toNat   (List.drop (Option.none.getD (0 : Int)).toNat r1), [], r2.fst, r2.snd)
        else
         none
       else
        none
      else
       none
     else
      none
    else
     none
   else
    none
  else
   none
 else
  bif decide ((0 : Int) ≤ IntKind.i64.wrap ((↑v0.length : Int) - (1 : Int))) then
   bif decide ((IntKind.i64.wrap ((↑v0.length : Int) - (1 : Int))).toNat < v0.length) then
    bif decide ((IntKind.i64.wrap ((↑v0.length : Int) - (1 : Int))).toNat < v0.length) then
     bif decide (Option.none.getD (0 : Int) ≤ IntKind.i64.wrap ((↑v0.length : Int) - (1 : Int))) then
      bif decide (IntKind.i64.wrap ((↑v0.length : Int) - (1 : Int)) ≤ (↑v0.length : Int)) then
       bif decide (Option.none.getD (0 : Int) ≤ IntKind.i64.wrap ((↑v0.length : Int) - (1 : Int))) then
        bif decide (IntKind.i64.wrap ((↑v0.length : Int) - (1 : Int)) ≤ (↑v1.length : Int)) then
         ret ((v0.getD (IntKind.i64.wrap ((↑v0.length : Int) - (1 : Int))).toNat ((0 : Int), (0 : Int))).fst, (v0.getD (IntKind.i64.wrap ((↑v0.length : Int) - (1 : Int))).toNat ((0 : Int), (0 : Int))).snd, (0 : Int), List.take (IntKind.i64.wrap ((↑v0.length : Int) - (1 : Int)) - Option.none.getD (0 : Int)).toNat   (List.drop (Option.none.getD (0 : Int)).toNat v0), List.take (IntKind.i64.wrap ((↑v0.length : Int) - (1 : Int)) - Option.none.getD (0 : Int)).toNat   (List.drop (Option.none.getD (0 : Int)).toNat v1), v2, v3, v4)
        else
         none
       else
        none
      else
       none
     else
      none
    else
     none
   else
    none
  else
   none
theorem xi07.k (v0 : List (Int × Int)) (v1 : List (Int × Int)) (v2 : List (Int × Int)) (v3 : Int) (v4 : Int) : topL E (callT E tab) 56 Try.f56 (xi07.c v0 v1 v2 v3 v4) = xi07.t (fun b => some (xi07.mk b)) v0 v1 v2 v3 v4 := by kernel_rfl
theorem xi07.eq (v0 : List (Int × Int)) (v1 : List (Int × Int)) (v2 : List (Int × Int)) (v3 : Int) (v4 : Int) {b : Int × Int × Int × (List (Int × Int)) × (List (Int × Int)) × (List (Int × Int)) × Int × Int} (h : xi07.t some v0 v1 v2 v3 v4 = some b) : xi07 v0 v1 v2 v3 v4 = some b := tOf_intro xi07.un (fun _ => by kernel_rfl) (vlim_fn (callT_le E tab) rfl rfl rfl ((xi07.k v0 v1 v2 v3 v4).trans ((by unfold xi07.t; repeat' first | exact Sub.ret | exact Sub.none | exact Sub.loop | apply Sub.cond | (apply Sub.bind; intro _) : Sub xi07.mk _ _) b h)))
noncomputable def xs02.q1 (v0 : List (Int × Int)) (v1 : Int) (v2 : Int) : Option R := loopAtL E (callT E tab) 96 Try.f96 1 [.r, .b] (⟨(.val .one), [.d .deep (.sl (.pair (.int .i64) (.int .i64))) v0], true, false, false, 0, 0⟩ :: nn 1 (vc (iL v1) :: vc (iL v2) :: nn 24 ([])))
noncomputable def xs02.l1 (v0 : List (Int × Int)) (v1 : Int) (v2 : Int) : Option ((List (Int × Int))) := tOf xs02.mk (xs02.q1 v0 v1 v2)
noncomputable def xs02.t {γ : Type} (ret : ((List (Int × Int))) → Option γ) (lp1 : (List (Int × Int)) → Int → Int → Option γ) (v0 : List (Int × Int)) : Option γ :=
 lp1 (v0) ((0 : Int)) (IntKind.i64.wrap ((↑v0.length : Int) - (1 : Int)))
noncomputable def xs02.t1 {γ : Type} (ret : ((List (Int × Int))) → Option γ) (lp1 : (List (Int × Int)) → Int → Int → Option γ) (v0 : List (Int × Int)) (v1 : Int) (v2 : Int) : Option γ :=
 bif decide (v1 < v2) then
  bif decide ((0 : Int) ≤ v2) then
   bif decide (v2.toNat < v0.length) then
    bif decide (v2.toNat < v0.length) then
     bif decide ((0 : Int) ≤ v1) then
      bif decide (v1.toNat < v0.length) then
       bif decide (v1.toNat < v0.length) then
        bif decide ((0 : Int) ≤ v1) then
         bif decide (v1.toNat < v0.length) then
          bif decide (v1.toNat < v0.length) then
           bif decide ((0 : Int) ≤ v2) then
            bif decide   (v2.toNat <     (v0.set v1.toNat         ((v0.getD v2.toNat ((0 : Int), (0 : Int))).fst, (v0.getD v2.toNat ((0 : Int), (0 : Int))).snd)).length) then
             bif decide   (v2.toNat <     (v0.set v1.toNat         ((v0.getD v2.toNat ((0 : Int), (0 : Int))).fst, (v0.getD v2.toNat ((0 : Int), (0 : Int))).snd)).length) then
              lp1 ((v0.set v1.toNat ((v0.getD v2.toNat ((0 : Int), (0 : Int))).fst, (v0.getD v2.toNat ((0 : Int), (0 : Int))).snd)).set   v2.toNat ((v0.getD v1.toNat ((0 : Int), (0 : Int))).fst, (v0.getD v1.toNat ((0 : Int), (0 : Int))).snd)) (IntKind.i64.wrap (v1 + (1 : Int))) (IntKind.i64.wrap (v2 - (1 : Int)))
             else
              none
            else
             none
           else
            none
          else
           none
         else
          none
        else
         none
       else
        none
      else
       none
     else
      none
    else
     none
   else
    none
  else
   none
 else
  ret (v0)
theorem xs02.k (v0 : List (Int × Int)) : topL E (callT E tab) 96 Try.f96 (xs02.c v0) = xs02.t (fun b => some (xs02.mk b)) xs02.q1 v0 := by kernel_rfl
theorem xs02.k1 (v0 : List (Int × Int)) (v1 : Int) (v2 : Int) : roundL E (callT E tab) 96 Try.f96 1 [.r, .b] (⟨(.val .one), [.d .deep (.sl (.pair (.int .i64) (.int .i64))) v0], true, false, false, 0, 0⟩ :: nn 1 (vc (iL v1) :: vc (iL v2) :: nn 24 ([]))) = xs02.t1 (fun b => some (xs02.mk b)) xs02.q1 v0 v1 v2 := by kernel_rfl
theorem xs02.eq (v0 : List (Int × Int)) {b : (List (Int × Int))} (h : xs02.t some xs02.l1 v0 = some b) : xs02 v0 = some b := tOf_intro xs02.un (fun _ => by kernel_rfl) (vlim_fn (callT_le E tab) rfl rfl rfl ((xs02.k v0).trans ((by unfold xs02.t; repeat' first | exact Sub.ret | exact Sub.none | exact Sub.loop | apply Sub.cond | (apply Sub.bind; intro _) : Sub xs02.mk _ _) b h)))
theorem xs02.eq1 (v0 : List (Int × Int)) (v1 : Int) (v2 : Int) {b : (List (Int × Int))} (h : xs02.t1 some xs02.l1 v0 v1 v2 = some b) : xs02.l1 v0 v1 v2 = some b := tOf_intro xs02.un (fun _ => by kernel_rfl) (loopAtL_step ((xs02.k1 v0 v1 v2).trans ((by unfold xs02.t1; repeat' first | exact Sub.ret | exact Sub.none | exact Sub.loop | apply Sub.cond | (apply Sub.bind; intro _) : Sub xs02.mk _ _) b h)))
noncomputable def laws_eqWindow.t {γ : Type} (ret : (Bool) → Option γ) (v0 : List (Int × Int)) (v1 : List (Int × Int)) (v2 : List (Int × Int)) (v3 : Int) (v4 : Int) (v5 : List (Int × Int)) (v6 : List (Int × Int)) (v7 : List (Int × Int)) (v8 : Int) (v9 : Int) : Option γ :=
 (laws_eqMapS (v0) (v5)).bind fun (r0 : Bool) =>
 bif !r0 then
  ret (Bool.false)
 else
  (laws_eqMapS (v1) (v6)).bind fun (r1 : Bool) =>
  bif !r1 then
   ret (Bool.false)
  else
   (laws_eqMapS (v2) (v7)).bind fun (r2 : Bool) =>
   bif !r2 then
    ret (Bool.false)
   else
    (laws_eqMap (v3) (v4) (v8) (v9)).bind fun (r3 : Bool) =>
    bif !r3 then
     ret (Bool.false)
    else
     ret (Bool.true)
theorem laws_eqWindow.k (v0 : List (Int × Int)) (v1 : List (Int × Int)) (v2 : List (Int × Int)) (v3 : Int) (v4 : Int) (v5 : List (Int × Int)) (v6 : List (Int × Int)) (v7 : List (Int × Int)) (v8 : Int) (v9 : Int) : topL E (callT E tab) 14 Try.f14 (laws_eqWindow.c v0 v1 v2 v3 v4 v5 v6 v7 v8 v9) = laws_eqWindow.t (fun b => some (laws_eqWindow.mk b)) v0 v1 v2 v3 v4 v5 v6 v7 v8 v9 := by kernel_rfl
theorem laws_eqWindow.eq (v0 : List (Int × Int)) (v1 : List (Int × Int)) (v2 : List (Int × Int)) (v3 : Int) (v4 : Int) (v5 : List (Int × Int)) (v6 : List (Int × Int)) (v7 : List (Int × Int)) (v8 : Int) (v9 : Int) {b : Bool} (h : laws_eqWindow.t some v0 v1 v2 v3 v4 v5 v6 v7 v8 v9 = some b) : laws_eqWindow v0 v1 v2 v3 v4 v5 v6 v7 v8 v9 = some b := tOf_intro laws_eqWindow.un (fun _ => by kernel_rfl) (vlim_fn (callT_le E tab) rfl rfl rfl ((laws_eqWindow.k v0 v1 v2 v3 v4 v5 v6 v7 v8 v9).trans ((by unfold laws_eqWindow.t; repeat' first | exact Sub.ret | exact Sub.none | exact Sub.loop | apply Sub.cond | (apply Sub.bind; intro _) : Sub laws_eqWindow.mk _ _) b h)))
noncomputable def laws_eqMapS.q4 (v0 : List (Int × Int)) (v1 : List (Int × Int)) (v2 : Int) : Option R := loopAtL E (callT E tab) 57 Try.f57 2 [.r, .r, .l, .r, .b] (vc (.d .fro (.sl (.pair (.int .i64) (.int .i64))) v0) :: vc (.d .fro (.sl (.pair (.int .i64) (.int .i64))) v1) :: nn 3 (vc (iL v2) :: nn 21 ([])))
noncomputable def laws_eqMapS.l4 (v0 : List (Int × Int)) (v1 : List (Int × Int)) (v2 : Int) : Option (Bool) := tOf laws_eqMapS.mk (laws_eqMapS.q4 v0 v1 v2)
noncomputable def laws_eqMapS.t {γ : Type} (ret : (Bool) → Option γ) (lp4 : (List (Int × Int)) → (List (Int × Int)) → Int → Option γ) (v0 : List (Int × Int)) (v1 : List (Int × Int)) : Option γ :=
 bif (↑v0.length : Int) != (↑v1.length : Int) then
  ret (Bool.false)
 else
  lp4 (v0) (v1) ((0 : Int))
noncomputable def laws_eqMapS.t4 {γ : Type} (ret : (Bool) → Option γ) (lp4 : (List (Int × Int)) → (List (Int × Int)) → Int → Option γ) (v0 : List (Int × Int)) (v1 : List (Int × Int)) (v2 : Int) : Option γ :=
 bif decide (v2 < (↑v0.length : Int)) then
  bif decide ((0 : Int) ≤ v2) then
   bif decide (v2.toNat < v0.length) then
    bif decide ((0 : Int) ≤ v2) then
     bif decide (v2.toNat < v1.length) then
      (laws_eqMap ((v0.getD v2.toNat ((0 : Int), (0 : Int))).fst) ((v0.getD v2.toNat ((0 : Int), (0 : Int))).snd) ((v1.getD v2.toNat ((0 : Int), (0 : Int))).fst) ((v1.getD v2.toNat ((0 : Int), (0 : Int))).snd)).bind fun (r0 : Bool) =>
      bif !r0 then
       ret (Bool.false)
      else
       lp4 (v0) (v1) (IntKind.i64.wrap (v2 + (1 : Int)))
     else
      none
    else
     none
   else
    none
  else
   none
 else
  ret (Bool.true)
theorem laws_eqMapS.k (v0 : List (Int × Int)) (v1 : List (Int × Int)) : topL E (callT E tab) 57 Try.f57 (laws_eqMapS.c v0 v1) = laws_eqMapS.t (fun b => some (laws_eqMapS.mk b)) laws_eqMapS.q4 v0 v1 := by kernel_rfl
theorem laws_eqMapS.k4 (v0 : List (Int × Int)) (v1 : List (Int × Int)) (v2 : Int) : roundL E (callT E tab) 57 Try.f57 2 [.r, .r, .l, .r, .b] (vc (.d .fro (.sl (.pair (.int .i64) (.int .i64))) v0) :: vc (.d .fro (.sl (.pair (.int .i64) (.int .i64))) v1) :: nn 3 (vc (iL v2) :: nn 21 ([]))) = laws_eqMapS.t4 (fun b => some (laws_eqMapS.mk b)) laws_eqMapS.q4 v0 v1 v2 := by kernel_rfl
theorem laws_eqMapS.eq (v0 : List (Int × Int)) (v1 : List (Int × Int)) {b : Bool} (h : laws_eqMapS.t some laws_eqMapS.l4 v0 v1 = some b) : laws_eqMapS v0 v1 = some b := tOf_intro laws_eqMapS.un (fun _ => by kernel_rfl) (vlim_fn (callT_le E tab) rfl rfl rfl ((laws_eqMapS.k v0 v1).trans ((by unfold laws_eqMapS.t; repeat' first | exact Sub.ret | exact Sub.none | exact Sub.loop | apply Sub.cond | (apply Sub.bind; intro _) : Sub laws_eqMapS.mk _ _) b h)))
theorem laws_eqMapS.eq4 (v0 : List (Int × Int)) (v1 : List (Int × Int)) (v2 : Int) {b : Bool} (h : laws_eqMapS.t4 some laws_eqMapS.l4 v0 v1 v2 = some b) : laws_eqMapS.l4 v0 v1 v2 = some b := tOf_intro laws_eqMapS.un (fun _ => by kernel_rfl) (loopAtL_step ((laws_eqMapS.k4 v0 v1 v2).trans ((by unfold laws_eqMapS.t4; repeat' first | exact Sub.ret | exact Sub.none | exact Sub.loop | apply Sub.cond | (apply Sub.bind; intro _) : Sub laws_eqMapS.mk _ _) b h)))
noncomputable def laws_eqMap.t {γ : Type} (ret : (Bool) → Option γ) (v0 : Int) (v1 : Int) (v2 : Int) (v3 : Int) : Option γ :=
 bif v0 != v2 then
  ret (Bool.false)
 else
  bif v1 != v3 then
   ret (Bool.false)
  else
   ret (Bool.true)
theorem laws_eqMap.k (v0 : Int) (v1 : Int) (v2 : Int) (v3 : Int) : topL E (callT E tab) 15 Try.f15 (laws_eqMap.c v0 v1 v2 v3) = laws_eqMap.t (fun b => some (laws_eqMap.mk b)) v0 v1 v2 v3 := by kernel_rfl
theorem laws_eqMap.eq (v0 : Int) (v1 : Int) (v2 : Int) (v3 : Int) {b : Bool} (h : laws_eqMap.t some v0 v1 v2 v3 = some b) : laws_eqMap v0 v1 v2 v3 = some b := tOf_intro laws_eqMap.un (fun _ => by kernel_rfl) (vlim_fn (callT_le E tab) rfl rfl rfl ((laws_eqMap.k v0 v1 v2 v3).trans ((by unfold laws_eqMap.t; repeat' first | exact Sub.ret | exact Sub.none | exact Sub.loop | apply Sub.cond | (apply Sub.bind; intro _) : Sub laws_eqMap.mk _ _) b h)))
noncomputable def xl08.t {γ : Type} (ret : (Int × (List (Int × Int)) × (List (Int × Int)) × (List (Int × Int)) × Int × Int) → Option γ) (v0 : List (Int × Int)) (v1 : List (Int × Int)) (v2 : List (Int × Int)) (v3 : Int) (v4 : Int) (v5 : Int) : Option γ :=
 (laws_markMapS_cfe (v0) (v5)).bind fun (r0 : Int × (List (Int × Int))) =>
 (laws_markMapS_cfe (v1) (r0.fst)).bind fun (r1 : Int × (List (Int × Int))) =>
 (laws_markMapS_cfe (v2) (r1.fst)).bind fun (r2 : Int × (List (Int × Int))) =>
 ret (r2.fst, r0.snd, r1.snd, r2.snd, v3, v4)
theorem xl08.k (v0 : List (Int × Int)) (v1 : List (Int × Int)) (v2 : List (Int × Int)) (v3 : Int) (v4 : Int) (v5 : Int) : topL E (callT E tab) 16 Try.f16 (xl08.c v0 v1 v2 v3 v4 v5) = xl08.t (fun b => some (xl08.mk b)) v0 v1 v2 v3 v4 v5 := by kernel_rfl
theorem xl08.eq (v0 : List (Int × Int)) (v1 : List (Int × Int)) (v2 : List (Int × Int)) (v3 : Int) (v4 : Int) (v5 : Int) {b : Int × (List (Int × Int)) × (List (Int × Int)) × (List (Int × Int)) × Int × Int} (h : xl08.t some v0 v1 v2 v3 v4 v5 = some b) : xl08 v0 v1 v2 v3 v4 v5 = some b := tOf_intro xl08.un (fun _ => by kernel_rfl) (vlim_fn (callT_le E tab) rfl rfl rfl ((xl08.k v0 v1 v2 v3 v4 v5).trans ((by unfold xl08.t; repeat' first | exact Sub.ret | exact Sub.none | exact Sub.loop | apply Sub.cond | (apply Sub.bind; intro _) : Sub xl08.mk _ _) b h)))
noncomputable def laws_markMapS_cfe.q2 (v0 : List (Int × Int)) (v1 : Int) (v2 : Int) : Option R := loopAtL E (callT E tab) 58 Try.f58 2 [.r, .l, .r, .b] (⟨(.val .one), [.d .deep (.sl (.pair (.int .i64) (.int .i64))) v0], true, false, false, 0, 0⟩ :: vc (iL v1) :: nn 3 (vc (iL v2) :: nn 21 ([])))
noncomputable def laws_markMapS_cfe.l2 (v0 : List (Int × Int)) (v1 : Int) (v2 : Int) : Option (Int × (List (Int × Int))) := tOf laws_markMapS_cfe.mk (laws_markMapS_cfe.q2 v0 v1 v2)
noncomputable def laws_markMapS_cfe.t {γ : Type} (ret : (Int × (List (Int × Int))) → Option γ) (lp2 : (List (Int × Int)) → Int → Int → Option γ) (v0 : List (Int × Int)) (v1 : Int) : Option γ :=
 lp2 (v0) (v1) ((0 : Int))
noncomputable def laws_markMapS_cfe.t2 {γ : Type} (ret : (Int × (List (Int × Int))) → Option γ) (lp2 : (List (Int × Int)) → Int → Int → Option γ) (v0 : List (Int × Int)) (v1 : Int) (v2 : Int) : Option γ :=
 bif decide (v2 < (↑v0.length : Int)) then
  bif decide ((0 : Int) ≤ v2) then
   bif decide (v2.toNat < v0.length) then
    bif decide (v2.toNat < v0.length) then
     bif decide ((0 : Int) ≤ v2) then
      bif decide (v2.toNat < (v0.set v2.toNat (v1, (v0.getD v2.toNat ((0 : Int), (0 : Int))).snd)).length) then
       bif decide (v2.toNat < (v0.set v2.toNat (v1, (v0.getD v2.toNat ((0 : Int), (0 : Int))).snd)).length) then
        lp2 ((v0.set v2.toNat (v1, (v0.getD v2.toNat ((0 : Int), (0 : Int))).snd)).set v2.toNat   (((v0.set v2.toNat (v1, (v0.getD v2.toNat ((0 : Int), (0 : Int))).snd)).getD v2.toNat ((0 : Int), (0 : Int))).fst,     IntKind.i64.wrap (v1 + (1 : Int)))) (IntKind.i64.wrap (IntKind.i64.wrap (v1 + (1 : Int)) + (1 : Int))) (IntKind.i64.wrap (v2 + (1 : Int)))
       else
        none
      else
       none
     else
      none
    else
     none
   else
    none
  else
   none
 else
  ret (v1, v0)
theorem laws_markMapS_cfe.k (v0 : List (Int × Int)) (v1 : Int) : topL E (callT E tab) 58 Try.f58 (laws_markMapS_cfe.c v0 v1) = laws_markMapS_cfe.t (fun b => some (laws_markMapS_cfe.mk b)) laws_markMapS_cfe.q2 v0 v1 := by kernel_rfl
theorem laws_markMapS_cfe.k2 (v0 : List (Int × Int)) (v1 : Int) (v2 : Int) : roundL E (callT E tab) 58 Try.f58 2 [.r, .l, .r, .b] (⟨(.val .one), [.d .deep (.sl (.pair (.int .i64) (.int .i64))) v0], true, false, false, 0, 0⟩ :: vc (iL v1) :: nn 3 (vc (iL v2) :: nn 21 ([]))) = laws_markMapS_cfe.t2 (fun b => some (laws_markMapS_cfe.mk b)) laws_markMapS_cfe.q2 v0 v1 v2 := by kernel_rfl
theorem laws_markMapS_cfe.eq (v0 : List (Int × Int)) (v1 : Int) {b : Int × (List (Int × Int))} (h : laws_markMapS_cfe.t some laws_markMapS_cfe.l2 v0 v1 = some b) : laws_markMapS_cfe v0 v1 = some b := tOf_intro laws_markMapS_cfe.un (fun _ => by kernel_rfl) (vlim_fn (callT_le E tab) rfl rfl rfl ((laws_markMapS_cfe.k v0 v1).trans ((by unfold laws_markMapS_cfe.t; repeat' first | exact Sub.ret | exact Sub.none | exact Sub.loop | apply Sub.cond | (apply Sub.bind; intro _) : Sub laws_markMapS_cfe.mk _ _) b h)))
theorem laws_markMapS_cfe.eq2 (v0 : List (Int × Int)) (v1 : Int) (v2 : Int) {b : Int × (List (Int × Int))} (h : laws_markMapS_cfe.t2 some laws_markMapS_cfe.l2 v0 v1 v2 = some b) : laws_markMapS_cfe.l2 v0 v1 v2 = some b := tOf_intro laws_markMapS_cfe.un (fun _ => by kernel_rfl) (loopAtL_step ((laws_markMapS_cfe.k2 v0 v1 v2).trans ((by unfold laws_markMapS_cfe.t2; repeat' first | exact Sub.ret | exact Sub.none | exact Sub.loop | apply Sub.cond | (apply Sub.bind; intro _) : Sub laws_markMapS_cfe.mk _ _) b h)))
noncomputable def laws_heldWindow.t {γ : Type} (ret : (Int) → Option γ) (v0 : List (Int × Int)) (v1 : List (Int × Int)) (v2 : List (Int × Int)) (v3 : Int) (v4 : Int) (v5 : Int) : Option γ :=
 (laws_heldMapS (v0) (v5)).bind fun (r0 : Int) =>
 bif decide (r0 < (0 : Int)) then
  ret ((-1 : Int))
 else
  (laws_heldMapS (v1) (r0)).bind fun (r1 : Int) =>
  bif decide (r1 < (0 : Int)) then
   ret ((-1 : Int))
  else
   (laws_heldMapS (v2) (r1)).bind fun (r2 : Int) =>
   bif decide (r2 < (0 : Int)) then
    ret ((-1 : Int))
   else
    ret (r2)
theorem laws_heldWindow.k (v0 : List (Int × Int)) (v1 : List (Int × Int)) (v2 : List (Int × Int)) (v3 : Int) (v4 : Int) (v5 : Int) : topL E (callT E tab) 17 Try.f17 (laws_heldWindow.c v0 v1 v2 v3 v4 v5) = laws_heldWindow.t (fun b => some (laws_heldWindow.mk b)) v0 v1 v2 v3 v4 v5 := by kernel_rfl
theorem laws_heldWindow.eq (v0 : List (Int × Int)) (v1 : List (Int × Int)) (v2 : List (Int × Int)) (v3 : Int) (v4 : Int) (v5 : Int) {b : Int} (h : laws_heldWindow.t some v0 v1 v2 v3 v4 v5 = some b) : laws_heldWindow v0 v1 v2 v3 v4 v5 = some b := tOf_intro laws_heldWindow.un (fun _ => by kernel_rfl) (vlim_fn (callT_le E tab) rfl rfl rfl ((laws_heldWindow.k v0 v1 v2 v3 v4 v5).trans ((by unfold laws_heldWindow.t; repeat' first | exact Sub.ret | exact Sub.none | exact Sub.loop | apply Sub.cond | (apply Sub.bind; intro _) : Sub laws_heldWindow.mk _ _) b h)))
noncomputable def laws_heldMapS.q2 (v0 : List (Int × Int)) (v1 : Int) (v2 : Int) : Option R := loopAtL E (callT E tab) 59 Try.f59 2 [.r, .l, .r, .b] (vc (.d .fro (.sl (.pair (.int .i64) (.int .i64))) v0) :: vc (iL v1) :: nn 3 (vc (iL v2) :: nn 25 ([])))
noncomputable def laws_heldMapS.l2 (v0 : List (Int × Int)) (v1 : Int) (v2 : Int) : Option (Int) := tOf laws_heldMapS.mk (laws_heldMapS.q2 v0 v1 v2)
noncomputable def laws_heldMapS.t {γ : Type} (ret : (Int) → Option γ) (lp2 : (List (Int × Int)) → Int → Int → Option γ) (v0 : List (Int × Int)) (v1 : Int) : Option γ :=
 lp2 (v0) (v1) ((0 : Int))
noncomputable def laws_heldMapS.t2 {γ : Type} (ret : (Int) → Option γ) (lp2 : (List (Int × Int)) → Int → Int → Option γ) (v0 : List (Int × Int)) (v1 : Int) (v2 : Int) : Option γ :=
 bif decide (v2 < (↑v0.length : Int)) then
  bif decide ((0 : Int) ≤ v2) then
   bif decide (v2.toNat < v0.length) then
    bif (v0.getD v2.toNat ((0 : Int), (0 : Int))).fst != v1 then
     ret ((-1 : Int))
    else
     bif decide ((0 : Int) ≤ v2) then
      bif decide (v2.toNat < v0.length) then
       bif (v0.getD v2.toNat ((0 : Int), (0 : Int))).snd != IntKind.i64.wrap (v1 + (1 : Int)) then
        ret ((-1 : Int))
       else
        lp2 (v0) (IntKind.i64.wrap (IntKind.i64.wrap (v1 + (1 : Int)) + (1 : Int))) (IntKind.i64.wrap (v2 + (1 : Int)))
      else
       none
     else
      none
   else
    none
  else
   none
 else
  ret (v1)
theorem laws_heldMapS.k (v0 : List (Int × Int)) (v1 : Int) : topL E (callT E tab) 59 Try.f59 (laws_heldMapS.c v0 v1) = laws_heldMapS.t (fun b => some (laws_heldMapS.mk b)) laws_heldMapS.q2 v0 v1 := by kernel_rfl
theorem laws_heldMapS.k2 (v0 : List (Int × Int)) (v1 : Int) (v2 : Int) : roundL E (callT E tab) 59 Try.f59 2 [.r, .l, .r, .b] (vc (.d .fro (.sl (.pair (.int .i64) (.int .i64))) v0) :: vc (iL v1) :: nn 3 (vc (iL v2) :: nn 25 ([]))) = laws_heldMapS.t2 (fun b => some (laws_heldMapS.mk b)) laws_heldMapS.q2 v0 v1 v2 := by kernel_rfl
theorem laws_heldMapS.eq (v0 : List (Int × Int)) (v1 : Int) {b : Int} (h : laws_heldMapS.t some laws_heldMapS.l2 v0 v1 = some b) : laws_heldMapS v0 v1 = some b := tOf_intro laws_heldMapS.un (fun _ => by kernel_rfl) (vlim_fn (callT_le E tab) rfl rfl rfl ((laws_heldMapS.k v0 v1).trans ((by unfold laws_heldMapS.t; repeat' first | exact Sub.ret | exact Sub.none | exact Sub.loop | apply Sub.cond | (apply Sub.bind; intro _) : Sub laws_heldMapS.mk _ _) b h)))
theorem laws_heldMapS.eq2 (v0 : List (Int × Int)) (v1 : Int) (v2 : Int) {b : Int} (h : laws_heldMapS.t2 some laws_heldMapS.l2 v0 v1 v2 = some b) : laws_heldMapS.l2 v0 v1 v2 = some b := tOf_intro laws_heldMapS.un (fun _ => by kernel_rfl) (loopAtL_step ((laws_heldMapS.k2 v0 v1 v2).trans ((by unfold laws_heldMapS.t2; repeat' first | exact Sub.ret | exact Sub.none | exact Sub.loop | apply Sub.cond | (apply Sub.bind; intro _) : Sub laws_heldMapS.mk _ _) b h)))
end GoV
