/- A part of the proof of FnWindows: an interpreter of the model over plain data, its soundness, and what it makes of the functions that the statement reaches. Conditions: none beyond what the given statement itself says. -/
import Derived.Test.YtgoflcackinjdaaTI
set_option linter.unusedVariables false
set_option linter.unusedSimpArgs false
set_option linter.unnecessarySimpa false
set_option linter.unusedSectionVars false
/- The functions of the program, each told by what it answers in the end (printed by wip/tools/emit.py). -/
/-! Names of functions here: xs00 = slices_ContainsFunc_impl_Map_impl_Map_impl_areAll_impl_Map_1_impl_GoodMap, xs01 = slices_IndexFunc_impl_Map_impl_Map_impl_areAll_impl_Map_1_impl_GoodMap, xs02 = slices_Reverse_impl_Map_impl_Map_040, xi03 = impl_areAll_impl_Map_1_impl_GoodMap, xi04 = impl_areAll_impl_Map_impl_GoodMap, xs05 = slices_Clone_impl_Map_impl_Map, xs06 = slices_Equal_impl_Map_impl_Map, xs07 = spec_l1Cur_affine_fee, xs08 = spec_l1Cur_window_fee, xi09 = impl_Window_push_4ba, xs0a = spec_l1Cur_among_a22, xi0b = impl_Window_pop_dff, xs0c = spec_l1Cur_next_fee, xs0d = spec_l1Cur_pick_e61 -/
namespace GoV
open Go Go.Proofs
set_option maxRecDepth 100000

def xs0d.c (v0 : List Int) (v1 : Int) (v2 : Int) (v3 : Int) : List Cell := ⟨(.box false), [.d .fro (.sl (.int .u8)) v0, iL v1, .d .fro (.int .u64) v2], true, false, false, 0, 0⟩ :: vc (iL v3) :: []
def xs0d.mk (b : Int × (List Int) × Int × Int) : R := (⟨.one, [iL b.1]⟩, ⟨(.box false), [.d .fro (.sl (.int .u8)) b.2.1, iL b.2.2.1, .d .fro (.int .u64) b.2.2.2], true, false, false, 0, 0⟩ :: nn 1 ([]))
def xs0d.un (r : R) : Int × (List Int) × Int × Int := ((leafR r 0).dat (.int .i64), (leafF r 0 0).dat (.sl (.int .u8)), (leafF r 0 1).dat (.int .i64), (leafF r 0 2).dat (.int .u64))
noncomputable def xs0d (v0 : List Int) (v1 : Int) (v2 : Int) (v3 : Int) : Option (Int × (List Int) × Int × Int) := tOf xs0d.mk (vlim E 29 (xs0d.c v0 v1 v2 v3))
def xs0c.c (v0 : List Int) (v1 : Int) (v2 : Int) : List Cell := ⟨(.box false), [.d .fro (.sl (.int .u8)) v0, iL v1, .d .fro (.int .u64) v2], true, false, false, 0, 0⟩ :: []
def xs0c.mk (b : Int × (List Int) × Int × Int) : R := (⟨.one, [iL b.1]⟩, ⟨(.box false), [.d .fro (.sl (.int .u8)) b.2.1, iL b.2.2.1, .d .fro (.int .u64) b.2.2.2], true, false, false, 0, 0⟩ :: [])
def xs0c.un (r : R) : Int × (List Int) × Int × Int := ((leafR r 0).dat (.int .i64), (leafF r 0 0).dat (.sl (.int .u8)), (leafF r 0 1).dat (.int .i64), (leafF r 0 2).dat (.int .u64))
noncomputable def xs0c (v0 : List Int) (v1 : Int) (v2 : Int) : Option (Int × (List Int) × Int × Int) := tOf xs0c.mk (vlim E 56 (xs0c.c v0 v1 v2))
def spec_l1Cur_one_e61.c (v0 : List Int) (v1 : Int) (v2 : Int) (v3 : Int) : List Cell := ⟨(.box false), [.d .fro (.sl (.int .u8)) v0, iL v1, .d .fro (.int .u64) v2], true, false, false, 0, 0⟩ :: vc (iL v3) :: []
def spec_l1Cur_one_e61.mk (b : Bool × (List Int) × Int × Int) : R := (⟨.one, [bL b.1]⟩, ⟨(.box false), [.d .fro (.sl (.int .u8)) b.2.1, iL b.2.2.1, .d .fro (.int .u64) b.2.2.2], true, false, false, 0, 0⟩ :: nn 1 ([]))
def spec_l1Cur_one_e61.un (r : R) : Bool × (List Int) × Int × Int := ((leafR r 0).dat .bool, (leafF r 0 0).dat (.sl (.int .u8)), (leafF r 0 1).dat (.int .i64), (leafF r 0 2).dat (.int .u64))
noncomputable def spec_l1Cur_one_e61 (v0 : List Int) (v1 : Int) (v2 : Int) (v3 : Int) : Option (Bool × (List Int) × Int × Int) := tOf spec_l1Cur_one_e61.mk (vlim E 30 (spec_l1Cur_one_e61.c v0 v1 v2 v3))
def xs07.c (v0 : List Int) (v1 : Int) (v2 : Int) : List Cell := ⟨(.box false), [.d .fro (.sl (.int .u8)) v0, iL v1, .d .fro (.int .u64) v2], true, false, false, 0, 0⟩ :: []
def xs07.mk (b : Int × Int × (List Int) × Int × Int) : R := (⟨.agg, [iL b.1, iL b.2.1]⟩, ⟨(.box false), [.d .fro (.sl (.int .u8)) b.2.2.1, iL b.2.2.2.1, .d .fro (.int .u64) b.2.2.2.2], true, false, false, 0, 0⟩ :: [])
def xs07.un (r : R) : Int × Int × (List Int) × Int × Int := ((leafR r 0).dat (.int .i64), (leafR r 1).dat (.int .i64), (leafF r 0 0).dat (.sl (.int .u8)), (leafF r 0 1).dat (.int .i64), (leafF r 0 2).dat (.int .u64))
noncomputable def xs07 (v0 : List Int) (v1 : Int) (v2 : Int) : Option (Int × Int × (List Int) × Int × Int) := tOf xs07.mk (vlim E 31 (xs07.c v0 v1 v2))
def xs0a.c (v0 : List Int) (v1 : Int) (v2 : Int) (v3 : List Int) : List Cell := ⟨(.box false), [.d .fro (.sl (.int .u8)) v0, iL v1, .d .fro (.int .u64) v2], true, false, false, 0, 0⟩ :: vc (.d .fro (.sl (.int .i64)) v3) :: []
def xs0a.mk (b : Int × (List Int) × Int × Int) : R := (⟨.one, [iL b.1]⟩, ⟨(.box false), [.d .fro (.sl (.int .u8)) b.2.1, iL b.2.2.1, .d .fro (.int .u64) b.2.2.2], true, false, false, 0, 0⟩ :: nn 1 ([]))
def xs0a.un (r : R) : Int × (List Int) × Int × Int := ((leafR r 0).dat (.int .i64), (leafF r 0 0).dat (.sl (.int .u8)), (leafF r 0 1).dat (.int .i64), (leafF r 0 2).dat (.int .u64))
noncomputable def xs0a (v0 : List Int) (v1 : Int) (v2 : Int) (v3 : List Int) : Option (Int × (List Int) × Int × Int) := tOf xs0a.mk (vlim E 32 (xs0a.c v0 v1 v2 v3))
def xi04.c (v0 : List (Int × Int)) : List Cell := vc (.d .fro (.sl (.pair (.int .i64) (.int .i64))) v0) :: vc (.fn 19 []) :: []
def xi04.mk (b : Bool) : R := (⟨.one, [bL b]⟩, nn 2 ([]))
def xi04.un (r : R) : Bool := ((leafR r 0).dat .bool)
noncomputable def xi04 (v0 : List (Int × Int)) : Option (Bool) := tOf xi04.mk (vlim E 33 (xi04.c v0))
def xs00.c (v0 : List (Int × Int)) : List Cell := vc (.d .fro (.sl (.pair (.int .i64) (.int .i64))) v0) :: vc (.fn 58 [.rp [.fn 19 []] 0]) :: []
def xs00.mk (b : Bool) : R := (⟨.one, [bL b]⟩, nn 2 ([]))
def xs00.un (r : R) : Bool := ((leafR r 0).dat .bool)
noncomputable def xs00 (v0 : List (Int × Int)) : Option (Bool) := tOf xs00.mk (vlim E 57 (xs00.c v0))
def xs01.c (v0 : List (Int × Int)) : List Cell := vc (.d .fro (.sl (.pair (.int .i64) (.int .i64))) v0) :: vc (.fn 58 [.rp [.fn 19 []] 0]) :: []
def xs01.mk (b : Int) : R := (⟨.one, [iL b]⟩, nn 2 ([]))
def xs01.un (r : R) : Int := ((leafR r 0).dat (.int .i64))
noncomputable def xs01 (v0 : List (Int × Int)) : Option (Int) := tOf xs01.mk (vlim E 60 (xs01.c v0))
def xi03.c (v0 : Int) (v1 : Int) : List Cell := ac [iL v0, iL v1] :: vc (.rp [.fn 19 []] 0) :: []
def xi03.mk (b : Bool) : R := (⟨.one, [bL b]⟩, nn 2 ([]))
def xi03.un (r : R) : Bool := ((leafR r 0).dat .bool)
noncomputable def xi03 (v0 : Int) (v1 : Int) : Option (Bool) := tOf xi03.mk (vlim E 58 (xi03.c v0 v1))
def impl_GoodMap.c (v0 : Int) (v1 : Int) : List Cell := ac [iL v0, iL v1] :: []
def impl_GoodMap.mk (b : Bool) : R := (⟨.one, [bL b]⟩, nn 1 ([]))
def impl_GoodMap.un (r : R) : Bool := ((leafR r 0).dat .bool)
noncomputable def impl_GoodMap (v0 : Int) (v1 : Int) : Option (Bool) := tOf impl_GoodMap.mk (vlim E 19 (impl_GoodMap.c v0 v1))
def impl_isRest.c (v0 : Int) : List Cell := vc (iL v0) :: []
def impl_isRest.mk (b : Bool) : R := (⟨.one, [bL b]⟩, nn 1 ([]))
def impl_isRest.un (r : R) : Bool := ((leafR r 0).dat .bool)
noncomputable def impl_isRest (v0 : Int) : Option (Bool) := tOf impl_isRest.mk (vlim E 44 (impl_isRest.c v0))
def impl_within.c (v0 : Int) (v1 : Int) (v2 : Int) : List Cell := vc (iL v0) :: vc (iL v1) :: vc (iL v2) :: []
def impl_within.mk (b : Bool) : R := (⟨.one, [bL b]⟩, nn 3 ([]))
def impl_within.un (r : R) : Bool := ((leafR r 0).dat .bool)
noncomputable def impl_within (v0 : Int) (v1 : Int) (v2 : Int) : Option (Bool) := tOf impl_within.mk (vlim E 34 (impl_within.c v0 v1 v2))
def impl_NewWindow.c : List Cell := []
def impl_NewWindow.mk (b : (List (Int × Int)) × (List (Int × Int)) × (List (Int × Int)) × Int × Int) : R := (⟨.agg, [.d .deep (.sl (.pair (.int .i64) (.int .i64))) b.1, .d .deep (.sl (.pair (.int .i64) (.int .i64))) b.2.1, .d .deep (.sl (.pair (.int .i64) (.int .i64))) b.2.2.1, iL b.2.2.2.1, iL b.2.2.2.2]⟩, [])
def impl_NewWindow.un (r : R) : (List (Int × Int)) × (List (Int × Int)) × (List (Int × Int)) × Int × Int := ((leafR r 0).dat (.sl (.pair (.int .i64) (.int .i64))), (leafR r 1).dat (.sl (.pair (.int .i64) (.int .i64))), (leafR r 2).dat (.sl (.pair (.int .i64) (.int .i64))), (leafR r 3).dat (.int .i64), (leafR r 4).dat (.int .i64))
noncomputable def impl_NewWindow : Option ((List (Int × Int)) × (List (Int × Int)) × (List (Int × Int)) × Int × Int) := tOf impl_NewWindow.mk (vlim E 9 (impl_NewWindow.c))
def impl_same.c : List Cell := []
def impl_same.mk (b : Int × Int) : R := (⟨.agg, [iL b.1, iL b.2]⟩, [])
def impl_same.un (r : R) : Int × Int := ((leafR r 0).dat (.int .i64), (leafR r 1).dat (.int .i64))
noncomputable def impl_same : Option (Int × Int) := tOf impl_same.mk (vlim E 40 (impl_same.c))
def xi0b.c (v0 : List (Int × Int)) (v1 : List (Int × Int)) (v2 : List (Int × Int)) (v3 : Int) (v4 : Int) : List Cell := ⟨(.box false), [.d .deep (.sl (.pair (.int .i64) (.int .i64))) v0, .d .deep (.sl (.pair (.int .i64) (.int .i64))) v1, .d .deep (.sl (.pair (.int .i64) (.int .i64))) v2, iL v3, iL v4], true, false, false, 0, 0⟩ :: []
def xi0b.mk (b : Int × Int × Int × (List (Int × Int)) × (List (Int × Int)) × (List (Int × Int)) × Int × Int) : R := (⟨(.tup [some 2, none]), [iL b.1, iL b.2.1, iL b.2.2.1]⟩, ⟨(.box false), [.d .deep (.sl (.pair (.int .i64) (.int .i64))) b.2.2.2.1, .d .deep (.sl (.pair (.int .i64) (.int .i64))) b.2.2.2.2.1, .d .deep (.sl (.pair (.int .i64) (.int .i64))) b.2.2.2.2.2.1, iL b.2.2.2.2.2.2.1, iL b.2.2.2.2.2.2.2], true, false, false, 0, 0⟩ :: [])
def xi0b.un (r : R) : Int × Int × Int × (List (Int × Int)) × (List (Int × Int)) × (List (Int × Int)) × Int × Int := ((leafR r 0).dat (.int .i64), (leafR r 1).dat (.int .i64), (leafR r 2).dat (.int .i64), (leafF r 0 0).dat (.sl (.pair (.int .i64) (.int .i64))), (leafF r 0 1).dat (.sl (.pair (.int .i64) (.int .i64))), (leafF r 0 2).dat (.sl (.pair (.int .i64) (.int .i64))), (leafF r 0 3).dat (.int .i64), (leafF r 0 4).dat (.int .i64))
noncomputable def xi0b (v0 : List (Int × Int)) (v1 : List (Int × Int)) (v2 : List (Int × Int)) (v3 : Int) (v4 : Int) : Option (Int × Int × Int × (List (Int × Int)) × (List (Int × Int)) × (List (Int × Int)) × Int × Int) := tOf xi0b.mk (vlim E 35 (xi0b.c v0 v1 v2 v3 v4))
def xs02.c (v0 : List (Int × Int)) : List Cell := ⟨(.val .one), [.d .deep (.sl (.pair (.int .i64) (.int .i64))) v0], true, false, false, 0, 0⟩ :: []
def xs02.mk (b : (List (Int × Int))) : R := (⟨(.tup []), []⟩, ⟨(.val .one), [.d .deep (.sl (.pair (.int .i64) (.int .i64))) b], true, false, false, 0, 0⟩ :: [])
def xs02.un (r : R) : (List (Int × Int)) := ((leafF r 0 0).dat (.sl (.pair (.int .i64) (.int .i64))))
noncomputable def xs02 (v0 : List (Int × Int)) : Option ((List (Int × Int))) := tOf xs02.mk (vlim E 51 (xs02.c v0))
def impl_sumsOf.c (v0 : List (Int × Int)) : List Cell := vc (.d .fro (.sl (.pair (.int .i64) (.int .i64))) v0) :: []
def impl_sumsOf.mk (b : (List (Int × Int))) : R := (⟨.one, [.d .deep (.sl (.pair (.int .i64) (.int .i64))) b]⟩, nn 1 ([]))
def impl_sumsOf.un (r : R) : (List (Int × Int)) := ((leafR r 0).dat (.sl (.pair (.int .i64) (.int .i64))))
noncomputable def impl_sumsOf (v0 : List (Int × Int)) : Option ((List (Int × Int))) := tOf impl_sumsOf.mk (vlim E 54 (impl_sumsOf.c v0))
def impl_Map_then.c (v0 : Int) (v1 : Int) (v2 : Int) (v3 : Int) : List Cell := ac [iL v0, iL v1] :: ac [iL v2, iL v3] :: []
def impl_Map_then.mk (b : Int × Int) : R := (⟨.agg, [iL b.1, iL b.2]⟩, nn 2 ([]))
def impl_Map_then.un (r : R) : Int × Int := ((leafR r 0).dat (.int .i64), (leafR r 1).dat (.int .i64))
noncomputable def impl_Map_then (v0 : Int) (v1 : Int) (v2 : Int) (v3 : Int) : Option (Int × Int) := tOf impl_Map_then.mk (vlim E 42 (impl_Map_then.c v0 v1 v2 v3))
def xi09.c (v0 : List (Int × Int)) (v1 : List (Int × Int)) (v2 : List (Int × Int)) (v3 : Int) (v4 : Int) (v5 : Int) (v6 : Int) : List Cell := ⟨(.box false), [.d .deep (.sl (.pair (.int .i64) (.int .i64))) v0, .d .deep (.sl (.pair (.int .i64) (.int .i64))) v1, .d .deep (.sl (.pair (.int .i64) (.int .i64))) v2, iL v3, iL v4], true, false, false, 0, 0⟩ :: ac [iL v5, iL v6] :: []
def xi09.mk (b : (List (Int × Int)) × (List (Int × Int)) × (List (Int × Int)) × Int × Int) : R := (⟨(.tup []), []⟩, ⟨(.box false), [.d .deep (.sl (.pair (.int .i64) (.int .i64))) b.1, .d .deep (.sl (.pair (.int .i64) (.int .i64))) b.2.1, .d .deep (.sl (.pair (.int .i64) (.int .i64))) b.2.2.1, iL b.2.2.2.1, iL b.2.2.2.2], true, false, false, 0, 0⟩ :: nn 1 ([]))
def xi09.un (r : R) : (List (Int × Int)) × (List (Int × Int)) × (List (Int × Int)) × Int × Int := ((leafF r 0 0).dat (.sl (.pair (.int .i64) (.int .i64))), (leafF r 0 1).dat (.sl (.pair (.int .i64) (.int .i64))), (leafF r 0 2).dat (.sl (.pair (.int .i64) (.int .i64))), (leafF r 0 3).dat (.int .i64), (leafF r 0 4).dat (.int .i64))
noncomputable def xi09 (v0 : List (Int × Int)) (v1 : List (Int × Int)) (v2 : List (Int × Int)) (v3 : Int) (v4 : Int) (v5 : Int) (v6 : Int) : Option ((List (Int × Int)) × (List (Int × Int)) × (List (Int × Int)) × Int × Int) := tOf xi09.mk (vlim E 36 (xi09.c v0 v1 v2 v3 v4 v5 v6))
def impl_Window_sum.c (v0 : List (Int × Int)) (v1 : List (Int × Int)) (v2 : List (Int × Int)) (v3 : Int) (v4 : Int) : List Cell := ac [.d .fro (.sl (.pair (.int .i64) (.int .i64))) v0, .d .fro (.sl (.pair (.int .i64) (.int .i64))) v1, .d .fro (.sl (.pair (.int .i64) (.int .i64))) v2, iL v3, iL v4] :: []
def impl_Window_sum.mk (b : Int × Int) : R := (⟨.agg, [iL b.1, iL b.2]⟩, nn 1 ([]))
def impl_Window_sum.un (r : R) : Int × Int := ((leafR r 0).dat (.int .i64), (leafR r 1).dat (.int .i64))
noncomputable def impl_Window_sum (v0 : List (Int × Int)) (v1 : List (Int × Int)) (v2 : List (Int × Int)) (v3 : Int) (v4 : Int) : Option (Int × Int) := tOf impl_Window_sum.mk (vlim E 37 (impl_Window_sum.c v0 v1 v2 v3 v4))
def spec_l1In.c (v0 : Int) (v1 : Int) (v2 : Int) : List Cell := vc (iL v0) :: vc (iL v1) :: vc (iL v2) :: []
def spec_l1In.mk (b : Bool) : R := (⟨.one, [bL b]⟩, nn 3 ([]))
def spec_l1In.un (r : R) : Bool := ((leafR r 0).dat .bool)
noncomputable def spec_l1In (v0 : Int) (v1 : Int) (v2 : Int) : Option (Bool) := tOf spec_l1In.mk (vlim E 38 (spec_l1In.c v0 v1 v2))
def spec_GoodMap.c (v0 : Int) (v1 : Int) : List Cell := ac [iL v0, iL v1] :: []
def spec_GoodMap.mk (b : Bool) : R := (⟨.one, [bL b]⟩, nn 1 ([]))
def spec_GoodMap.un (r : R) : Bool := ((leafR r 0).dat .bool)
noncomputable def spec_GoodMap (v0 : Int) (v1 : Int) : Option (Bool) := tOf spec_GoodMap.mk (vlim E 20 (spec_GoodMap.c v0 v1))
def spec_l17All.c (v0 : List (Int × Int)) : List Cell := vc (.d .fro (.sl (.pair (.int .i64) (.int .i64))) v0) :: []
def spec_l17All.mk (b : Int × Int) : R := (⟨.agg, [iL b.1, iL b.2]⟩, nn 1 ([]))
def spec_l17All.un (r : R) : Int × Int := ((leafR r 0).dat (.int .i64), (leafR r 1).dat (.int .i64))
noncomputable def spec_l17All (v0 : List (Int × Int)) : Option (Int × Int) := tOf spec_l17All.mk (vlim E 39 (spec_l17All.c v0))
def spec_l17One.c : List Cell := []
def spec_l17One.mk (b : Int × Int) : R := (⟨.agg, [iL b.1, iL b.2]⟩, [])
def spec_l17One.un (r : R) : Int × Int := ((leafR r 0).dat (.int .i64), (leafR r 1).dat (.int .i64))
noncomputable def spec_l17One : Option (Int × Int) := tOf spec_l17One.mk (vlim E 48 (spec_l17One.c))
def spec_l17Then.c (v0 : Int) (v1 : Int) (v2 : Int) (v3 : Int) : List Cell := ac [iL v0, iL v1] :: ac [iL v2, iL v3] :: []
def spec_l17Then.mk (b : Int × Int) : R := (⟨.agg, [iL b.1, iL b.2]⟩, nn 2 ([]))
def spec_l17Then.un (r : R) : Int × Int := ((leafR r 0).dat (.int .i64), (leafR r 1).dat (.int .i64))
noncomputable def spec_l17Then (v0 : Int) (v1 : Int) (v2 : Int) (v3 : Int) : Option (Int × Int) := tOf spec_l17Then.mk (vlim E 43 (spec_l17Then.c v0 v1 v2 v3))
def laws_sameMaps.c (v0 : List (Int × Int)) (v1 : List (Int × Int)) : List Cell := vc (.d .fro (.sl (.pair (.int .i64) (.int .i64))) v0) :: vc (.d .fro (.sl (.pair (.int .i64) (.int .i64))) v1) :: []
def laws_sameMaps.mk (b : Bool) : R := (⟨.one, [bL b]⟩, nn 2 ([]))
def laws_sameMaps.un (r : R) : Bool := ((leafR r 0).dat .bool)
noncomputable def laws_sameMaps (v0 : List (Int × Int)) (v1 : List (Int × Int)) : Option (Bool) := tOf laws_sameMaps.mk (vlim E 8 (laws_sameMaps.c v0 v1))
def impl_PopMap.c (v0 : List (Int × Int)) (v1 : List (Int × Int)) (v2 : List (Int × Int)) (v3 : Int) (v4 : Int) : List Cell := ac [.d .fro (.sl (.pair (.int .i64) (.int .i64))) v0, .d .fro (.sl (.pair (.int .i64) (.int .i64))) v1, .d .fro (.sl (.pair (.int .i64) (.int .i64))) v2, iL v3, iL v4] :: []
def impl_PopMap.mk (b : (List (Int × Int)) × (List (Int × Int)) × (List (Int × Int)) × Int × Int × Int × Int × Int × Bool) : R := (⟨(.tup [some 5, some 2, none, none]), [.d .deep (.sl (.pair (.int .i64) (.int .i64))) b.1, .d .deep (.sl (.pair (.int .i64) (.int .i64))) b.2.1, .d .deep (.sl (.pair (.int .i64) (.int .i64))) b.2.2.1, iL b.2.2.2.1, iL b.2.2.2.2.1, iL b.2.2.2.2.2.1, iL b.2.2.2.2.2.2.1, iL b.2.2.2.2.2.2.2.1, bL b.2.2.2.2.2.2.2.2]⟩, nn 1 ([]))
def impl_PopMap.un (r : R) : (List (Int × Int)) × (List (Int × Int)) × (List (Int × Int)) × Int × Int × Int × Int × Int × Bool := ((leafR r 0).dat (.sl (.pair (.int .i64) (.int .i64))), (leafR r 1).dat (.sl (.pair (.int .i64) (.int .i64))), (leafR r 2).dat (.sl (.pair (.int .i64) (.int .i64))), (leafR r 3).dat (.int .i64), (leafR r 4).dat (.int .i64), (leafR r 5).dat (.int .i64), (leafR r 6).dat (.int .i64), (leafR r 7).dat (.int .i64), (leafR r 8).dat .bool)
noncomputable def impl_PopMap (v0 : List (Int × Int)) (v1 : List (Int × Int)) (v2 : List (Int × Int)) (v3 : Int) (v4 : Int) : Option ((List (Int × Int)) × (List (Int × Int)) × (List (Int × Int)) × Int × Int × Int × Int × Int × Bool) := tOf impl_PopMap.mk (vlim E 10 (impl_PopMap.c v0 v1 v2 v3 v4))
def impl_GoodWindow.c (v0 : List (Int × Int)) (v1 : List (Int × Int)) (v2 : List (Int × Int)) (v3 : Int) (v4 : Int) : List Cell := ac [.d .fro (.sl (.pair (.int .i64) (.int .i64))) v0, .d .fro (.sl (.pair (.int .i64) (.int .i64))) v1, .d .fro (.sl (.pair (.int .i64) (.int .i64))) v2, iL v3, iL v4] :: []
def impl_GoodWindow.mk (b : Bool) : R := (⟨.one, [bL b]⟩, nn 1 ([]))
def impl_GoodWindow.un (r : R) : Bool := ((leafR r 0).dat .bool)
noncomputable def impl_GoodWindow (v0 : List (Int × Int)) (v1 : List (Int × Int)) (v2 : List (Int × Int)) (v3 : Int) (v4 : Int) : Option (Bool) := tOf impl_GoodWindow.mk (vlim E 27 (impl_GoodWindow.c v0 v1 v2 v3 v4))
def xs06.c (v0 : List (Int × Int)) (v1 : List (Int × Int)) : List Cell := vc (.d .fro (.sl (.pair (.int .i64) (.int .i64))) v0) :: vc (.d .fro (.sl (.pair (.int .i64) (.int .i64))) v1) :: []
def xs06.mk (b : Bool) : R := (⟨.one, [bL b]⟩, nn 2 ([]))
def xs06.un (r : R) : Bool := ((leafR r 0).dat .bool)
noncomputable def xs06 (v0 : List (Int × Int)) (v1 : List (Int × Int)) : Option (Bool) := tOf xs06.mk (vlim E 53 (xs06.c v0 v1))
def impl_composed.c (v0 : List (Int × Int)) : List Cell := vc (.d .fro (.sl (.pair (.int .i64) (.int .i64))) v0) :: []
def impl_composed.mk (b : Int × Int) : R := (⟨.agg, [iL b.1, iL b.2]⟩, nn 1 ([]))
def impl_composed.un (r : R) : Int × Int := ((leafR r 0).dat (.int .i64), (leafR r 1).dat (.int .i64))
noncomputable def impl_composed (v0 : List (Int × Int)) : Option (Int × Int) := tOf impl_composed.mk (vlim E 55 (impl_composed.c v0))
def impl_Window_own.c (v0 : List (Int × Int)) (v1 : List (Int × Int)) (v2 : List (Int × Int)) (v3 : Int) (v4 : Int) : List Cell := ac [.d .fro (.sl (.pair (.int .i64) (.int .i64))) v0, .d .fro (.sl (.pair (.int .i64) (.int .i64))) v1, .d .fro (.sl (.pair (.int .i64) (.int .i64))) v2, iL v3, iL v4] :: []
def impl_Window_own.mk (b : (List (Int × Int)) × (List (Int × Int)) × (List (Int × Int)) × Int × Int) : R := (⟨.agg, [.d .deep (.sl (.pair (.int .i64) (.int .i64))) b.1, .d .deep (.sl (.pair (.int .i64) (.int .i64))) b.2.1, .d .deep (.sl (.pair (.int .i64) (.int .i64))) b.2.2.1, iL b.2.2.2.1, iL b.2.2.2.2]⟩, nn 1 ([]))
def impl_Window_own.un (r : R) : (List (Int × Int)) × (List (Int × Int)) × (List (Int × Int)) × Int × Int := ((leafR r 0).dat (.sl (.pair (.int .i64) (.int .i64))), (leafR r 1).dat (.sl (.pair (.int .i64) (.int .i64))), (leafR r 2).dat (.sl (.pair (.int .i64) (.int .i64))), (leafR r 3).dat (.int .i64), (leafR r 4).dat (.int .i64))
noncomputable def impl_Window_own (v0 : List (Int × Int)) (v1 : List (Int × Int)) (v2 : List (Int × Int)) (v3 : Int) (v4 : Int) : Option ((List (Int × Int)) × (List (Int × Int)) × (List (Int × Int)) × Int × Int) := tOf impl_Window_own.mk (vlim E 41 (impl_Window_own.c v0 v1 v2 v3 v4))
def xs05.c (v0 : List (Int × Int)) : List Cell := vc (.d .fro (.sl (.pair (.int .i64) (.int .i64))) v0) :: []
def xs05.mk (b : (List (Int × Int))) : R := (⟨.one, [.d .deep (.sl (.pair (.int .i64) (.int .i64))) b]⟩, nn 1 ([]))
def xs05.un (r : R) : (List (Int × Int)) := ((leafR r 0).dat (.sl (.pair (.int .i64) (.int .i64))))
noncomputable def xs05 (v0 : List (Int × Int)) : Option ((List (Int × Int))) := tOf xs05.mk (vlim E 50 (xs05.c v0))
def impl_PushMap.c (v0 : List (Int × Int)) (v1 : List (Int × Int)) (v2 : List (Int × Int)) (v3 : Int) (v4 : Int) (v5 : Int) (v6 : Int) : List Cell := ac [.d .fro (.sl (.pair (.int .i64) (.int .i64))) v0, .d .fro (.sl (.pair (.int .i64) (.int .i64))) v1, .d .fro (.sl (.pair (.int .i64) (.int .i64))) v2, iL v3, iL v4] :: ac [iL v5, iL v6] :: []
def impl_PushMap.mk (b : (List (Int × Int)) × (List (Int × Int)) × (List (Int × Int)) × Int × Int × Bool) : R := (⟨(.tup [some 5, none]), [.d .deep (.sl (.pair (.int .i64) (.int .i64))) b.1, .d .deep (.sl (.pair (.int .i64) (.int .i64))) b.2.1, .d .deep (.sl (.pair (.int .i64) (.int .i64))) b.2.2.1, iL b.2.2.2.1, iL b.2.2.2.2.1, bL b.2.2.2.2.2]⟩, nn 2 ([]))
def impl_PushMap.un (r : R) : (List (Int × Int)) × (List (Int × Int)) × (List (Int × Int)) × Int × Int × Bool := ((leafR r 0).dat (.sl (.pair (.int .i64) (.int .i64))), (leafR r 1).dat (.sl (.pair (.int .i64) (.int .i64))), (leafR r 2).dat (.sl (.pair (.int .i64) (.int .i64))), (leafR r 3).dat (.int .i64), (leafR r 4).dat (.int .i64), (leafR r 5).dat .bool)
noncomputable def impl_PushMap (v0 : List (Int × Int)) (v1 : List (Int × Int)) (v2 : List (Int × Int)) (v3 : Int) (v4 : Int) (v5 : Int) (v6 : Int) : Option ((List (Int × Int)) × (List (Int × Int)) × (List (Int × Int)) × Int × Int × Bool) := tOf impl_PushMap.mk (vlim E 11 (impl_PushMap.c v0 v1 v2 v3 v4 v5 v6))
def impl_WindowSum.c (v0 : List (Int × Int)) (v1 : List (Int × Int)) (v2 : List (Int × Int)) (v3 : Int) (v4 : Int) : List Cell := ac [.d .fro (.sl (.pair (.int .i64) (.int .i64))) v0, .d .fro (.sl (.pair (.int .i64) (.int .i64))) v1, .d .fro (.sl (.pair (.int .i64) (.int .i64))) v2, iL v3, iL v4] :: []
def impl_WindowSum.mk (b : Int × Int × Bool) : R := (⟨(.tup [some 2, none]), [iL b.1, iL b.2.1, bL b.2.2]⟩, nn 1 ([]))
def impl_WindowSum.un (r : R) : Int × Int × Bool := ((leafR r 0).dat (.int .i64), (leafR r 1).dat (.int .i64), (leafR r 2).dat .bool)
noncomputable def impl_WindowSum (v0 : List (Int × Int)) (v1 : List (Int × Int)) (v2 : List (Int × Int)) (v3 : Int) (v4 : Int) : Option (Int × Int × Bool) := tOf impl_WindowSum.mk (vlim E 12 (impl_WindowSum.c v0 v1 v2 v3 v4))
def impl_ApplyMap.c (v0 : Int) (v1 : Int) (v2 : Int) : List Cell := ac [iL v0, iL v1] :: vc (iL v2) :: []
def impl_ApplyMap.mk (b : Int × Bool) : R := (⟨(.tup [none, none]), [iL b.1, bL b.2]⟩, nn 2 ([]))
def impl_ApplyMap.un (r : R) : Int × Bool := ((leafR r 0).dat (.int .i64), (leafR r 1).dat .bool)
noncomputable def impl_ApplyMap (v0 : Int) (v1 : Int) (v2 : Int) : Option (Int × Bool) := tOf impl_ApplyMap.mk (vlim E 17 (impl_ApplyMap.c v0 v1 v2))
def laws_FnWindows.c (v0 : List Int) (v1 : List Int) : List Cell := vc (.d .fro (.sl (.int .u8)) v0) :: vc (.d .fro (.sl (.int .u8)) v1) :: []
def laws_FnWindows.mk (b : Bool) : R := (⟨.one, [bL b]⟩, nn 2 ([]))
def laws_FnWindows.un (r : R) : Bool := ((leafR r 0).dat .bool)
noncomputable def laws_FnWindows (v0 : List Int) (v1 : List Int) : Option (Bool) := tOf laws_FnWindows.mk (vlim E 4 (laws_FnWindows.c v0 v1))
def spec_DrawPushMap.c (v0 : List Int) : List Cell := vc (.d .fro (.sl (.int .u8)) v0) :: []
def spec_DrawPushMap.mk (b : (List (Int × Int)) × (List (Int × Int)) × (List (Int × Int)) × Int × Int × Int × Int) : R := (⟨(.tup [some 5, some 2]), [.d .deep (.sl (.pair (.int .i64) (.int .i64))) b.1, .d .deep (.sl (.pair (.int .i64) (.int .i64))) b.2.1, .d .deep (.sl (.pair (.int .i64) (.int .i64))) b.2.2.1, iL b.2.2.2.1, iL b.2.2.2.2.1, iL b.2.2.2.2.2.1, iL b.2.2.2.2.2.2]⟩, nn 1 ([]))
def spec_DrawPushMap.un (r : R) : (List (Int × Int)) × (List (Int × Int)) × (List (Int × Int)) × Int × Int × Int × Int := ((leafR r 0).dat (.sl (.pair (.int .i64) (.int .i64))), (leafR r 1).dat (.sl (.pair (.int .i64) (.int .i64))), (leafR r 2).dat (.sl (.pair (.int .i64) (.int .i64))), (leafR r 3).dat (.int .i64), (leafR r 4).dat (.int .i64), (leafR r 5).dat (.int .i64), (leafR r 6).dat (.int .i64))
noncomputable def spec_DrawPushMap (v0 : List Int) : Option ((List (Int × Int)) × (List (Int × Int)) × (List (Int × Int)) × Int × Int × Int × Int) := tOf spec_DrawPushMap.mk (vlim E 21 (spec_DrawPushMap.c v0))
def xs08.c (v0 : List Int) (v1 : Int) (v2 : Int) : List Cell := ⟨(.box false), [.d .fro (.sl (.int .u8)) v0, iL v1, .d .fro (.int .u64) v2], true, false, false, 0, 0⟩ :: []
def xs08.mk (b : (List (Int × Int)) × (List (Int × Int)) × (List (Int × Int)) × Int × Int × (List Int) × Int × Int) : R := (⟨.agg, [.d .deep (.sl (.pair (.int .i64) (.int .i64))) b.1, .d .deep (.sl (.pair (.int .i64) (.int .i64))) b.2.1, .d .deep (.sl (.pair (.int .i64) (.int .i64))) b.2.2.1, iL b.2.2.2.1, iL b.2.2.2.2.1]⟩, ⟨(.box false), [.d .fro (.sl (.int .u8)) b.2.2.2.2.2.1, iL b.2.2.2.2.2.2.1, .d .fro (.int .u64) b.2.2.2.2.2.2.2], true, false, false, 0, 0⟩ :: [])
def xs08.un (r : R) : (List (Int × Int)) × (List (Int × Int)) × (List (Int × Int)) × Int × Int × (List Int) × Int × Int := ((leafR r 0).dat (.sl (.pair (.int .i64) (.int .i64))), (leafR r 1).dat (.sl (.pair (.int .i64) (.int .i64))), (leafR r 2).dat (.sl (.pair (.int .i64) (.int .i64))), (leafR r 3).dat (.int .i64), (leafR r 4).dat (.int .i64), (leafF r 0 0).dat (.sl (.int .u8)), (leafF r 0 1).dat (.int .i64), (leafF r 0 2).dat (.int .u64))
noncomputable def xs08 (v0 : List Int) (v1 : Int) (v2 : Int) : Option ((List (Int × Int)) × (List (Int × Int)) × (List (Int × Int)) × Int × Int × (List Int) × Int × Int) := tOf xs08.mk (vlim E 45 (xs08.c v0 v1 v2))
def spec_NewWindow.c : List Cell := []
def spec_NewWindow.mk (b : (List (Int × Int)) × (List (Int × Int)) × (List (Int × Int)) × Int × Int) : R := (⟨.agg, [.d .deep (.sl (.pair (.int .i64) (.int .i64))) b.1, .d .deep (.sl (.pair (.int .i64) (.int .i64))) b.2.1, .d .deep (.sl (.pair (.int .i64) (.int .i64))) b.2.2.1, iL b.2.2.2.1, iL b.2.2.2.2]⟩, [])
def spec_NewWindow.un (r : R) : (List (Int × Int)) × (List (Int × Int)) × (List (Int × Int)) × Int × Int := ((leafR r 0).dat (.sl (.pair (.int .i64) (.int .i64))), (leafR r 1).dat (.sl (.pair (.int .i64) (.int .i64))), (leafR r 2).dat (.sl (.pair (.int .i64) (.int .i64))), (leafR r 3).dat (.int .i64), (leafR r 4).dat (.int .i64))
noncomputable def spec_NewWindow : Option ((List (Int × Int)) × (List (Int × Int)) × (List (Int × Int)) × Int × Int) := tOf spec_NewWindow.mk (vlim E 59 (spec_NewWindow.c))
def spec_PopMap.c (v0 : List (Int × Int)) (v1 : List (Int × Int)) (v2 : List (Int × Int)) (v3 : Int) (v4 : Int) : List Cell := ac [.d .fro (.sl (.pair (.int .i64) (.int .i64))) v0, .d .fro (.sl (.pair (.int .i64) (.int .i64))) v1, .d .fro (.sl (.pair (.int .i64) (.int .i64))) v2, iL v3, iL v4] :: []
def spec_PopMap.mk (b : (List (Int × Int)) × (List (Int × Int)) × (List (Int × Int)) × Int × Int × Int × Int × Int × Bool) : R := (⟨(.tup [some 5, some 2, none, none]), [.d .deep (.sl (.pair (.int .i64) (.int .i64))) b.1, .d .deep (.sl (.pair (.int .i64) (.int .i64))) b.2.1, .d .deep (.sl (.pair (.int .i64) (.int .i64))) b.2.2.1, iL b.2.2.2.1, iL b.2.2.2.2.1, iL b.2.2.2.2.2.1, iL b.2.2.2.2.2.2.1, iL b.2.2.2.2.2.2.2.1, bL b.2.2.2.2.2.2.2.2]⟩, nn 1 ([]))
def spec_PopMap.un (r : R) : (List (Int × Int)) × (List (Int × Int)) × (List (Int × Int)) × Int × Int × Int × Int × Int × Bool := ((leafR r 0).dat (.sl (.pair (.int .i64) (.int .i64))), (leafR r 1).dat (.sl (.pair (.int .i64) (.int .i64))), (leafR r 2).dat (.sl (.pair (.int .i64) (.int .i64))), (leafR r 3).dat (.int .i64), (leafR r 4).dat (.int .i64), (leafR r 5).dat (.int .i64), (leafR r 6).dat (.int .i64), (leafR r 7).dat (.int .i64), (leafR r 8).dat .bool)
noncomputable def spec_PopMap (v0 : List (Int × Int)) (v1 : List (Int × Int)) (v2 : List (Int × Int)) (v3 : Int) (v4 : Int) : Option ((List (Int × Int)) × (List (Int × Int)) × (List (Int × Int)) × Int × Int × Int × Int × Int × Bool) := tOf spec_PopMap.mk (vlim E 23 (spec_PopMap.c v0 v1 v2 v3 v4))
def spec_GoodWindow.c (v0 : List (Int × Int)) (v1 : List (Int × Int)) (v2 : List (Int × Int)) (v3 : Int) (v4 : Int) : List Cell := ac [.d .fro (.sl (.pair (.int .i64) (.int .i64))) v0, .d .fro (.sl (.pair (.int .i64) (.int .i64))) v1, .d .fro (.sl (.pair (.int .i64) (.int .i64))) v2, iL v3, iL v4] :: []
def spec_GoodWindow.mk (b : Bool) : R := (⟨.one, [bL b]⟩, nn 1 ([]))
def spec_GoodWindow.un (r : R) : Bool := ((leafR r 0).dat .bool)
noncomputable def spec_GoodWindow (v0 : List (Int × Int)) (v1 : List (Int × Int)) (v2 : List (Int × Int)) (v3 : Int) (v4 : Int) : Option (Bool) := tOf spec_GoodWindow.mk (vlim E 46 (spec_GoodWindow.c v0 v1 v2 v3 v4))
def spec_l17Turned.c (v0 : List (Int × Int)) : List Cell := vc (.d .fro (.sl (.pair (.int .i64) (.int .i64))) v0) :: []
def spec_l17Turned.mk (b : (List (Int × Int))) : R := (⟨.one, [.d .deep (.sl (.pair (.int .i64) (.int .i64))) b]⟩, nn 1 ([]))
def spec_l17Turned.un (r : R) : (List (Int × Int)) := ((leafR r 0).dat (.sl (.pair (.int .i64) (.int .i64))))
noncomputable def spec_l17Turned (v0 : List (Int × Int)) : Option ((List (Int × Int))) := tOf spec_l17Turned.mk (vlim E 49 (spec_l17Turned.c v0))
def spec_l17Own.c (v0 : List (Int × Int)) (v1 : List (Int × Int)) (v2 : List (Int × Int)) (v3 : Int) (v4 : Int) : List Cell := ac [.d .fro (.sl (.pair (.int .i64) (.int .i64))) v0, .d .fro (.sl (.pair (.int .i64) (.int .i64))) v1, .d .fro (.sl (.pair (.int .i64) (.int .i64))) v2, iL v3, iL v4] :: []
def spec_l17Own.mk (b : (List (Int × Int)) × (List (Int × Int)) × (List (Int × Int)) × Int × Int) : R := (⟨.agg, [.d .deep (.sl (.pair (.int .i64) (.int .i64))) b.1, .d .deep (.sl (.pair (.int .i64) (.int .i64))) b.2.1, .d .deep (.sl (.pair (.int .i64) (.int .i64))) b.2.2.1, iL b.2.2.2.1, iL b.2.2.2.2]⟩, nn 1 ([]))
def spec_l17Own.un (r : R) : (List (Int × Int)) × (List (Int × Int)) × (List (Int × Int)) × Int × Int := ((leafR r 0).dat (.sl (.pair (.int .i64) (.int .i64))), (leafR r 1).dat (.sl (.pair (.int .i64) (.int .i64))), (leafR r 2).dat (.sl (.pair (.int .i64) (.int .i64))), (leafR r 3).dat (.int .i64), (leafR r 4).dat (.int .i64))
noncomputable def spec_l17Own (v0 : List (Int × Int)) (v1 : List (Int × Int)) (v2 : List (Int × Int)) (v3 : Int) (v4 : Int) : Option ((List (Int × Int)) × (List (Int × Int)) × (List (Int × Int)) × Int × Int) := tOf spec_l17Own.mk (vlim E 47 (spec_l17Own.c v0 v1 v2 v3 v4))
def spec_PushMap.c (v0 : List (Int × Int)) (v1 : List (Int × Int)) (v2 : List (Int × Int)) (v3 : Int) (v4 : Int) (v5 : Int) (v6 : Int) : List Cell := ac [.d .fro (.sl (.pair (.int .i64) (.int .i64))) v0, .d .fro (.sl (.pair (.int .i64) (.int .i64))) v1, .d .fro (.sl (.pair (.int .i64) (.int .i64))) v2, iL v3, iL v4] :: ac [iL v5, iL v6] :: []
def spec_PushMap.mk (b : (List (Int × Int)) × (List (Int × Int)) × (List (Int × Int)) × Int × Int × Bool) : R := (⟨(.tup [some 5, none]), [.d .deep (.sl (.pair (.int .i64) (.int .i64))) b.1, .d .deep (.sl (.pair (.int .i64) (.int .i64))) b.2.1, .d .deep (.sl (.pair (.int .i64) (.int .i64))) b.2.2.1, iL b.2.2.2.1, iL b.2.2.2.2.1, bL b.2.2.2.2.2]⟩, nn 2 ([]))
def spec_PushMap.un (r : R) : (List (Int × Int)) × (List (Int × Int)) × (List (Int × Int)) × Int × Int × Bool := ((leafR r 0).dat (.sl (.pair (.int .i64) (.int .i64))), (leafR r 1).dat (.sl (.pair (.int .i64) (.int .i64))), (leafR r 2).dat (.sl (.pair (.int .i64) (.int .i64))), (leafR r 3).dat (.int .i64), (leafR r 4).dat (.int .i64), (leafR r 5).dat .bool)
noncomputable def spec_PushMap (v0 : List (Int × Int)) (v1 : List (Int × Int)) (v2 : List (Int × Int)) (v3 : Int) (v4 : Int) (v5 : Int) (v6 : Int) : Option ((List (Int × Int)) × (List (Int × Int)) × (List (Int × Int)) × Int × Int × Bool) := tOf spec_PushMap.mk (vlim E 22 (spec_PushMap.c v0 v1 v2 v3 v4 v5 v6))
def impl_ItemsIn.c (v0 : List (Int × Int)) (v1 : List (Int × Int)) (v2 : List (Int × Int)) (v3 : Int) (v4 : Int) : List Cell := ac [.d .fro (.sl (.pair (.int .i64) (.int .i64))) v0, .d .fro (.sl (.pair (.int .i64) (.int .i64))) v1, .d .fro (.sl (.pair (.int .i64) (.int .i64))) v2, iL v3, iL v4] :: []
def impl_ItemsIn.mk (b : (List (Int × Int)) × Bool) : R := (⟨(.tup [none, none]), [.d .deep (.sl (.pair (.int .i64) (.int .i64))) b.1, bL b.2]⟩, nn 1 ([]))
def impl_ItemsIn.un (r : R) : (List (Int × Int)) × Bool := ((leafR r 0).dat (.sl (.pair (.int .i64) (.int .i64))), (leafR r 1).dat .bool)
noncomputable def impl_ItemsIn (v0 : List (Int × Int)) (v1 : List (Int × Int)) (v2 : List (Int × Int)) (v3 : Int) (v4 : Int) : Option ((List (Int × Int)) × Bool) := tOf impl_ItemsIn.mk (vlim E 24 (impl_ItemsIn.c v0 v1 v2 v3 v4))
def spec_ItemsIn.c (v0 : List (Int × Int)) (v1 : List (Int × Int)) (v2 : List (Int × Int)) (v3 : Int) (v4 : Int) : List Cell := ac [.d .fro (.sl (.pair (.int .i64) (.int .i64))) v0, .d .fro (.sl (.pair (.int .i64) (.int .i64))) v1, .d .fro (.sl (.pair (.int .i64) (.int .i64))) v2, iL v3, iL v4] :: []
def spec_ItemsIn.mk (b : (List (Int × Int)) × Bool) : R := (⟨(.tup [none, none]), [.d .deep (.sl (.pair (.int .i64) (.int .i64))) b.1, bL b.2]⟩, nn 1 ([]))
def spec_ItemsIn.un (r : R) : (List (Int × Int)) × Bool := ((leafR r 0).dat (.sl (.pair (.int .i64) (.int .i64))), (leafR r 1).dat .bool)
noncomputable def spec_ItemsIn (v0 : List (Int × Int)) (v1 : List (Int × Int)) (v2 : List (Int × Int)) (v3 : Int) (v4 : Int) : Option ((List (Int × Int)) × Bool) := tOf spec_ItemsIn.mk (vlim E 25 (spec_ItemsIn.c v0 v1 v2 v3 v4))
def spec_l17Items.c (v0 : List (Int × Int)) (v1 : List (Int × Int)) (v2 : List (Int × Int)) (v3 : Int) (v4 : Int) : List Cell := ac [.d .fro (.sl (.pair (.int .i64) (.int .i64))) v0, .d .fro (.sl (.pair (.int .i64) (.int .i64))) v1, .d .fro (.sl (.pair (.int .i64) (.int .i64))) v2, iL v3, iL v4] :: []
def spec_l17Items.mk (b : (List (Int × Int))) : R := (⟨.one, [.d .deep (.sl (.pair (.int .i64) (.int .i64))) b]⟩, nn 1 ([]))
def spec_l17Items.un (r : R) : (List (Int × Int)) := ((leafR r 0).dat (.sl (.pair (.int .i64) (.int .i64))))
noncomputable def spec_l17Items (v0 : List (Int × Int)) (v1 : List (Int × Int)) (v2 : List (Int × Int)) (v3 : Int) (v4 : Int) : Option ((List (Int × Int))) := tOf spec_l17Items.mk (vlim E 52 (spec_l17Items.c v0 v1 v2 v3 v4))
def laws_sameWindows.c (v0 : List (Int × Int)) (v1 : List (Int × Int)) (v2 : List (Int × Int)) (v3 : Int) (v4 : Int) (v5 : List (Int × Int)) (v6 : List (Int × Int)) (v7 : List (Int × Int)) (v8 : Int) (v9 : Int) : List Cell := ac [.d .fro (.sl (.pair (.int .i64) (.int .i64))) v0, .d .fro (.sl (.pair (.int .i64) (.int .i64))) v1, .d .fro (.sl (.pair (.int .i64) (.int .i64))) v2, iL v3, iL v4] :: ac [.d .fro (.sl (.pair (.int .i64) (.int .i64))) v5, .d .fro (.sl (.pair (.int .i64) (.int .i64))) v6, .d .fro (.sl (.pair (.int .i64) (.int .i64))) v7, iL v8, iL v9] :: []
def laws_sameWindows.mk (b : Bool) : R := (⟨.one, [bL b]⟩, nn 2 ([]))
def laws_sameWindows.un (r : R) : Bool := ((leafR r 0).dat .bool)
noncomputable def laws_sameWindows (v0 : List (Int × Int)) (v1 : List (Int × Int)) (v2 : List (Int × Int)) (v3 : Int) (v4 : Int) (v5 : List (Int × Int)) (v6 : List (Int × Int)) (v7 : List (Int × Int)) (v8 : Int) (v9 : Int) : Option (Bool) := tOf laws_sameWindows.mk (vlim E 26 (laws_sameWindows.c v0 v1 v2 v3 v4 v5 v6 v7 v8 v9))
def laws_numberOf.c (v0 : List Int) : List Cell := vc (.d .fro (.sl (.int .u8)) v0) :: []
def laws_numberOf.mk (b : Int) : R := (⟨.one, [iL b]⟩, nn 1 ([]))
def laws_numberOf.un (r : R) : Int := ((leafR r 0).dat (.int .i64))
noncomputable def laws_numberOf (v0 : List Int) : Option (Int) := tOf laws_numberOf.mk (vlim E 28 (laws_numberOf.c v0))
def tabT : List (Nat × List (List Cell × Tb)) := [
 (4, [(laws_FnWindows.c [] [], .one (Bool) laws_FnWindows.mk)]),
 (8, [(laws_sameMaps.c [] [], .one (Bool) laws_sameMaps.mk)]),
 (9, [(impl_NewWindow.c , .one ((List (Int × Int)) × (List (Int × Int)) × (List (Int × Int)) × Int × Int) impl_NewWindow.mk)]),
 (10, [(impl_PopMap.c [] [] [] 0 0, .one ((List (Int × Int)) × (List (Int × Int)) × (List (Int × Int)) × Int × Int × Int × Int × Int × Bool) impl_PopMap.mk)]),
 (11, [(impl_PushMap.c [] [] [] 0 0 0 0, .one ((List (Int × Int)) × (List (Int × Int)) × (List (Int × Int)) × Int × Int × Bool) impl_PushMap.mk)]),
 (12, [(impl_WindowSum.c [] [] [] 0 0, .one (Int × Int × Bool) impl_WindowSum.mk)]),
 (17, [(impl_ApplyMap.c 0 0 0, .one (Int × Bool) impl_ApplyMap.mk)]),
 (19, [(impl_GoodMap.c 0 0, .one (Bool) impl_GoodMap.mk)]),
 (20, [(spec_GoodMap.c 0 0, .one (Bool) spec_GoodMap.mk)]),
 (21, [(spec_DrawPushMap.c [], .one ((List (Int × Int)) × (List (Int × Int)) × (List (Int × Int)) × Int × Int × Int × Int) spec_DrawPushMap.mk)]),
 (22, [(spec_PushMap.c [] [] [] 0 0 0 0, .one ((List (Int × Int)) × (List (Int × Int)) × (List (Int × Int)) × Int × Int × Bool) spec_PushMap.mk)]),
 (23, [(spec_PopMap.c [] [] [] 0 0, .one ((List (Int × Int)) × (List (Int × Int)) × (List (Int × Int)) × Int × Int × Int × Int × Int × Bool) spec_PopMap.mk)]),
 (24, [(impl_ItemsIn.c [] [] [] 0 0, .one ((List (Int × Int)) × Bool) impl_ItemsIn.mk)]),
 (25, [(spec_ItemsIn.c [] [] [] 0 0, .one ((List (Int × Int)) × Bool) spec_ItemsIn.mk)]),
 (26, [(laws_sameWindows.c [] [] [] 0 0 [] [] [] 0 0, .one (Bool) laws_sameWindows.mk)]),
 (27, [(impl_GoodWindow.c [] [] [] 0 0, .one (Bool) impl_GoodWindow.mk)]),
 (28, [(laws_numberOf.c [], .one (Int) laws_numberOf.mk)]),
 (29, [(xs0d.c [] 0 0 0, .one (Int × (List Int) × Int × Int) xs0d.mk)]),
 (30, [(spec_l1Cur_one_e61.c [] 0 0 0, .one (Bool × (List Int) × Int × Int) spec_l1Cur_one_e61.mk)]),
 (31, [(xs07.c [] 0 0, .one (Int × Int × (List Int) × Int × Int) xs07.mk)]),
 (32, [(xs0a.c [] 0 0 [], .one (Int × (List Int) × Int × Int) xs0a.mk)]),
 (33, [(xi04.c [], .one (Bool) xi04.mk)]),
 (34, [(impl_within.c 0 0 0, .one (Bool) impl_within.mk)]),
 (35, [(xi0b.c [] [] [] 0 0, .one (Int × Int × Int × (List (Int × Int)) × (List (Int × Int)) × (List (Int × Int)) × Int × Int) xi0b.mk)]),
 (36, [(xi09.c [] [] [] 0 0 0 0, .one ((List (Int × Int)) × (List (Int × Int)) × (List (Int × Int)) × Int × Int) xi09.mk)]),
 (37, [(impl_Window_sum.c [] [] [] 0 0, .one (Int × Int) impl_Window_sum.mk)]),
 (38, [(spec_l1In.c 0 0 0, .one (Bool) spec_l1In.mk)]),
 (39, [(spec_l17All.c [], .one (Int × Int) spec_l17All.mk)]),
 (40, [(impl_same.c , .one (Int × Int) impl_same.mk)]),
 (41, [(impl_Window_own.c [] [] [] 0 0, .one ((List (Int × Int)) × (List (Int × Int)) × (List (Int × Int)) × Int × Int) impl_Window_own.mk)]),
 (42, [(impl_Map_then.c 0 0 0 0, .one (Int × Int) impl_Map_then.mk)]),
 (43, [(spec_l17Then.c 0 0 0 0, .one (Int × Int) spec_l17Then.mk)]),
 (44, [(impl_isRest.c 0, .one (Bool) impl_isRest.mk)]),
 (45, [(xs08.c [] 0 0, .one ((List (Int × Int)) × (List (Int × Int)) × (List (Int × Int)) × Int × Int × (List Int) × Int × Int) xs08.mk)]),
 (46, [(spec_GoodWindow.c [] [] [] 0 0, .one (Bool) spec_GoodWindow.mk)]),
 (47, [(spec_l17Own.c [] [] [] 0 0, .one ((List (Int × Int)) × (List (Int × Int)) × (List (Int × Int)) × Int × Int) spec_l17Own.mk)]),
 (48, [(spec_l17One.c , .one (Int × Int) spec_l17One.mk)]),
 (49, [(spec_l17Turned.c [], .one ((List (Int × Int))) spec_l17Turned.mk)]),
 (50, [(xs05.c [], .one ((List (Int × Int))) xs05.mk)]),
 (51, [(xs02.c [], .one ((List (Int × Int))) xs02.mk)]),
 (52, [(spec_l17Items.c [] [] [] 0 0, .one ((List (Int × Int))) spec_l17Items.mk)]),
 (53, [(xs06.c [] [], .one (Bool) xs06.mk)]),
 (54, [(impl_sumsOf.c [], .one ((List (Int × Int))) impl_sumsOf.mk)]),
 (55, [(impl_composed.c [], .one (Int × Int) impl_composed.mk)]),
 (56, [(xs0c.c [] 0 0, .one (Int × (List Int) × Int × Int) xs0c.mk)]),
 (57, [(xs00.c [], .one (Bool) xs00.mk)]),
 (58, [(xi03.c 0 0, .one (Bool) xi03.mk)]),
 (59, [(spec_NewWindow.c , .one ((List (Int × Int)) × (List (Int × Int)) × (List (Int × Int)) × Int × Int) spec_NewWindow.mk)]),
 (60, [(xs01.c [], .one (Int) xs01.mk)])]
def tab : FuncId → List Cell → Tb := fun g cs => match assoc tabT g with | some l => pickT l cs | none => .no
end GoV

/- Equations of the program's functions (printed by wip/tools/emit.py). -/
namespace GoV
open Go Go.Proofs
set_option maxRecDepth 100000

noncomputable def xs0d.t {γ : Type} (ret : (Int × (List Int) × Int × Int) → Option γ) (v0 : List Int) (v1 : Int) (v2 : Int) (v3 : Int) : Option γ :=
 bif decide (v3 ≤ (1 : Int)) then
  ret ((0 : Int), v0, v1, v2)
 else
  (xs0c (v0) (v1) (v2)).bind fun (r0 : Int × (List Int) × Int × Int) =>
  bif decide (v3 > (200 : Int)) then
   (xs0c (r0.snd.fst) (r0.snd.snd.fst) (r0.snd.snd.snd)).bind fun (r1 : Int × (List Int) × Int × Int) =>
   bif decide (v3 ≠ (0 : Int)) then
    ret ((IntKind.i64.wrap (IntKind.i64.wrap (r0.fst * (256 : Int)) + r1.fst)).tmod v3, r1.snd.fst, r1.snd.snd.fst, r1.snd.snd.snd)
   else
    none
  else
   bif decide (v3 ≠ (0 : Int)) then
    ret (r0.fst.tmod v3, r0.snd.fst, r0.snd.snd.fst, r0.snd.snd.snd)
   else
    none
theorem xs0d.k (v0 : List Int) (v1 : Int) (v2 : Int) (v3 : Int) : topL E (callT E tab) 29 Try.f29 (xs0d.c v0 v1 v2 v3) = xs0d.t (fun b => some (xs0d.mk b)) v0 v1 v2 v3 := by kernel_rfl
theorem xs0d.eq (v0 : List Int) (v1 : Int) (v2 : Int) (v3 : Int) {b : Int × (List Int) × Int × Int} (h : xs0d.t some v0 v1 v2 v3 = some b) : xs0d v0 v1 v2 v3 = some b := tOf_intro xs0d.un (fun _ => by kernel_rfl) (vlim_fn (callT_le E tab) rfl rfl rfl ((xs0d.k v0 v1 v2 v3).trans ((by unfold xs0d.t; repeat' first | exact Sub.ret | exact Sub.none | exact Sub.loop | apply Sub.cond | (apply Sub.bind; intro _) : Sub xs0d.mk _ _) b h)))
noncomputable def xs0c.t {γ : Type} (ret : (Int × (List Int) × Int × Int) → Option γ) (v0 : List Int) (v1 : Int) (v2 : Int) : Option γ :=
 bif decide (v1 < (↑v0.length : Int)) then
  bif decide ((0 : Int) ≤ v1) then
   bif decide (v1.toNat < v0.length) then
    bif decide (IntKind.i64.wrap (v1 + (1 : Int)) ≤ (↑v0.length : Int)) then
     ret (IntKind.i64.wrap (v0.getD v1.toNat (0 : Int)), v0, IntKind.i64.wrap (v1 + (1 : Int)), IntKind.u64.wrap   (IntKind.u64.wrap       (IntKind.u64.wrap (v2 * (6364136223846793005 : Int)) +         IntKind.u64.wrap (IntKind.i64.wrap (v0.getD v1.toNat (0 : Int)))) +     (1442695040888963407 : Int)))
    else
     ret (IntKind.i64.wrap   (IntKind.u64.wrap     (↑(BitVec.ofInt IntKind.u64.bits               ((IntKind.u64.wrap                     (IntKind.u64.wrap                         (IntKind.u64.wrap (v2 * (6364136223846793005 : Int)) +                           IntKind.u64.wrap (IntKind.i64.wrap (v0.getD v1.toNat (0 : Int)))) +                       (1442695040888963407 : Int))).fdiv                 ((2 : Int) ^ Min.min (Int.toNat (40 : Int)) IntKind.u64.bits)) &&&             BitVec.ofInt IntKind.u64.bits (255 : Int)).toNat :       Int)), v0, IntKind.i64.wrap (v1 + (1 : Int)), IntKind.u64.wrap   (IntKind.u64.wrap       (IntKind.u64.wrap (v2 * (6364136223846793005 : Int)) +         IntKind.u64.wrap (IntKind.i64.wrap (v0.getD v1.toNat (0 : Int)))) +     (1442695040888963407 : Int)))
   else
    none
  else
   none
 else
  bif decide (IntKind.i64.wrap (v1 + (1 : Int)) ≤ (↑v0.length : Int)) then
   ret ((0 : Int), v0, IntKind.i64.wrap (v1 + (1 : Int)), IntKind.u64.wrap   (IntKind.u64.wrap (IntKind.u64.wrap (v2 * (6364136223846793005 : Int)) + IntKind.u64.wrap (0 : Int)) +     (1442695040888963407 : Int)))
  else
   ret (IntKind.i64.wrap   (IntKind.u64.wrap     (↑(BitVec.ofInt IntKind.u64.bits               ((IntKind.u64.wrap                     (IntKind.u64.wrap                         (IntKind.u64.wrap (v2 * (6364136223846793005 : Int)) + IntKind.u64.wrap (0 : Int)) +                       (1442695040888963407 : Int))).fdiv                 ((2 : Int) ^ Min.min (Int.toNat (40 : Int)) IntKind.u64.bits)) &&&             BitVec.ofInt IntKind.u64.bits (255 : Int)).toNat :       Int)), v0, IntKind.i64.wrap (v1 + (1 : Int)), IntKind.u64.wrap   (IntKind.u64.wrap (IntKind.u64.wrap (v2 * (6364136223846793005 : Int)) + IntKind.u64.wrap (0 : Int)) +     (1442695040888963407 : Int)))
theorem xs0c.k (v0 : List Int) (v1 : Int) (v2 : Int) : topL E (callT E tab) 56 Try.f56 (xs0c.c v0 v1 v2) = xs0c.t (fun b => some (xs0c.mk b)) v0 v1 v2 := by kernel_rfl
theorem xs0c.eq (v0 : List Int) (v1 : Int) (v2 : Int) {b : Int × (List Int) × Int × Int} (h : xs0c.t some v0 v1 v2 = some b) : xs0c v0 v1 v2 = some b := tOf_intro xs0c.un (fun _ => by kernel_rfl) (vlim_fn (callT_le E tab) rfl rfl rfl ((xs0c.k v0 v1 v2).trans ((by unfold xs0c.t; repeat' first | exact Sub.ret | exact Sub.none | exact Sub.loop | apply Sub.cond | (apply Sub.bind; intro _) : Sub xs0c.mk _ _) b h)))
noncomputable def spec_l1Cur_one_e61.t {γ : Type} (ret : (Bool × (List Int) × Int × Int) → Option γ) (v0 : List Int) (v1 : Int) (v2 : Int) (v3 : Int) : Option γ :=
 (xs0d (v0) (v1) (v2) (v3)).bind fun (r0 : Int × (List Int) × Int × Int) =>
 ret (r0.fst == (0 : Int), r0.snd.fst, r0.snd.snd.fst, r0.snd.snd.snd)
theorem spec_l1Cur_one_e61.k (v0 : List Int) (v1 : Int) (v2 : Int) (v3 : Int) : topL E (callT E tab) 30 Try.f30 (spec_l1Cur_one_e61.c v0 v1 v2 v3) = spec_l1Cur_one_e61.t (fun b => some (spec_l1Cur_one_e61.mk b)) v0 v1 v2 v3 := by kernel_rfl
theorem spec_l1Cur_one_e61.eq (v0 : List Int) (v1 : Int) (v2 : Int) (v3 : Int) {b : Bool × (List Int) × Int × Int} (h : spec_l1Cur_one_e61.t some v0 v1 v2 v3 = some b) : spec_l1Cur_one_e61 v0 v1 v2 v3 = some b := tOf_intro spec_l1Cur_one_e61.un (fun _ => by kernel_rfl) (vlim_fn (callT_le E tab) rfl rfl rfl ((spec_l1Cur_one_e61.k v0 v1 v2 v3).trans ((by unfold spec_l1Cur_one_e61.t; repeat' first | exact Sub.ret | exact Sub.none | exact Sub.loop | apply Sub.cond | (apply Sub.bind; intro _) : Sub spec_l1Cur_one_e61.mk _ _) b h)))
noncomputable def xs07.t {γ : Type} (ret : (Int × Int × (List Int) × Int × Int) → Option γ) (v0 : List Int) (v1 : Int) (v2 : Int) : Option γ :=
 (xs0d (v0) (v1) (v2) ((1009 : Int))).bind fun (r0 : Int × (List Int) × Int × Int) =>
 (xs0d (r0.snd.fst) (r0.snd.snd.fst) (r0.snd.snd.snd) ((1009 : Int))).bind fun (r1 : Int × (List Int) × Int × Int) =>
 (xs0d (r1.snd.fst) (r1.snd.snd.fst) (r1.snd.snd.snd) ((30 : Int))).bind fun (r2 : Int × (List Int) × Int × Int) =>
 bif r2.fst == (0 : Int) then
  (xs0a (r2.snd.fst) (r2.snd.snd.fst) (r2.snd.snd.snd) ([(-1 : Int), (0 : Int), (1 : Int), (1008 : Int), (1009 : Int)])).bind fun (r3 : Int × (List Int) × Int × Int) =>
  ret (r3.fst, r1.fst, r3.snd.fst, r3.snd.snd.fst, r3.snd.snd.snd)
 else
  bif r2.fst == (1 : Int) then
   ret ((1 : Int), (0 : Int), r2.snd.fst, r2.snd.snd.fst, r2.snd.snd.snd)
  else
   ret (r0.fst, r1.fst, r2.snd.fst, r2.snd.snd.fst, r2.snd.snd.snd)
theorem xs07.k (v0 : List Int) (v1 : Int) (v2 : Int) : topL E (callT E tab) 31 Try.f31 (xs07.c v0 v1 v2) = xs07.t (fun b => some (xs07.mk b)) v0 v1 v2 := by kernel_rfl
theorem xs07.eq (v0 : List Int) (v1 : Int) (v2 : Int) {b : Int × Int × (List Int) × Int × Int} (h : xs07.t some v0 v1 v2 = some b) : xs07 v0 v1 v2 = some b := tOf_intro xs07.un (fun _ => by kernel_rfl) (vlim_fn (callT_le E tab) rfl rfl rfl ((xs07.k v0 v1 v2).trans ((by unfold xs07.t; repeat' first | exact Sub.ret | exact Sub.none | exact Sub.loop | apply Sub.cond | (apply Sub.bind; intro _) : Sub xs07.mk _ _) b h)))
noncomputable def xs0a.t {γ : Type} (ret : (Int × (List Int) × Int × Int) → Option γ) (v0 : List Int) (v1 : Int) (v2 : Int) (v3 : List Int) : Option γ :=
 (xs0d (v0) (v1) (v2) ((↑v3.length : Int))).bind fun (r0 : Int × (List Int) × Int × Int) =>
 bif decide ((0 : Int) ≤ r0.fst) then
  bif decide (r0.fst.toNat < v3.length) then
   ret (v3.getD r0.fst.toNat (0 : Int), r0.snd.fst, r0.snd.snd.fst, r0.snd.snd.snd)
  else
   none
 else
  none
theorem xs0a.k (v0 : List Int) (v1 : Int) (v2 : Int) (v3 : List Int) : topL E (callT E tab) 32 Try.f32 (xs0a.c v0 v1 v2 v3) = xs0a.t (fun b => some (xs0a.mk b)) v0 v1 v2 v3 := by kernel_rfl
theorem xs0a.eq (v0 : List Int) (v1 : Int) (v2 : Int) (v3 : List Int) {b : Int × (List Int) × Int × Int} (h : xs0a.t some v0 v1 v2 v3 = some b) : xs0a v0 v1 v2 v3 = some b := tOf_intro xs0a.un (fun _ => by kernel_rfl) (vlim_fn (callT_le E tab) rfl rfl rfl ((xs0a.k v0 v1 v2 v3).trans ((by unfold xs0a.t; repeat' first | exact Sub.ret | exact Sub.none | exact Sub.loop | apply Sub.cond | (apply Sub.bind; intro _) : Sub xs0a.mk _ _) b h)))
noncomputable def xi04.t {γ : Type} (ret : (Bool) → Option γ) (v0 : List (Int × Int)) : Option γ :=
 (xs00 (v0)).bind fun (r0 : Bool) =>
 ret (!r0)
theorem xi04.k (v0 : List (Int × Int)) : topL E (callT E tab) 33 Try.f33 (xi04.c v0) = xi04.t (fun b => some (xi04.mk b)) v0 := by kernel_rfl
theorem xi04.eq (v0 : List (Int × Int)) {b : Bool} (h : xi04.t some v0 = some b) : xi04 v0 = some b := tOf_intro xi04.un (fun _ => by kernel_rfl) (vlim_fn (callT_le E tab) rfl rfl rfl ((xi04.k v0).trans ((by unfold xi04.t; repeat' first | exact Sub.ret | exact Sub.none | exact Sub.loop | apply Sub.cond | (apply Sub.bind; intro _) : Sub xi04.mk _ _) b h)))
noncomputable def xs00.t {γ : Type} (ret : (Bool) → Option γ) (v0 : List (Int × Int)) : Option γ :=
 (xs01 (v0)).bind fun (r0 : Int) =>
 ret (decide (r0 ≥ (0 : Int)))
theorem xs00.k (v0 : List (Int × Int)) : topL E (callT E tab) 57 Try.f57 (xs00.c v0) = xs00.t (fun b => some (xs00.mk b)) v0 := by kernel_rfl
theorem xs00.eq (v0 : List (Int × Int)) {b : Bool} (h : xs00.t some v0 = some b) : xs00 v0 = some b := tOf_intro xs00.un (fun _ => by kernel_rfl) (vlim_fn (callT_le E tab) rfl rfl rfl ((xs00.k v0).trans ((by unfold xs00.t; repeat' first | exact Sub.ret | exact Sub.none | exact Sub.loop | apply Sub.cond | (apply Sub.bind; intro _) : Sub xs00.mk _ _) b h)))
noncomputable def xs01.q2 (v0 : List (Int × Int)) (v1 : Int) (v2 : Int) : Option R := loopAtL E (callT E tab) 60 Try.f60 2 [.r, .l, .r, .b] (vc (.d .fro (.sl (.pair (.int .i64) (.int .i64))) v0) :: vc (.fn 58 [.rp [.fn 19 []] 0]) :: nn 5 (vc (iL v1) :: vc (iL v2) :: nn 10 ([])))
noncomputable def xs01.l2 (v0 : List (Int × Int)) (v1 : Int) (v2 : Int) : Option (Int) := tOf xs01.mk (xs01.q2 v0 v1 v2)
noncomputable def xs01.t {γ : Type} (ret : (Int) → Option γ) (lp2 : (List (Int × Int)) → Int → Int → Option γ) (v0 : List (Int × Int)) : Option γ :=
 lp2 (v0) ((↑v0.length : Int)) ((0 : Int))
noncomputable def xs01.t2 {γ : Type} (ret : (Int) → Option γ) (lp2 : (List (Int × Int)) → Int → Int → Option γ) (v0 : List (Int × Int)) (v1 : Int) (v2 : Int) : Option γ :=
 bif decide (v2 < v1) then
  bif decide ((0 : Int) ≤ v2) then
   bif decide (v2.toNat < v0.length) then
    (xi03 ((v0.getD v2.toNat ((0 : Int), (0 : Int))).fst) ((v0.getD v2.toNat ((0 : Int), (0 : Int))).snd)).bind fun (r0 : Bool) =>
    bif r0 then
     ret (v2)
    else
     lp2 (v0) (v1) (IntKind.i64.wrap (v2 + (1 : Int)))
   else
    none
  else
   none
 else
  ret ((-1 : Int))
theorem xs01.k (v0 : List (Int × Int)) : topL E (callT E tab) 60 Try.f60 (xs01.c v0) = xs01.t (fun b => some (xs01.mk b)) xs01.q2 v0 := by kernel_rfl
theorem xs01.k2 (v0 : List (Int × Int)) (v1 : Int) (v2 : Int) : roundL E (callT E tab) 60 Try.f60 2 [.r, .l, .r, .b] (vc (.d .fro (.sl (.pair (.int .i64) (.int .i64))) v0) :: vc (.fn 58 [.rp [.fn 19 []] 0]) :: nn 5 (vc (iL v1) :: vc (iL v2) :: nn 10 ([]))) = xs01.t2 (fun b => some (xs01.mk b)) xs01.q2 v0 v1 v2 := by kernel_rfl
theorem xs01.eq (v0 : List (Int × Int)) {b : Int} (h : xs01.t some xs01.l2 v0 = some b) : xs01 v0 = some b := tOf_intro xs01.un (fun _ => by kernel_rfl) (vlim_fn (callT_le E tab) rfl rfl rfl ((xs01.k v0).trans ((by unfold xs01.t; repeat' first | exact Sub.ret | exact Sub.none | exact Sub.loop | apply Sub.cond | (apply Sub.bind; intro _) : Sub xs01.mk _ _) b h)))
theorem xs01.eq2 (v0 : List (Int × Int)) (v1 : Int) (v2 : Int) {b : Int} (h : xs01.t2 some xs01.l2 v0 v1 v2 = some b) : xs01.l2 v0 v1 v2 = some b := tOf_intro xs01.un (fun _ => by kernel_rfl) (loopAtL_step ((xs01.k2 v0 v1 v2).trans ((by unfold xs01.t2; repeat' first | exact Sub.ret | exact Sub.none | exact Sub.loop | apply Sub.cond | (apply Sub.bind; intro _) : Sub xs01.mk _ _) b h)))
noncomputable def xi03.t {γ : Type} (ret : (Bool) → Option γ) (v0 : Int) (v1 : Int) : Option γ :=
 (impl_GoodMap (v0) (v1)).bind fun (r0 : Bool) =>
 ret (!r0)
theorem xi03.k (v0 : Int) (v1 : Int) : topL E (callT E tab) 58 Try.f58 (xi03.c v0 v1) = xi03.t (fun b => some (xi03.mk b)) v0 v1 := by kernel_rfl
theorem xi03.eq (v0 : Int) (v1 : Int) {b : Bool} (h : xi03.t some v0 v1 = some b) : xi03 v0 v1 = some b := tOf_intro xi03.un (fun _ => by kernel_rfl) (vlim_fn (callT_le E tab) rfl rfl rfl ((xi03.k v0 v1).trans ((by unfold xi03.t; repeat' first | exact Sub.ret | exact Sub.none | exact Sub.loop | apply Sub.cond | (apply Sub.bind; intro _) : Sub xi03.mk _ _) b h)))
noncomputable def impl_GoodMap.t {γ : Type} (ret : (Bool) → Option γ) (v0 : Int) (v1 : Int) : Option γ :=
 (impl_isRest (v0)).bind fun (r0 : Bool) =>
 bif r0 then
  (impl_isRest (v1)).bind fun (r1 : Bool) =>
  ret (r1)
 else
  ret (Bool.false)
theorem impl_GoodMap.k (v0 : Int) (v1 : Int) : topL E (callT E tab) 19 Try.f19 (impl_GoodMap.c v0 v1) = impl_GoodMap.t (fun b => some (impl_GoodMap.mk b)) v0 v1 := by kernel_rfl
theorem impl_GoodMap.eq (v0 : Int) (v1 : Int) {b : Bool} (h : impl_GoodMap.t some v0 v1 = some b) : impl_GoodMap v0 v1 = some b := tOf_intro impl_GoodMap.un (fun _ => by kernel_rfl) (vlim_fn (callT_le E tab) rfl rfl rfl ((impl_GoodMap.k v0 v1).trans ((by unfold impl_GoodMap.t; repeat' first | exact Sub.ret | exact Sub.none | exact Sub.loop | apply Sub.cond | (apply Sub.bind; intro _) : Sub impl_GoodMap.mk _ _) b h)))
noncomputable def impl_isRest.t {γ : Type} (ret : (Bool) → Option γ) (v0 : Int) : Option γ :=
 (impl_within (v0) ((0 : Int)) ((1008 : Int))).bind fun (r0 : Bool) =>
 ret (r0)
theorem impl_isRest.k (v0 : Int) : topL E (callT E tab) 44 Try.f44 (impl_isRest.c v0) = impl_isRest.t (fun b => some (impl_isRest.mk b)) v0 := by kernel_rfl
theorem impl_isRest.eq (v0 : Int) {b : Bool} (h : impl_isRest.t some v0 = some b) : impl_isRest v0 = some b := tOf_intro impl_isRest.un (fun _ => by kernel_rfl) (vlim_fn (callT_le E tab) rfl rfl rfl ((impl_isRest.k v0).trans ((by unfold impl_isRest.t; repeat' first | exact Sub.ret | exact Sub.none | exact Sub.loop | apply Sub.cond | (apply Sub.bind; intro _) : Sub impl_isRest.mk _ _) b h)))
noncomputable def impl_within.t {γ : Type} (ret : (Bool) → Option γ) (v0 : Int) (v1 : Int) (v2 : Int) : Option γ :=
 bif decide (v1 ≤ v0) then
  ret (decide (v0 ≤ v2))
 else
  ret (Bool.false)
theorem impl_within.k (v0 : Int) (v1 : Int) (v2 : Int) : topL E (callT E tab) 34 Try.f34 (impl_within.c v0 v1 v2) = impl_within.t (fun b => some (impl_within.mk b)) v0 v1 v2 := by kernel_rfl
theorem impl_within.eq (v0 : Int) (v1 : Int) (v2 : Int) {b : Bool} (h : impl_within.t some v0 v1 v2 = some b) : impl_within v0 v1 v2 = some b := tOf_intro impl_within.un (fun _ => by kernel_rfl) (vlim_fn (callT_le E tab) rfl rfl rfl ((impl_within.k v0 v1 v2).trans ((by unfold impl_within.t; repeat' first | exact Sub.ret | exact Sub.none | exact Sub.loop | apply Sub.cond | (apply Sub.bind; intro _) : Sub impl_within.mk _ _) b h)))
noncomputable def impl_NewWindow.t {γ : Type} (ret : ((List (Int × Int)) × (List (Int × Int)) × (List (Int × Int)) × Int × Int) → Option γ) : Option γ :=
 (impl_same ).bind fun (r0 : Int × Int) =>
 ret ([], [], [], r0.fst, r0.snd)
theorem impl_NewWindow.k : topL E (callT E tab) 9 Try.f9 (impl_NewWindow.c) = impl_NewWindow.t (fun b => some (impl_NewWindow.mk b)) := by kernel_rfl
theorem impl_NewWindow.eq {b : (List (Int × Int)) × (List (Int × Int)) × (List (Int × Int)) × Int × Int} (h : impl_NewWindow.t some = some b) : impl_NewWindow = some b := tOf_intro impl_NewWindow.un (fun _ => by kernel_rfl) (vlim_fn (callT_le E tab) rfl rfl rfl ((impl_NewWindow.k).trans ((by unfold impl_NewWindow.t; repeat' first | exact Sub.ret | exact Sub.none | exact Sub.loop | apply Sub.cond | (apply Sub.bind; intro _) : Sub impl_NewWindow.mk _ _) b h)))
noncomputable def impl_same.t {γ : Type} (ret : (Int × Int) → Option γ) : Option γ :=
 ret ((1 : Int), (0 : Int))
theorem impl_same.k : topL E (callT E tab) 40 Try.f40 (impl_same.c) = impl_same.t (fun b => some (impl_same.mk b)) := by kernel_rfl
theorem impl_same.eq {b : Int × Int} (h : impl_same.t some = some b) : impl_same = some b := tOf_intro impl_same.un (fun _ => by kernel_rfl) (vlim_fn (callT_le E tab) rfl rfl rfl ((impl_same.k).trans ((by unfold impl_same.t; repeat' first | exact Sub.ret | exact Sub.none | exact Sub.loop | apply Sub.cond | (apply Sub.bind; intro _) : Sub impl_same.mk _ _) b h)))
noncomputable def xi0b.t {γ : Type} (ret : (Int × Int × Int × (List (Int × Int)) × (List (Int × Int)) × (List (Int × Int)) × Int × Int) → Option γ) (v0 : List (Int × Int)) (v1 : List (Int × Int)) (v2 : List (Int × Int)) (v3 : Int) (v4 : Int) : Option γ :=
 bif (↑v0.length : Int) == (0 : Int) then
  (xs02 (v2)).bind fun (r0 : (List (Int × Int))) =>
  (impl_sumsOf (r0)).bind fun (r1 : (List (Int × Int))) =>
  (impl_same ).bind fun (r2 : Int × Int) =>
  bif decide ((0 : Int) ≤ IntKind.i64.wrap ((↑r0.length : Int) - (1 : Int))) then
   bif decide ((IntKind.i64.wrap ((↑r0.length : Int) - (1 : Int))).toNat < r0.length) then
    bif decide ((IntKind.i64.wrap ((↑r0.length : Int) - (1 : Int))).toNat < r0.length) then
     bif decide (Option.none.getD (0 : Int) ≤ IntKind.i64.wrap ((↑r0.length : Int) - (1 : Int))) then
      bif decide (IntKind.i64.wrap ((↑r0.length : Int) - (1 : Int)) ≤ (↑r0.length : Int)) then
       bif decide (Option.none.getD (0 : Int) ≤ IntKind.i64.wrap ((↑r0.length : Int) - (1 : Int))) then
        bif decide (IntKind.i64.wrap ((↑r0.length : Int) - (1 : Int)) ≤ (↑r1.length : Int)) then
         ret ((r0.getD (IntKind.i64.wrap ((↑r0.length : Int) - (1 : Int))).toNat ((0 : Int), (0 : Int))).fst, (r0.getD (IntKind.i64.wrap ((↑r0.length : Int) - (1 : Int))).toNat ((0 : Int), (0 : Int))).snd, (↑v2.length : Int), List.take (IntKind.i64.wrap ((↑r0.length : Int) - (1 : Int)) - Option.none.getD (0 : Int)).toNat   (List.drop (Option.none.getD (0 : Int)).toNat r0), List.take (IntKind.i64.wrap ((↑r0.length : Int) - (1 : Int)) - Option.none.getD (0 : Int)).toNat   (List.drop (Option.none.getD (0 : Int)).toNat r1), [], r2.fst, r2.snd)
        else
         none
       else
        none
      else
       none
     else
      none
    else
     none
   else
    none
  else
   none
 else
  bif decide ((0 : Int) ≤ IntKind.i64.wrap ((↑v0.length : Int) - (1 : Int))) then
   bif decide ((IntKind.i64.wrap ((↑v0.length : Int) - (1 : Int))).toNat < v0.length) then
    bif decide ((IntKind.i64.wrap ((↑v0.length : Int) - (1 : Int))).toNat < v0.length) then
     bif decide (Option.none.getD (0 : Int) ≤ IntKind.i64.wrap ((↑v0.length : Int) - (1 : Int))) then
      bif decide (IntKind.i64.wrap ((↑v0.length : Int) - (1 : Int)) ≤ (↑v0.length : Int)) then
       bif decide (Option.none.getD (0 : Int) ≤ IntKind.i64.wrap ((↑v0.length : Int) - (1 : Int))) then
        bif decide (IntKind.i64.wrap ((↑v0.length : Int) - (1 : Int)) ≤ (↑v1.length : Int)) then
         ret ((v0.getD (IntKind.i64.wrap ((↑v0.length : Int) - (1 : Int))).toNat ((0 : Int), (0 : Int))).fst, (v0.getD (IntKind.i64.wrap ((↑v0.length : Int) - (1 : Int))).toNat ((0 : Int), (0 : Int))).snd, (0 : Int), List.take (IntKind.i64.wrap ((↑v0.length : Int) - (1 : Int)) - Option.none.getD (0 : Int)).toNat   (List.drop (Option.none.getD (0 : Int)).toNat v0), List.take (IntKind.i64.wrap ((↑v0.length : Int) - (1 : Int)) - Option.none.getD (0 : Int)).toNat   (List.drop (Option.none.getD (0 : Int)).toNat v1), v2, v3, v4)
        else
         none
       else
        none
      else
       none
     else
      none
    else
     none
   else
    none
  else
   none
theorem xi0b.k (v0 : List (Int × Int)) (v1 : List (Int × Int)) (v2 : List (Int × Int)) (v3 : Int) (v4 : Int) : topL E (callT E tab) 35 Try.f35 (xi0b.c v0 v1 v2 v3 v4) = xi0b.t (fun b => some (xi0b.mk b)) v0 v1 v2 v3 v4 := by kernel_rfl
theorem xi0b.eq (v0 : List (Int × Int)) (v1 : List (Int × Int)) (v2 : List (Int × Int)) (v3 : Int) (v4 : Int) {b : Int × Int × Int × (List (Int × Int)) × (List (Int × Int)) × (List (Int × Int)) × Int × Int} (h : xi0b.t some v0 v1 v2 v3 v4 = some b) : xi0b v0 v1 v2 v3 v4 = some b := tOf_intro xi0b.un (fun _ => by kernel_rfl) (vlim_fn (callT_le E tab) rfl rfl rfl ((xi0b.k v0 v1 v2 v3 v4).trans ((by unfold xi0b.t; repeat' first | exact Sub.ret | exact Sub.none | exact Sub.loop | apply Sub.cond | (apply Sub.bind; intro _) : Sub xi0b.mk _ _) b h)))
noncomputable def xs02.q1 (v0 : List (Int × Int)) (v1 : Int) (v2 : Int) : Option R := loopAtL E (callT E tab) 51 Try.f51 1 [.r, .b] (⟨(.val .one), [.d .deep (.sl (.pair (.int .i64) (.int .i64))) v0], true, false, false, 0, 0⟩ :: nn 1 (vc (iL v1) :: vc (iL v2) :: nn 24 ([])))
noncomputable def xs02.l1 (v0 : List (Int × Int)) (v1 : Int) (v2 : Int) : Option ((List (Int × Int))) := tOf xs02.mk (xs02.q1 v0 v1 v2)
noncomputable def xs02.t {γ : Type} (ret : ((List (Int × Int))) → Option γ) (lp1 : (List (Int × Int)) → Int → Int → Option γ) (v0 : List (Int × Int)) : Option γ :=
 lp1 (v0) ((0 : Int)) (IntKind.i64.wrap ((↑v0.length : Int) - (1 : Int)))
noncomputable def xs02.t1 {γ : Type} (ret : ((List (Int × Int))) → Option γ) (lp1 : (List (Int × Int)) → Int → Int → Option γ) (v0 : List (Int × Int)) (v1 : Int) (v2 : Int) : Option γ :=
 bif decide (v1 < v2) then
  bif decide ((0 : Int) ≤ v2) then
   bif decide (v2.toNat < v0.length) then
    bif decide (v2.toNat < v0.length) then
     bif decide ((0 : Int) ≤ v1) then
      bif decide (v1.toNat < v0.length) then
       bif decide (v1.toNat < v0.length) then
        bif decide ((0 : Int) ≤ v1) then
         bif decide (v1.toNat < v0.length) then
          bif decide (v1.toNat < v0.length) then
           bif decide ((0 : Int) ≤ v2) then
            bif decide   (v2.toNat <     (v0.set v1.toNat         ((v0.getD v2.toNat ((0 : Int), (0 : Int))).fst, (v0.getD v2.toNat ((0 : Int), (0 : Int))).snd)).length) then
             bif decide   (v2.toNat <     (v0.set v1.toNat         ((v0.getD v2.toNat ((0 : Int), (0 : Int))).fst, (v0.getD v2.toNat ((0 : Int), (0 : Int))).snd)).length) then
              lp1 ((v0.set v1.toNat ((v0.getD v2.toNat ((0 : Int), (0 : Int))).fst, (v0.getD v2.toNat ((0 : Int), (0 : Int))).snd)).set   v2.toNat ((v0.getD v1.toNat ((0 : Int), (0 : Int))).fst, (v0.getD v1.toNat ((0 : Int), (0 : Int))).snd)) (IntKind.i64.wrap (v1 + (1 : Int))) (IntKind.i64.wrap (v2 - (1 : Int)))
             else
              none
            else
             none
           else
            none
          else
           none
         else
          none
        else
         none
       else
        none
      else
       none
     else
      none
    else
     none
   else
    none
  else
   none
 else
  ret (v0)
theorem xs02.k (v0 : List (Int × Int)) : topL E (callT E tab) 51 Try.f51 (xs02.c v0) = xs02.t (fun b => some (xs02.mk b)) xs02.q1 v0 := by kernel_rfl
theorem xs02.k1 (v0 : List (Int × Int)) (v1 : Int) (v2 : Int) : roundL E (callT E tab) 51 Try.f51 1 [.r, .b] (⟨(.val .one), [.d .deep (.sl (.pair (.int .i64) (.int .i64))) v0], true, false, false, 0, 0⟩ :: nn 1 (vc (iL v1) :: vc (iL v2) :: nn 24 ([]))) = xs02.t1 (fun b => some (xs02.mk b)) xs02.q1 v0 v1 v2 := by kernel_rfl
theorem xs02.eq (v0 : List (Int × Int)) {b : (List (Int × Int))} (h : xs02.t some xs02.l1 v0 = some b) : xs02 v0 = some b := tOf_intro xs02.un (fun _ => by kernel_rfl) (vlim_fn (callT_le E tab) rfl rfl rfl ((xs02.k v0).trans ((by unfold xs02.t; repeat' first | exact Sub.ret | exact Sub.none | exact Sub.loop | apply Sub.cond | (apply Sub.bind; intro _) : Sub xs02.mk _ _) b h)))
theorem xs02.eq1 (v0 : List (Int × Int)) (v1 : Int) (v2 : Int) {b : (List (Int × Int))} (h : xs02.t1 some xs02.l1 v0 v1 v2 = some b) : xs02.l1 v0 v1 v2 = some b := tOf_intro xs02.un (fun _ => by kernel_rfl) (loopAtL_step ((xs02.k1 v0 v1 v2).trans ((by unfold xs02.t1; repeat' first | exact Sub.ret | exact Sub.none | exact Sub.loop | apply Sub.cond | (apply Sub.bind; intro _) : Sub xs02.mk _ _) b h)))
noncomputable def impl_sumsOf.q4 (v0 : List (Int × Int)) (v1 : Int) (v2 : Int) (v3 : List (Int × Int)) (v4 : Int) (v5 : Int) : Option R := loopAtL E (callT E tab) 54 Try.f54 1 [.r, .r, .r, .l, .r, .b] (nn 3 (vc (.d .deep (.sl (.pair (.int .i64) (.int .i64))) v0) :: ⟨(.box false), [iL v1, iL v2], false, false, false, 0, 0⟩ :: nn 3 (vc (.d .fro (.sl (.pair (.int .i64) (.int .i64))) v3) :: vc (iL v4) :: vc (iL v5) :: nn 12 ([]))))
noncomputable def impl_sumsOf.l4 (v0 : List (Int × Int)) (v1 : Int) (v2 : Int) (v3 : List (Int × Int)) (v4 : Int) (v5 : Int) : Option ((List (Int × Int))) := tOf impl_sumsOf.mk (impl_sumsOf.q4 v0 v1 v2 v3 v4 v5)
noncomputable def impl_sumsOf.t {γ : Type} (ret : ((List (Int × Int))) → Option γ) (lp4 : (List (Int × Int)) → Int → Int → (List (Int × Int)) → Int → Int → Option γ) (v0 : List (Int × Int)) : Option γ :=
 (impl_same ).bind fun (r0 : Int × Int) =>
 lp4 ([]) (r0.fst) (r0.snd) (v0) ((↑v0.length : Int)) ((0 : Int))
noncomputable def impl_sumsOf.t4 {γ : Type} (ret : ((List (Int × Int))) → Option γ) (lp4 : (List (Int × Int)) → Int → Int → (List (Int × Int)) → Int → Int → Option γ) (v0 : List (Int × Int)) (v1 : Int) (v2 : Int) (v3 : List (Int × Int)) (v4 : Int) (v5 : Int) : Option γ :=
 bif decide (v5 < v4) then
  bif decide ((0 : Int) ≤ v5) then
   bif decide (v5.toNat < v3.length) then
    (impl_Map_then ((v3.getD v5.toNat ((0 : Int), (0 : Int))).fst) ((v3.getD v5.toNat ((0 : Int), (0 : Int))).snd) (v1) (v2)).bind fun (r1 : Int × Int) =>
    bif decide (v0.length + [(r1.fst, r1.snd)].length ≤ (4294967296 : Nat)) then
     lp4 (v0 ++ [(r1.fst, r1.snd)]) (r1.fst) (r1.snd) (v3) (v4) (IntKind.i64.wrap (v5 + (1 : Int)))
    else
     none
   else
    none
  else
   none
 else
  ret (v0)
theorem impl_sumsOf.k (v0 : List (Int × Int)) : topL E (callT E tab) 54 Try.f54 (impl_sumsOf.c v0) = impl_sumsOf.t (fun b => some (impl_sumsOf.mk b)) impl_sumsOf.q4 v0 := by kernel_rfl
theorem impl_sumsOf.k4 (v0 : List (Int × Int)) (v1 : Int) (v2 : Int) (v3 : List (Int × Int)) (v4 : Int) (v5 : Int) : roundL E (callT E tab) 54 Try.f54 1 [.r, .r, .r, .l, .r, .b] (nn 3 (vc (.d .deep (.sl (.pair (.int .i64) (.int .i64))) v0) :: ⟨(.box false), [iL v1, iL v2], false, false, false, 0, 0⟩ :: nn 3 (vc (.d .fro (.sl (.pair (.int .i64) (.int .i64))) v3) :: vc (iL v4) :: vc (iL v5) :: nn 12 ([])))) = impl_sumsOf.t4 (fun b => some (impl_sumsOf.mk b)) impl_sumsOf.q4 v0 v1 v2 v3 v4 v5 := by kernel_rfl
theorem impl_sumsOf.eq (v0 : List (Int × Int)) {b : (List (Int × Int))} (h : impl_sumsOf.t some impl_sumsOf.l4 v0 = some b) : impl_sumsOf v0 = some b := tOf_intro impl_sumsOf.un (fun _ => by kernel_rfl) (vlim_fn (callT_le E tab) rfl rfl rfl ((impl_sumsOf.k v0).trans ((by unfold impl_sumsOf.t; repeat' first | exact Sub.ret | exact Sub.none | exact Sub.loop | apply Sub.cond | (apply Sub.bind; intro _) : Sub impl_sumsOf.mk _ _) b h)))
theorem impl_sumsOf.eq4 (v0 : List (Int × Int)) (v1 : Int) (v2 : Int) (v3 : List (Int × Int)) (v4 : Int) (v5 : Int) {b : (List (Int × Int))} (h : impl_sumsOf.t4 some impl_sumsOf.l4 v0 v1 v2 v3 v4 v5 = some b) : impl_sumsOf.l4 v0 v1 v2 v3 v4 v5 = some b := tOf_intro impl_sumsOf.un (fun _ => by kernel_rfl) (loopAtL_step ((impl_sumsOf.k4 v0 v1 v2 v3 v4 v5).trans ((by unfold impl_sumsOf.t4; repeat' first | exact Sub.ret | exact Sub.none | exact Sub.loop | apply Sub.cond | (apply Sub.bind; intro _) : Sub impl_sumsOf.mk _ _) b h)))
noncomputable def impl_Map_then.t {γ : Type} (ret : (Int × Int) → Option γ) (v0 : Int) (v1 : Int) (v2 : Int) (v3 : Int) : Option γ :=
 ret ((IntKind.i64.wrap (v2 * v0)).tmod (1009 : Int), (IntKind.i64.wrap (IntKind.i64.wrap (v2 * v1) + v3)).tmod (1009 : Int))
theorem impl_Map_then.k (v0 : Int) (v1 : Int) (v2 : Int) (v3 : Int) : topL E (callT E tab) 42 Try.f42 (impl_Map_then.c v0 v1 v2 v3) = impl_Map_then.t (fun b => some (impl_Map_then.mk b)) v0 v1 v2 v3 := by kernel_rfl
theorem impl_Map_then.eq (v0 : Int) (v1 : Int) (v2 : Int) (v3 : Int) {b : Int × Int} (h : impl_Map_then.t some v0 v1 v2 v3 = some b) : impl_Map_then v0 v1 v2 v3 = some b := tOf_intro impl_Map_then.un (fun _ => by kernel_rfl) (vlim_fn (callT_le E tab) rfl rfl rfl ((impl_Map_then.k v0 v1 v2 v3).trans ((by unfold impl_Map_then.t; repeat' first | exact Sub.ret | exact Sub.none | exact Sub.loop | apply Sub.cond | (apply Sub.bind; intro _) : Sub impl_Map_then.mk _ _) b h)))
noncomputable def xi09.t {γ : Type} (ret : ((List (Int × Int)) × (List (Int × Int)) × (List (Int × Int)) × Int × Int) → Option γ) (v0 : List (Int × Int)) (v1 : List (Int × Int)) (v2 : List (Int × Int)) (v3 : Int) (v4 : Int) (v5 : Int) (v6 : Int) : Option γ :=
 bif decide (v2.length + [(v5, v6)].length ≤ (4294967296 : Nat)) then
  (impl_Map_then (v3) (v4) (v5) (v6)).bind fun (r0 : Int × Int) =>
  ret (v0, v1, v2 ++ [(v5, v6)], r0.fst, r0.snd)
 else
  none
theorem xi09.k (v0 : List (Int × Int)) (v1 : List (Int × Int)) (v2 : List (Int × Int)) (v3 : Int) (v4 : Int) (v5 : Int) (v6 : Int) : topL E (callT E tab) 36 Try.f36 (xi09.c v0 v1 v2 v3 v4 v5 v6) = xi09.t (fun b => some (xi09.mk b)) v0 v1 v2 v3 v4 v5 v6 := by kernel_rfl
theorem xi09.eq (v0 : List (Int × Int)) (v1 : List (Int × Int)) (v2 : List (Int × Int)) (v3 : Int) (v4 : Int) (v5 : Int) (v6 : Int) {b : (List (Int × Int)) × (List (Int × Int)) × (List (Int × Int)) × Int × Int} (h : xi09.t some v0 v1 v2 v3 v4 v5 v6 = some b) : xi09 v0 v1 v2 v3 v4 v5 v6 = some b := tOf_intro xi09.un (fun _ => by kernel_rfl) (vlim_fn (callT_le E tab) rfl rfl rfl ((xi09.k v0 v1 v2 v3 v4 v5 v6).trans ((by unfold xi09.t; repeat' first | exact Sub.ret | exact Sub.none | exact Sub.loop | apply Sub.cond | (apply Sub.bind; intro _) : Sub xi09.mk _ _) b h)))
noncomputable def impl_Window_sum.t {γ : Type} (ret : (Int × Int) → Option γ) (v0 : List (Int × Int)) (v1 : List (Int × Int)) (v2 : List (Int × Int)) (v3 : Int) (v4 : Int) : Option γ :=
 bif decide (IntKind.i64.wrap ((↑v1.length : Int) - (1 : Int)) ≥ (0 : Int)) then
  bif decide ((0 : Int) ≤ IntKind.i64.wrap ((↑v1.length : Int) - (1 : Int))) then
   bif decide ((IntKind.i64.wrap ((↑v1.length : Int) - (1 : Int))).toNat < v1.length) then
    (impl_Map_then ((v1.getD (IntKind.i64.wrap ((↑v1.length : Int) - (1 : Int))).toNat ((0 : Int), (0 : Int))).fst) ((v1.getD (IntKind.i64.wrap ((↑v1.length : Int) - (1 : Int))).toNat ((0 : Int), (0 : Int))).snd) (v3) (v4)).bind fun (r0 : Int × Int) =>
    ret (r0.fst, r0.snd)
   else
    none
  else
   none
 else
  ret (v3, v4)
theorem impl_Window_sum.k (v0 : List (Int × Int)) (v1 : List (Int × Int)) (v2 : List (Int × Int)) (v3 : Int) (v4 : Int) : topL E (callT E tab) 37 Try.f37 (impl_Window_sum.c v0 v1 v2 v3 v4) = impl_Window_sum.t (fun b => some (impl_Window_sum.mk b)) v0 v1 v2 v3 v4 := by kernel_rfl
theorem impl_Window_sum.eq (v0 : List (Int × Int)) (v1 : List (Int × Int)) (v2 : List (Int × Int)) (v3 : Int) (v4 : Int) {b : Int × Int} (h : impl_Window_sum.t some v0 v1 v2 v3 v4 = some b) : impl_Window_sum v0 v1 v2 v3 v4 = some b := tOf_intro impl_Window_sum.un (fun _ => by kernel_rfl) (vlim_fn (callT_le E tab) rfl rfl rfl ((impl_Window_sum.k v0 v1 v2 v3 v4).trans ((by unfold impl_Window_sum.t; repeat' first | exact Sub.ret | exact Sub.none | exact Sub.loop | apply Sub.cond | (apply Sub.bind; intro _) : Sub impl_Window_sum.mk _ _) b h)))
end GoV

/- Equations of the program's functions (printed by wip/tools/emit.py). -/
namespace GoV
open Go Go.Proofs
set_option maxRecDepth 100000

noncomputable def spec_l1In.t {γ : Type} (ret : (Bool) → Option γ) (v0 : Int) (v1 : Int) (v2 : Int) : Option γ :=
 bif decide (v0 ≥ v1) then
  ret (decide (v0 ≤ v2))
 else
  ret (Bool.false)
theorem spec_l1In.k (v0 : Int) (v1 : Int) (v2 : Int) : topL E (callT E tab) 38 Try.f38 (spec_l1In.c v0 v1 v2) = spec_l1In.t (fun b => some (spec_l1In.mk b)) v0 v1 v2 := by kernel_rfl
theorem spec_l1In.eq (v0 : Int) (v1 : Int) (v2 : Int) {b : Bool} (h : spec_l1In.t some v0 v1 v2 = some b) : spec_l1In v0 v1 v2 = some b := tOf_intro spec_l1In.un (fun _ => by kernel_rfl) (vlim_fn (callT_le E tab) rfl rfl rfl ((spec_l1In.k v0 v1 v2).trans ((by unfold spec_l1In.t; repeat' first | exact Sub.ret | exact Sub.none | exact Sub.loop | apply Sub.cond | (apply Sub.bind; intro _) : Sub spec_l1In.mk _ _) b h)))
noncomputable def spec_GoodMap.t {γ : Type} (ret : (Bool) → Option γ) (v0 : Int) (v1 : Int) : Option γ :=
 (spec_l1In (v0) ((0 : Int)) ((1008 : Int))).bind fun (r0 : Bool) =>
 bif r0 then
  (spec_l1In (v1) ((0 : Int)) ((1008 : Int))).bind fun (r1 : Bool) =>
  ret (r1)
 else
  ret (Bool.false)
theorem spec_GoodMap.k (v0 : Int) (v1 : Int) : topL E (callT E tab) 20 Try.f20 (spec_GoodMap.c v0 v1) = spec_GoodMap.t (fun b => some (spec_GoodMap.mk b)) v0 v1 := by kernel_rfl
theorem spec_GoodMap.eq (v0 : Int) (v1 : Int) {b : Bool} (h : spec_GoodMap.t some v0 v1 = some b) : spec_GoodMap v0 v1 = some b := tOf_intro spec_GoodMap.un (fun _ => by kernel_rfl) (vlim_fn (callT_le E tab) rfl rfl rfl ((spec_GoodMap.k v0 v1).trans ((by unfold spec_GoodMap.t; repeat' first | exact Sub.ret | exact Sub.none | exact Sub.loop | apply Sub.cond | (apply Sub.bind; intro _) : Sub spec_GoodMap.mk _ _) b h)))
noncomputable def spec_l17All.q3 (v0 : Int) (v1 : Int) (v2 : Int) (v3 : Int) (v4 : List (Int × Int)) (v5 : Int) (v6 : Int) : Option R := loopAtL E (callT E tab) 39 Try.f39 1 [.r, .r, .l, .r, .b] (nn 2 (⟨(.box false), [iL v0, iL v1], false, false, false, 0, 0⟩ :: ⟨(.box false), [iL v2, iL v3], false, false, false, 0, 0⟩ :: nn 3 (vc (.d .fro (.sl (.pair (.int .i64) (.int .i64))) v4) :: vc (iL v5) :: vc (iL v6) :: nn 8 ([]))))
noncomputable def spec_l17All.l3 (v0 : Int) (v1 : Int) (v2 : Int) (v3 : Int) (v4 : List (Int × Int)) (v5 : Int) (v6 : Int) : Option (Int × Int) := tOf spec_l17All.mk (spec_l17All.q3 v0 v1 v2 v3 v4 v5 v6)
noncomputable def spec_l17All.t {γ : Type} (ret : (Int × Int) → Option γ) (lp3 : Int → Int → Int → Int → (List (Int × Int)) → Int → Int → Option γ) (v0 : List (Int × Int)) : Option γ :=
 (spec_l17One ).bind fun (r0 : Int × Int) =>
 lp3 ((0 : Int)) ((0 : Int)) (r0.fst) (r0.snd) (v0) ((↑v0.length : Int)) ((0 : Int))
noncomputable def spec_l17All.t3 {γ : Type} (ret : (Int × Int) → Option γ) (lp3 : Int → Int → Int → Int → (List (Int × Int)) → Int → Int → Option γ) (v0 : Int) (v1 : Int) (v2 : Int) (v3 : Int) (v4 : List (Int × Int)) (v5 : Int) (v6 : Int) : Option γ :=
 bif decide (v6 < v5) then
  bif decide ((0 : Int) ≤ v6) then
   bif decide (v6.toNat < v4.length) then
    (spec_l17Then (v2) (v3) ((v4.getD v6.toNat ((0 : Int), (0 : Int))).fst) ((v4.getD v6.toNat ((0 : Int), (0 : Int))).snd)).bind fun (r1 : Int × Int) =>
    lp3 (v0) (v1) (r1.fst) (r1.snd) (v4) (v5) (IntKind.i64.wrap (v6 + (1 : Int)))
   else
    none
  else
   none
 else
  ret (v2, v3)
theorem spec_l17All.k (v0 : List (Int × Int)) : topL E (callT E tab) 39 Try.f39 (spec_l17All.c v0) = spec_l17All.t (fun b => some (spec_l17All.mk b)) spec_l17All.q3 v0 := by kernel_rfl
theorem spec_l17All.k3 (v0 : Int) (v1 : Int) (v2 : Int) (v3 : Int) (v4 : List (Int × Int)) (v5 : Int) (v6 : Int) : roundL E (callT E tab) 39 Try.f39 1 [.r, .r, .l, .r, .b] (nn 2 (⟨(.box false), [iL v0, iL v1], false, false, false, 0, 0⟩ :: ⟨(.box false), [iL v2, iL v3], false, false, false, 0, 0⟩ :: nn 3 (vc (.d .fro (.sl (.pair (.int .i64) (.int .i64))) v4) :: vc (iL v5) :: vc (iL v6) :: nn 8 ([])))) = spec_l17All.t3 (fun b => some (spec_l17All.mk b)) spec_l17All.q3 v0 v1 v2 v3 v4 v5 v6 := by kernel_rfl
theorem spec_l17All.eq (v0 : List (Int × Int)) {b : Int × Int} (h : spec_l17All.t some spec_l17All.l3 v0 = some b) : spec_l17All v0 = some b := tOf_intro spec_l17All.un (fun _ => by kernel_rfl) (vlim_fn (callT_le E tab) rfl rfl rfl ((spec_l17All.k v0).trans ((by unfold spec_l17All.t; repeat' first | exact Sub.ret | exact Sub.none | exact Sub.loop | apply Sub.cond | (apply Sub.bind; intro _) : Sub spec_l17All.mk _ _) b h)))
theorem spec_l17All.eq3 (v0 : Int) (v1 : Int) (v2 : Int) (v3 : Int) (v4 : List (Int × Int)) (v5 : Int) (v6 : Int) {b : Int × Int} (h : spec_l17All.t3 some spec_l17All.l3 v0 v1 v2 v3 v4 v5 v6 = some b) : spec_l17All.l3 v0 v1 v2 v3 v4 v5 v6 = some b := tOf_intro spec_l17All.un (fun _ => by kernel_rfl) (loopAtL_step ((spec_l17All.k3 v0 v1 v2 v3 v4 v5 v6).trans ((by unfold spec_l17All.t3; repeat' first | exact Sub.ret | exact Sub.none | exact Sub.loop | apply Sub.cond | (apply Sub.bind; intro _) : Sub spec_l17All.mk _ _) b h)))
noncomputable def spec_l17One.t {γ : Type} (ret : (Int × Int) → Option γ) : Option γ :=
 ret ((1 : Int), (0 : Int))
theorem spec_l17One.k : topL E (callT E tab) 48 Try.f48 (spec_l17One.c) = spec_l17One.t (fun b => some (spec_l17One.mk b)) := by kernel_rfl
theorem spec_l17One.eq {b : Int × Int} (h : spec_l17One.t some = some b) : spec_l17One = some b := tOf_intro spec_l17One.un (fun _ => by kernel_rfl) (vlim_fn (callT_le E tab) rfl rfl rfl ((spec_l17One.k).trans ((by unfold spec_l17One.t; repeat' first | exact Sub.ret | exact Sub.none | exact Sub.loop | apply Sub.cond | (apply Sub.bind; intro _) : Sub spec_l17One.mk _ _) b h)))
noncomputable def spec_l17Then.t {γ : Type} (ret : (Int × Int) → Option γ) (v0 : Int) (v1 : Int) (v2 : Int) (v3 : Int) : Option γ :=
 ret ((IntKind.i64.wrap (v0 * v2)).tmod (1009 : Int), (IntKind.i64.wrap (IntKind.i64.wrap (v2 * v1) + v3)).tmod (1009 : Int))
theorem spec_l17Then.k (v0 : Int) (v1 : Int) (v2 : Int) (v3 : Int) : topL E (callT E tab) 43 Try.f43 (spec_l17Then.c v0 v1 v2 v3) = spec_l17Then.t (fun b => some (spec_l17Then.mk b)) v0 v1 v2 v3 := by kernel_rfl
theorem spec_l17Then.eq (v0 : Int) (v1 : Int) (v2 : Int) (v3 : Int) {b : Int × Int} (h : spec_l17Then.t some v0 v1 v2 v3 = some b) : spec_l17Then v0 v1 v2 v3 = some b := tOf_intro spec_l17Then.un (fun _ => by kernel_rfl) (vlim_fn (callT_le E tab) rfl rfl rfl ((spec_l17Then.k v0 v1 v2 v3).trans ((by unfold spec_l17Then.t; repeat' first | exact Sub.ret | exact Sub.none | exact Sub.loop | apply Sub.cond | (apply Sub.bind; intro _) : Sub spec_l17Then.mk _ _) b h)))
noncomputable def laws_sameMaps.q4 (v0 : List (Int × Int)) (v1 : List (Int × Int)) (v2 : Int) (v3 : Int) : Option R := loopAtL E (callT E tab) 8 Try.f8 2 [.r, .r, .l, .r, .b] (vc (.d .fro (.sl (.pair (.int .i64) (.int .i64))) v0) :: vc (.d .fro (.sl (.pair (.int .i64) (.int .i64))) v1) :: nn 10 (vc (iL v2) :: vc (iL v3) :: nn 12 ([])))
noncomputable def laws_sameMaps.l4 (v0 : List (Int × Int)) (v1 : List (Int × Int)) (v2 : Int) (v3 : Int) : Option (Bool) := tOf laws_sameMaps.mk (laws_sameMaps.q4 v0 v1 v2 v3)
noncomputable def laws_sameMaps.t {γ : Type} (ret : (Bool) → Option γ) (lp4 : (List (Int × Int)) → (List (Int × Int)) → Int → Int → Option γ) (v0 : List (Int × Int)) (v1 : List (Int × Int)) : Option γ :=
 bif (↑v0.length : Int) != (↑v1.length : Int) then
  ret (Bool.false)
 else
  lp4 (v0) (v1) ((↑v0.length : Int)) ((0 : Int))
noncomputable def laws_sameMaps.t4 {γ : Type} (ret : (Bool) → Option γ) (lp4 : (List (Int × Int)) → (List (Int × Int)) → Int → Int → Option γ) (v0 : List (Int × Int)) (v1 : List (Int × Int)) (v2 : Int) (v3 : Int) : Option γ :=
 bif decide (v3 < v2) then
  bif decide ((0 : Int) ≤ v3) then
   bif decide (v3.toNat < v0.length) then
    bif decide ((0 : Int) ≤ v3) then
     bif decide (v3.toNat < v1.length) then
      bif !(decide ((v0.getD v3.toNat ((0 : Int), (0 : Int))).fst = (v1.getD v3.toNat ((0 : Int), (0 : Int))).fst) &&     (decide ((v0.getD v3.toNat ((0 : Int), (0 : Int))).snd = (v1.getD v3.toNat ((0 : Int), (0 : Int))).snd) &&       Bool.true)) then
       ret (Bool.false)
      else
       lp4 (v0) (v1) (v2) (IntKind.i64.wrap (v3 + (1 : Int)))
     else
      none
    else
     none
   else
    none
  else
   none
 else
  ret (Bool.true)
theorem laws_sameMaps.k (v0 : List (Int × Int)) (v1 : List (Int × Int)) : topL E (callT E tab) 8 Try.f8 (laws_sameMaps.c v0 v1) = laws_sameMaps.t (fun b => some (laws_sameMaps.mk b)) laws_sameMaps.q4 v0 v1 := by kernel_rfl
theorem laws_sameMaps.k4 (v0 : List (Int × Int)) (v1 : List (Int × Int)) (v2 : Int) (v3 : Int) : roundL E (callT E tab) 8 Try.f8 2 [.r, .r, .l, .r, .b] (vc (.d .fro (.sl (.pair (.int .i64) (.int .i64))) v0) :: vc (.d .fro (.sl (.pair (.int .i64) (.int .i64))) v1) :: nn 10 (vc (iL v2) :: vc (iL v3) :: nn 12 ([]))) = laws_sameMaps.t4 (fun b => some (laws_sameMaps.mk b)) laws_sameMaps.q4 v0 v1 v2 v3 := by kernel_rfl
theorem laws_sameMaps.eq (v0 : List (Int × Int)) (v1 : List (Int × Int)) {b : Bool} (h : laws_sameMaps.t some laws_sameMaps.l4 v0 v1 = some b) : laws_sameMaps v0 v1 = some b := tOf_intro laws_sameMaps.un (fun _ => by kernel_rfl) (vlim_fn (callT_le E tab) rfl rfl rfl ((laws_sameMaps.k v0 v1).trans ((by unfold laws_sameMaps.t; repeat' first | exact Sub.ret | exact Sub.none | exact Sub.loop | apply Sub.cond | (apply Sub.bind; intro _) : Sub laws_sameMaps.mk _ _) b h)))
theorem laws_sameMaps.eq4 (v0 : List (Int × Int)) (v1 : List (Int × Int)) (v2 : Int) (v3 : Int) {b : Bool} (h : laws_sameMaps.t4 some laws_sameMaps.l4 v0 v1 v2 v3 = some b) : laws_sameMaps.l4 v0 v1 v2 v3 = some b := tOf_intro laws_sameMaps.un (fun _ => by kernel_rfl) (loopAtL_step ((laws_sameMaps.k4 v0 v1 v2 v3).trans ((by unfold laws_sameMaps.t4; repeat' first | exact Sub.ret | exact Sub.none | exact Sub.loop | apply Sub.cond | (apply Sub.bind; intro _) : Sub laws_sameMaps.mk _ _) b h)))
noncomputable def impl_PopMap.t {γ : Type} (ret : ((List (Int × Int)) × (List (Int × Int)) × (List (Int × Int)) × Int × Int × Int × Int × Int × Bool) → Option γ) (v0 : List (Int × Int)) (v1 : List (Int × Int)) (v2 : List (Int × Int)) (v3 : Int) (v4 : Int) : Option γ :=
 (impl_GoodWindow (v0) (v1) (v2) (v3) (v4)).bind fun (r0 : Bool) =>
 bif !r0 then
  ret ([], [], [], (0 : Int), (0 : Int), (0 : Int), (0 : Int), (0 : Int), Bool.false)
 else
  bif IntKind.i64.wrap ((↑v0.length : Int) + (↑v2.length : Int)) == (0 : Int) then
   ret ([], [], [], (0 : Int), (0 : Int), (0 : Int), (0 : Int), (0 : Int), Bool.false)
  else
   (impl_Window_own (v0) (v1) (v2) (v3) (v4)).bind fun (r1 : (List (Int × Int)) × (List (Int × Int)) × (List (Int × Int)) × Int × Int) =>
   (xi0b (r1.fst) (r1.snd.fst) (r1.snd.snd.fst) (r1.snd.snd.snd.fst) (r1.snd.snd.snd.snd)).bind fun (r2 : Int × Int × Int × (List (Int × Int)) × (List (Int × Int)) × (List (Int × Int)) × Int × Int) =>
   (impl_Window_own (r2.snd.snd.snd.fst) (r2.snd.snd.snd.snd.fst) (r2.snd.snd.snd.snd.snd.fst) (r2.snd.snd.snd.snd.snd.snd.fst) (r2.snd.snd.snd.snd.snd.snd.snd)).bind fun (r3 : (List (Int × Int)) × (List (Int × Int)) × (List (Int × Int)) × Int × Int) =>
   ret (r3.fst, r3.snd.fst, r3.snd.snd.fst, r3.snd.snd.snd.fst, r3.snd.snd.snd.snd, r2.fst, r2.snd.fst, r2.snd.snd.fst, Bool.true)
theorem impl_PopMap.k (v0 : List (Int × Int)) (v1 : List (Int × Int)) (v2 : List (Int × Int)) (v3 : Int) (v4 : Int) : topL E (callT E tab) 10 Try.f10 (impl_PopMap.c v0 v1 v2 v3 v4) = impl_PopMap.t (fun b => some (impl_PopMap.mk b)) v0 v1 v2 v3 v4 := by kernel_rfl
theorem impl_PopMap.eq (v0 : List (Int × Int)) (v1 : List (Int × Int)) (v2 : List (Int × Int)) (v3 : Int) (v4 : Int) {b : (List (Int × Int)) × (List (Int × Int)) × (List (Int × Int)) × Int × Int × Int × Int × Int × Bool} (h : impl_PopMap.t some v0 v1 v2 v3 v4 = some b) : impl_PopMap v0 v1 v2 v3 v4 = some b := tOf_intro impl_PopMap.un (fun _ => by kernel_rfl) (vlim_fn (callT_le E tab) rfl rfl rfl ((impl_PopMap.k v0 v1 v2 v3 v4).trans ((by unfold impl_PopMap.t; repeat' first | exact Sub.ret | exact Sub.none | exact Sub.loop | apply Sub.cond | (apply Sub.bind; intro _) : Sub impl_PopMap.mk _ _) b h)))
noncomputable def impl_GoodWindow.t {γ : Type} (ret : (Bool) → Option γ) (v0 : List (Int × Int)) (v1 : List (Int × Int)) (v2 : List (Int × Int)) (v3 : Int) (v4 : Int) : Option γ :=
 (xi04 (v0)).bind fun (r0 : Bool) =>
 bif r0 then
  (xi04 (v2)).bind fun (r1 : Bool) =>
  bif r1 then
   bif decide (IntKind.i64.wrap ((↑v0.length : Int) + (↑v2.length : Int)) ≤ (60 : Int)) then
    (impl_sumsOf (v0)).bind fun (r2 : (List (Int × Int))) =>
    (xs06 (v1) (r2)).bind fun (r3 : Bool) =>
    bif r3 then
     (impl_composed (v2)).bind fun (r4 : Int × Int) =>
     ret (decide (v3 = r4.fst) && (decide (v4 = r4.snd) && Bool.true))
    else
     ret (Bool.false)
   else
    ret (Bool.false)
  else
   ret (Bool.false)
 else
  ret (Bool.false)
theorem impl_GoodWindow.k (v0 : List (Int × Int)) (v1 : List (Int × Int)) (v2 : List (Int × Int)) (v3 : Int) (v4 : Int) : topL E (callT E tab) 27 Try.f27 (impl_GoodWindow.c v0 v1 v2 v3 v4) = impl_GoodWindow.t (fun b => some (impl_GoodWindow.mk b)) v0 v1 v2 v3 v4 := by kernel_rfl
theorem impl_GoodWindow.eq (v0 : List (Int × Int)) (v1 : List (Int × Int)) (v2 : List (Int × Int)) (v3 : Int) (v4 : Int) {b : Bool} (h : impl_GoodWindow.t some v0 v1 v2 v3 v4 = some b) : impl_GoodWindow v0 v1 v2 v3 v4 = some b := tOf_intro impl_GoodWindow.un (fun _ => by kernel_rfl) (vlim_fn (callT_le E tab) rfl rfl rfl ((impl_GoodWindow.k v0 v1 v2 v3 v4).trans ((by unfold impl_GoodWindow.t; repeat' first | exact Sub.ret | exact Sub.none | exact Sub.loop | apply Sub.cond | (apply Sub.bind; intro _) : Sub impl_GoodWindow.mk _ _) b h)))
noncomputable def xs06.q4 (v0 : List (Int × Int)) (v1 : List (Int × Int)) (v2 : Int) (v3 : Int) : Option R := loopAtL E (callT E tab) 53 Try.f53 2 [.r, .r, .l, .r, .b] (vc (.d .fro (.sl (.pair (.int .i64) (.int .i64))) v0) :: vc (.d .fro (.sl (.pair (.int .i64) (.int .i64))) v1) :: nn 10 (vc (iL v2) :: vc (iL v3) :: nn 12 ([])))
noncomputable def xs06.l4 (v0 : List (Int × Int)) (v1 : List (Int × Int)) (v2 : Int) (v3 : Int) : Option (Bool) := tOf xs06.mk (xs06.q4 v0 v1 v2 v3)
noncomputable def xs06.t {γ : Type} (ret : (Bool) → Option γ) (lp4 : (List (Int × Int)) → (List (Int × Int)) → Int → Int → Option γ) (v0 : List (Int × Int)) (v1 : List (Int × Int)) : Option γ :=
 bif (↑v0.length : Int) != (↑v1.length : Int) then
  ret (Bool.false)
 else
  lp4 (v0) (v1) ((↑v0.length : Int)) ((0 : Int))
noncomputable def xs06.t4 {γ : Type} (ret : (Bool) → Option γ) (lp4 : (List (Int × Int)) → (List (Int × Int)) → Int → Int → Option γ) (v0 : List (Int × Int)) (v1 : List (Int × Int)) (v2 : Int) (v3 : Int) : Option γ :=
 bif decide (v3 < v2) then
  bif decide ((0 : Int) ≤ v3) then
   bif decide (v3.toNat < v0.length) then
    bif decide ((0 : Int) ≤ v3) then
     bif decide (v3.toNat < v1.length) then
      bif !(decide ((v0.getD v3.toNat ((0 : Int), (0 : Int))).fst = (v1.getD v3.toNat ((0 : Int), (0 : Int))).fst) &&     (decide ((v0.getD v3.toNat ((0 : Int), (0 : Int))).snd = (v1.getD v3.toNat ((0 : Int), (0 : Int))).snd) &&       Bool.true)) then
       ret (Bool.false)
      else
       lp4 (v0) (v1) (v2) (IntKind.i64.wrap (v3 + (1 : Int)))
     else
      none
    else
     none
   else
    none
  else
   none
 else
  ret (Bool.true)
theorem xs06.k (v0 : List (Int × Int)) (v1 : List (Int × Int)) : topL E (callT E tab) 53 Try.f53 (xs06.c v0 v1) = xs06.t (fun b => some (xs06.mk b)) xs06.q4 v0 v1 := by kernel_rfl
theorem xs06.k4 (v0 : List (Int × Int)) (v1 : List (Int × Int)) (v2 : Int) (v3 : Int) : roundL E (callT E tab) 53 Try.f53 2 [.r, .r, .l, .r, .b] (vc (.d .fro (.sl (.pair (.int .i64) (.int .i64))) v0) :: vc (.d .fro (.sl (.pair (.int .i64) (.int .i64))) v1) :: nn 10 (vc (iL v2) :: vc (iL v3) :: nn 12 ([]))) = xs06.t4 (fun b => some (xs06.mk b)) xs06.q4 v0 v1 v2 v3 := by kernel_rfl
theorem xs06.eq (v0 : List (Int × Int)) (v1 : List (Int × Int)) {b : Bool} (h : xs06.t some xs06.l4 v0 v1 = some b) : xs06 v0 v1 = some b := tOf_intro xs06.un (fun _ => by kernel_rfl) (vlim_fn (callT_le E tab) rfl rfl rfl ((xs06.k v0 v1).trans ((by unfold xs06.t; repeat' first | exact Sub.ret | exact Sub.none | exact Sub.loop | apply Sub.cond | (apply Sub.bind; intro _) : Sub xs06.mk _ _) b h)))
theorem xs06.eq4 (v0 : List (Int × Int)) (v1 : List (Int × Int)) (v2 : Int) (v3 : Int) {b : Bool} (h : xs06.t4 some xs06.l4 v0 v1 v2 v3 = some b) : xs06.l4 v0 v1 v2 v3 = some b := tOf_intro xs06.un (fun _ => by kernel_rfl) (loopAtL_step ((xs06.k4 v0 v1 v2 v3).trans ((by unfold xs06.t4; repeat' first | exact Sub.ret | exact Sub.none | exact Sub.loop | apply Sub.cond | (apply Sub.bind; intro _) : Sub xs06.mk _ _) b h)))
noncomputable def impl_composed.q3 (v0 : Int) (v1 : Int) (v2 : Int) (v3 : Int) (v4 : List (Int × Int)) (v5 : Int) (v6 : Int) : Option R := loopAtL E (callT E tab) 55 Try.f55 1 [.r, .r, .l, .r, .b] (nn 2 (⟨(.box false), [iL v0, iL v1], false, false, false, 0, 0⟩ :: ⟨(.box false), [iL v2, iL v3], false, false, false, 0, 0⟩ :: nn 3 (vc (.d .fro (.sl (.pair (.int .i64) (.int .i64))) v4) :: vc (iL v5) :: vc (iL v6) :: nn 8 ([]))))
noncomputable def impl_composed.l3 (v0 : Int) (v1 : Int) (v2 : Int) (v3 : Int) (v4 : List (Int × Int)) (v5 : Int) (v6 : Int) : Option (Int × Int) := tOf impl_composed.mk (impl_composed.q3 v0 v1 v2 v3 v4 v5 v6)
noncomputable def impl_composed.t {γ : Type} (ret : (Int × Int) → Option γ) (lp3 : Int → Int → Int → Int → (List (Int × Int)) → Int → Int → Option γ) (v0 : List (Int × Int)) : Option γ :=
 (impl_same ).bind fun (r0 : Int × Int) =>
 lp3 ((0 : Int)) ((0 : Int)) (r0.fst) (r0.snd) (v0) ((↑v0.length : Int)) ((0 : Int))
noncomputable def impl_composed.t3 {γ : Type} (ret : (Int × Int) → Option γ) (lp3 : Int → Int → Int → Int → (List (Int × Int)) → Int → Int → Option γ) (v0 : Int) (v1 : Int) (v2 : Int) (v3 : Int) (v4 : List (Int × Int)) (v5 : Int) (v6 : Int) : Option γ :=
 bif decide (v6 < v5) then
  bif decide ((0 : Int) ≤ v6) then
   bif decide (v6.toNat < v4.length) then
    (impl_Map_then (v2) (v3) ((v4.getD v6.toNat ((0 : Int), (0 : Int))).fst) ((v4.getD v6.toNat ((0 : Int), (0 : Int))).snd)).bind fun (r1 : Int × Int) =>
    lp3 (v0) (v1) (r1.fst) (r1.snd) (v4) (v5) (IntKind.i64.wrap (v6 + (1 : Int)))
   else
    none
  else
   none
 else
  ret (v2, v3)
theorem impl_composed.k (v0 : List (Int × Int)) : topL E (callT E tab) 55 Try.f55 (impl_composed.c v0) = impl_composed.t (fun b => some (impl_composed.mk b)) impl_composed.q3 v0 := by kernel_rfl
theorem impl_composed.k3 (v0 : Int) (v1 : Int) (v2 : Int) (v3 : Int) (v4 : List (Int × Int)) (v5 : Int) (v6 : Int) : roundL E (callT E tab) 55 Try.f55 1 [.r, .r, .l, .r, .b] (nn 2 (⟨(.box false), [iL v0, iL v1], false, false, false, 0, 0⟩ :: ⟨(.box false), [iL v2, iL v3], false, false, false, 0, 0⟩ :: nn 3 (vc (.d .fro (.sl (.pair (.int .i64) (.int .i64))) v4) :: vc (iL v5) :: vc (iL v6) :: nn 8 ([])))) = impl_composed.t3 (fun b => some (impl_composed.mk b)) impl_composed.q3 v0 v1 v2 v3 v4 v5 v6 := by kernel_rfl
theorem impl_composed.eq (v0 : List (Int × Int)) {b : Int × Int} (h : impl_composed.t some impl_composed.l3 v0 = some b) : impl_composed v0 = some b := tOf_intro impl_composed.un (fun _ => by kernel_rfl) (vlim_fn (callT_le E tab) rfl rfl rfl ((impl_composed.k v0).trans ((by unfold impl_composed.t; repeat' first | exact Sub.ret | exact Sub.none | exact Sub.loop | apply Sub.cond | (apply Sub.bind; intro _) : Sub impl_composed.mk _ _) b h)))
theorem impl_composed.eq3 (v0 : Int) (v1 : Int) (v2 : Int) (v3 : Int) (v4 : List (Int × Int)) (v5 : Int) (v6 : Int) {b : Int × Int} (h : impl_composed.t3 some impl_composed.l3 v0 v1 v2 v3 v4 v5 v6 = some b) : impl_composed.l3 v0 v1 v2 v3 v4 v5 v6 = some b := tOf_intro impl_composed.un (fun _ => by kernel_rfl) (loopAtL_step ((impl_composed.k3 v0 v1 v2 v3 v4 v5 v6).trans ((by unfold impl_composed.t3; repeat' first | exact Sub.ret | exact Sub.none | exact Sub.loop | apply Sub.cond | (apply Sub.bind; intro _) : Sub impl_composed.mk _ _) b h)))
noncomputable def impl_Window_own.t {γ : Type} (ret : ((List (Int × Int)) × (List (Int × Int)) × (List (Int × Int)) × Int × Int) → Option γ) (v0 : List (Int × Int)) (v1 : List (Int × Int)) (v2 : List (Int × Int)) (v3 : Int) (v4 : Int) : Option γ :=
 (xs05 (v0)).bind fun (r0 : (List (Int × Int))) =>
 (xs05 (v1)).bind fun (r1 : (List (Int × Int))) =>
 (xs05 (v2)).bind fun (r2 : (List (Int × Int))) =>
 ret (r0, r1, r2, v3, v4)
theorem impl_Window_own.k (v0 : List (Int × Int)) (v1 : List (Int × Int)) (v2 : List (Int × Int)) (v3 : Int) (v4 : Int) : topL E (callT E tab) 41 Try.f41 (impl_Window_own.c v0 v1 v2 v3 v4) = impl_Window_own.t (fun b => some (impl_Window_own.mk b)) v0 v1 v2 v3 v4 := by kernel_rfl
theorem impl_Window_own.eq (v0 : List (Int × Int)) (v1 : List (Int × Int)) (v2 : List (Int × Int)) (v3 : Int) (v4 : Int) {b : (List (Int × Int)) × (List (Int × Int)) × (List (Int × Int)) × Int × Int} (h : impl_Window_own.t some v0 v1 v2 v3 v4 = some b) : impl_Window_own v0 v1 v2 v3 v4 = some b := tOf_intro impl_Window_own.un (fun _ => by kernel_rfl) (vlim_fn (callT_le E tab) rfl rfl rfl ((impl_Window_own.k v0 v1 v2 v3 v4).trans ((by unfold impl_Window_own.t; repeat' first | exact Sub.ret | exact Sub.none | exact Sub.loop | apply Sub.cond | (apply Sub.bind; intro _) : Sub impl_Window_own.mk _ _) b h)))
noncomputable def xs05.t {γ : Type} (ret : ((List (Int × Int))) → Option γ) (v0 : List (Int × Int)) : Option γ :=
 bif decide (v0.length ≤ (4294967296 : Nat)) then
  ret (v0)
 else
  none
theorem xs05.k (v0 : List (Int × Int)) : extOf 50 (xs05.c v0) = xs05.t (fun b => some (xs05.mk b)) v0 := by kernel_rfl
theorem xs05.eq (v0 : List (Int × Int)) {b : (List (Int × Int))} (h : xs05.t some v0 = some b) : xs05 v0 = some b := tOf_intro xs05.un (fun _ => by kernel_rfl) (vlim_ext (g := extOf 50) rfl ((xs05.k v0).trans ((by unfold xs05.t; repeat' first | exact Sub.ret | exact Sub.none | exact Sub.loop | apply Sub.cond | (apply Sub.bind; intro _) : Sub xs05.mk _ _) b h)))
noncomputable def impl_PushMap.t {γ : Type} (ret : ((List (Int × Int)) × (List (Int × Int)) × (List (Int × Int)) × Int × Int × Bool) → Option γ) (v0 : List (Int × Int)) (v1 : List (Int × Int)) (v2 : List (Int × Int)) (v3 : Int) (v4 : Int) (v5 : Int) (v6 : Int) : Option γ :=
 (impl_GoodWindow (v0) (v1) (v2) (v3) (v4)).bind fun (r0 : Bool) =>
 bif !r0 then
  ret ([], [], [], (0 : Int), (0 : Int), Bool.false)
 else
  (impl_GoodMap (v5) (v6)).bind fun (r1 : Bool) =>
  bif !r1 then
   ret ([], [], [], (0 : Int), (0 : Int), Bool.false)
  else
   bif IntKind.i64.wrap ((↑v0.length : Int) + (↑v2.length : Int)) == (60 : Int) then
    ret ([], [], [], (0 : Int), (0 : Int), Bool.false)
   else
    (impl_Window_own (v0) (v1) (v2) (v3) (v4)).bind fun (r2 : (List (Int × Int)) × (List (Int × Int)) × (List (Int × Int)) × Int × Int) =>
    (xi09 (r2.fst) (r2.snd.fst) (r2.snd.snd.fst) (r2.snd.snd.snd.fst) (r2.snd.snd.snd.snd) (v5) (v6)).bind fun (r3 : (List (Int × Int)) × (List (Int × Int)) × (List (Int × Int)) × Int × Int) =>
    (impl_Window_own (r3.fst) (r3.snd.fst) (r3.snd.snd.fst) (r3.snd.snd.snd.fst) (r3.snd.snd.snd.snd)).bind fun (r4 : (List (Int × Int)) × (List (Int × Int)) × (List (Int × Int)) × Int × Int) =>
    ret (r4.fst, r4.snd.fst, r4.snd.snd.fst, r4.snd.snd.snd.fst, r4.snd.snd.snd.snd, Bool.true)
theorem impl_PushMap.k (v0 : List (Int × Int)) (v1 : List (Int × Int)) (v2 : List (Int × Int)) (v3 : Int) (v4 : Int) (v5 : Int) (v6 : Int) : topL E (callT E tab) 11 Try.f11 (impl_PushMap.c v0 v1 v2 v3 v4 v5 v6) = impl_PushMap.t (fun b => some (impl_PushMap.mk b)) v0 v1 v2 v3 v4 v5 v6 := by kernel_rfl
theorem impl_PushMap.eq (v0 : List (Int × Int)) (v1 : List (Int × Int)) (v2 : List (Int × Int)) (v3 : Int) (v4 : Int) (v5 : Int) (v6 : Int) {b : (List (Int × Int)) × (List (Int × Int)) × (List (Int × Int)) × Int × Int × Bool} (h : impl_PushMap.t some v0 v1 v2 v3 v4 v5 v6 = some b) : impl_PushMap v0 v1 v2 v3 v4 v5 v6 = some b := tOf_intro impl_PushMap.un (fun _ => by kernel_rfl) (vlim_fn (callT_le E tab) rfl rfl rfl ((impl_PushMap.k v0 v1 v2 v3 v4 v5 v6).trans ((by unfold impl_PushMap.t; repeat' first | exact Sub.ret | exact Sub.none | exact Sub.loop | apply Sub.cond | (apply Sub.bind; intro _) : Sub impl_PushMap.mk _ _) b h)))
noncomputable def impl_WindowSum.t {γ : Type} (ret : (Int × Int × Bool) → Option γ) (v0 : List (Int × Int)) (v1 : List (Int × Int)) (v2 : List (Int × Int)) (v3 : Int) (v4 : Int) : Option γ :=
 (impl_GoodWindow (v0) (v1) (v2) (v3) (v4)).bind fun (r0 : Bool) =>
 bif !r0 then
  ret ((0 : Int), (0 : Int), Bool.false)
 else
  (impl_Window_sum (v0) (v1) (v2) (v3) (v4)).bind fun (r1 : Int × Int) =>
  ret (r1.fst, r1.snd, Bool.true)
theorem impl_WindowSum.k (v0 : List (Int × Int)) (v1 : List (Int × Int)) (v2 : List (Int × Int)) (v3 : Int) (v4 : Int) : topL E (callT E tab) 12 Try.f12 (impl_WindowSum.c v0 v1 v2 v3 v4) = impl_WindowSum.t (fun b => some (impl_WindowSum.mk b)) v0 v1 v2 v3 v4 := by kernel_rfl
theorem impl_WindowSum.eq (v0 : List (Int × Int)) (v1 : List (Int × Int)) (v2 : List (Int × Int)) (v3 : Int) (v4 : Int) {b : Int × Int × Bool} (h : impl_WindowSum.t some v0 v1 v2 v3 v4 = some b) : impl_WindowSum v0 v1 v2 v3 v4 = some b := tOf_intro impl_WindowSum.un (fun _ => by kernel_rfl) (vlim_fn (callT_le E tab) rfl rfl rfl ((impl_WindowSum.k v0 v1 v2 v3 v4).trans ((by unfold impl_WindowSum.t; repeat' first | exact Sub.ret | exact Sub.none | exact Sub.loop | apply Sub.cond | (apply Sub.bind; intro _) : Sub impl_WindowSum.mk _ _) b h)))
noncomputable def impl_ApplyMap.t {γ : Type} (ret : (Int × Bool) → Option γ) (v0 : Int) (v1 : Int) (v2 : Int) : Option γ :=
 (impl_GoodMap (v0) (v1)).bind fun (r0 : Bool) =>
 bif !r0 then
  ret ((0 : Int), Bool.false)
 else
  (impl_isRest (v2)).bind fun (r1 : Bool) =>
  bif !r1 then
   ret ((0 : Int), Bool.false)
  else
   ret ((IntKind.i64.wrap (IntKind.i64.wrap (v0 * v2) + v1)).tmod (1009 : Int), Bool.true)
theorem impl_ApplyMap.k (v0 : Int) (v1 : Int) (v2 : Int) : topL E (callT E tab) 17 Try.f17 (impl_ApplyMap.c v0 v1 v2) = impl_ApplyMap.t (fun b => some (impl_ApplyMap.mk b)) v0 v1 v2 := by kernel_rfl
theorem impl_ApplyMap.eq (v0 : Int) (v1 : Int) (v2 : Int) {b : Int × Bool} (h : impl_ApplyMap.t some v0 v1 v2 = some b) : impl_ApplyMap v0 v1 v2 = some b := tOf_intro impl_ApplyMap.un (fun _ => by kernel_rfl) (vlim_fn (callT_le E tab) rfl rfl rfl ((impl_ApplyMap.k v0 v1 v2).trans ((by unfold impl_ApplyMap.t; repeat' first | exact Sub.ret | exact Sub.none | exact Sub.loop | apply Sub.cond | (apply Sub.bind; intro _) : Sub impl_ApplyMap.mk _ _) b h)))
noncomputable def laws_FnWindows.q25 (v0 : List (Int × Int)) (v1 : Int) (v2 : Int) (v3 : Bool) (v4 : Int) (v5 : Int) (v6 : Int) (v7 : Int) : Option R := loopAtL E (callT E tab) 4 Try.f4 2 [.r, .r, .r, .r, .r, .r, .r, .r, .r, .r, .r, .r, .l, .r, .l, .r, .r, .r, .l, .r, .b] (nn 19 (vc (.d .deep (.sl (.pair (.int .i64) (.int .i64))) v0) :: nn 7 (⟨(.box false), [iL v1, iL v2], false, false, false, 0, 0⟩ :: vc (bL v3) :: vc (iL v4) :: vc (iL v5) :: nn 166 (vc (.lent ⟨19, 0, none⟩ none) :: vc (iL v6) :: vc (iL v7) :: nn 32 ([])))))
noncomputable def laws_FnWindows.l25 (v0 : List (Int × Int)) (v1 : Int) (v2 : Int) (v3 : Bool) (v4 : Int) (v5 : Int) (v6 : Int) (v7 : Int) : Option (Bool) := tOf laws_FnWindows.mk (laws_FnWindows.q25 v0 v1 v2 v3 v4 v5 v6 v7)
noncomputable def laws_FnWindows.q2000020 (v0 : List Int) (v1 : List (Int × Int)) (v2 : List (Int × Int)) (v3 : List (Int × Int)) (v4 : Int) (v5 : Int) (v6 : List (Int × Int)) (v7 : Bool) : Option R := joinAtL E (callT E tab) 4 Try.f4 2 [.r, .r, .r, .r, .r, .r, .r, .r, .r, .r, .r, .r, .l, .l] (nn 1 (vc (.d .fro (.sl (.int .u8)) v0) :: nn 3 (⟨(.box false), [.d .deep (.sl (.pair (.int .i64) (.int .i64))) v1, .d .deep (.sl (.pair (.int .i64) (.int .i64))) v2, .d .deep (.sl (.pair (.int .i64) (.int .i64))) v3, iL v4, iL v5], false, false, false, 0, 0⟩ :: nn 13 (vc (.d .deep (.sl (.pair (.int .i64) (.int .i64))) v6) :: vc (bL v7) :: nn 211 ([])))))
noncomputable def laws_FnWindows.l2000020 (v0 : List Int) (v1 : List (Int × Int)) (v2 : List (Int × Int)) (v3 : List (Int × Int)) (v4 : Int) (v5 : Int) (v6 : List (Int × Int)) (v7 : Bool) : Option (Bool) := tOf laws_FnWindows.mk (laws_FnWindows.q2000020 v0 v1 v2 v3 v4 v5 v6 v7)
noncomputable def laws_FnWindows.q2000016 (v0 : List Int) (v1 : List (Int × Int)) (v2 : List (Int × Int)) (v3 : List (Int × Int)) (v4 : Int) (v5 : Int) (v6 : List (Int × Int)) (v7 : List (Int × Int)) (v8 : List (Int × Int)) (v9 : Int) (v10 : Int) (v11 : Int) (v12 : Int) (v13 : Bool) (v14 : List (Int × Int)) (v15 : Bool) : Option R := joinAtL E (callT E tab) 4 Try.f4 2 [.r, .r, .r, .r, .r, .r, .r, .r, .r, .r, .r, .l, .l] (nn 1 (vc (.d .fro (.sl (.int .u8)) v0) :: nn 3 (⟨(.box false), [.d .deep (.sl (.pair (.int .i64) (.int .i64))) v1, .d .deep (.sl (.pair (.int .i64) (.int .i64))) v2, .d .deep (.sl (.pair (.int .i64) (.int .i64))) v3, iL v4, iL v5], false, false, false, 0, 0⟩ :: nn 5 (⟨(.box false), [.d .deep (.sl (.pair (.int .i64) (.int .i64))) v6, .d .deep (.sl (.pair (.int .i64) (.int .i64))) v7, .d .deep (.sl (.pair (.int .i64) (.int .i64))) v8, iL v9, iL v10], false, false, false, 0, 0⟩ :: ⟨(.box false), [iL v11, iL v12], false, false, false, 0, 0⟩ :: nn 1 (vc (bL v13) :: nn 4 (vc (.d .deep (.sl (.pair (.int .i64) (.int .i64))) v14) :: vc (bL v15) :: nn 211 ([])))))))
noncomputable def laws_FnWindows.l2000016 (v0 : List Int) (v1 : List (Int × Int)) (v2 : List (Int × Int)) (v3 : List (Int × Int)) (v4 : Int) (v5 : Int) (v6 : List (Int × Int)) (v7 : List (Int × Int)) (v8 : List (Int × Int)) (v9 : Int) (v10 : Int) (v11 : Int) (v12 : Int) (v13 : Bool) (v14 : List (Int × Int)) (v15 : Bool) : Option (Bool) := tOf laws_FnWindows.mk (laws_FnWindows.q2000016 v0 v1 v2 v3 v4 v5 v6 v7 v8 v9 v10 v11 v12 v13 v14 v15)
noncomputable def laws_FnWindows.q2000012 (v0 : List Int) (v1 : List (Int × Int)) (v2 : List (Int × Int)) (v3 : List (Int × Int)) (v4 : Int) (v5 : Int) (v6 : Int) (v7 : Int) (v8 : List (Int × Int)) (v9 : List (Int × Int)) (v10 : List (Int × Int)) (v11 : Int) (v12 : Int) (v13 : Bool) (v14 : List (Int × Int)) (v15 : List (Int × Int)) (v16 : List (Int × Int)) (v17 : Int) (v18 : Int) (v19 : Int) (v20 : Int) (v21 : Bool) (v22 : List (Int × Int)) (v23 : Bool) : Option R := joinAtL E (callT E tab) 4 Try.f4 2 [.r, .r, .r, .r, .r, .r, .r, .r, .r, .r, .l, .l] (nn 1 (vc (.d .fro (.sl (.int .u8)) v0) :: nn 3 (⟨(.box false), [.d .deep (.sl (.pair (.int .i64) (.int .i64))) v1, .d .deep (.sl (.pair (.int .i64) (.int .i64))) v2, .d .deep (.sl (.pair (.int .i64) (.int .i64))) v3, iL v4, iL v5], false, false, false, 0, 0⟩ :: ⟨(.box false), [iL v6, iL v7], false, false, false, 0, 0⟩ :: ⟨(.box false), [.d .deep (.sl (.pair (.int .i64) (.int .i64))) v8, .d .deep (.sl (.pair (.int .i64) (.int .i64))) v9, .d .deep (.sl (.pair (.int .i64) (.int .i64))) v10, iL v11, iL v12], false, false, false, 0, 0⟩ :: vc (bL v13) :: nn 2 (⟨(.box false), [.d .deep (.sl (.pair (.int .i64) (.int .i64))) v14, .d .deep (.sl (.pair (.int .i64) (.int .i64))) v15, .d .deep (.sl (.pair (.int .i64) (.int .i64))) v16, iL v17, iL v18], false, false, false, 0, 0⟩ :: ⟨(.box false), [iL v19, iL v20], false, false, false, 0, 0⟩ :: nn 1 (vc (bL v21) :: nn 4 (vc (.d .deep (.sl (.pair (.int .i64) (.int .i64))) v22) :: vc (bL v23) :: nn 211 ([])))))))
noncomputable def laws_FnWindows.l2000012 (v0 : List Int) (v1 : List (Int × Int)) (v2 : List (Int × Int)) (v3 : List (Int × Int)) (v4 : Int) (v5 : Int) (v6 : Int) (v7 : Int) (v8 : List (Int × Int)) (v9 : List (Int × Int)) (v10 : List (Int × Int)) (v11 : Int) (v12 : Int) (v13 : Bool) (v14 : List (Int × Int)) (v15 : List (Int × Int)) (v16 : List (Int × Int)) (v17 : Int) (v18 : Int) (v19 : Int) (v20 : Int) (v21 : Bool) (v22 : List (Int × Int)) (v23 : Bool) : Option (Bool) := tOf laws_FnWindows.mk (laws_FnWindows.q2000012 v0 v1 v2 v3 v4 v5 v6 v7 v8 v9 v10 v11 v12 v13 v14 v15 v16 v17 v18 v19 v20 v21 v22 v23)
noncomputable def laws_FnWindows.t {γ : Type} (ret : (Bool) → Option γ) (lp25 : (List (Int × Int)) → Int → Int → Bool → Int → Int → Int → Int → Option γ) (lp2000020 : (List Int) → (List (Int × Int)) → (List (Int × Int)) → (List (Int × Int)) → Int → Int → (List (Int × Int)) → Bool → Option γ) (lp2000016 : (List Int) → (List (Int × Int)) → (List (Int × Int)) → (List (Int × Int)) → Int → Int → (List (Int × Int)) → (List (Int × Int)) → (List (Int × Int)) → Int → Int → Int → Int → Bool → (List (Int × Int)) → Bool → Option γ) (lp2000012 : (List Int) → (List (Int × Int)) → (List (Int × Int)) → (List (Int × Int)) → Int → Int → Int → Int → (List (Int × Int)) → (List (Int × Int)) → (List (Int × Int)) → Int → Int → Bool → (List (Int × Int)) → (List (Int × Int)) → (List (Int × Int)) → Int → Int → Int → Int → Bool → (List (Int × Int)) → Bool → Option γ) (v0 : List Int) (v1 : List Int) : Option γ :=
 bif decide (IntKind.i64.wrap ((↑v0.length : Int) + (↑v1.length : Int)) > (1048576 : Int)) then
  ret (Bool.true)
 else
  (spec_DrawPushMap (v0)).bind fun (r0 : (List (Int × Int)) × (List (Int × Int)) × (List (Int × Int)) × Int × Int × Int × Int) =>
  (impl_PushMap (r0.fst) (r0.snd.fst) (r0.snd.snd.fst) (r0.snd.snd.snd.fst) (r0.snd.snd.snd.snd.fst) (r0.snd.snd.snd.snd.snd.fst) (r0.snd.snd.snd.snd.snd.snd)).bind fun (r1 : (List (Int × Int)) × (List (Int × Int)) × (List (Int × Int)) × Int × Int × Bool) =>
  (spec_PushMap (r0.fst) (r0.snd.fst) (r0.snd.snd.fst) (r0.snd.snd.snd.fst) (r0.snd.snd.snd.snd.fst) (r0.snd.snd.snd.snd.snd.fst) (r0.snd.snd.snd.snd.snd.snd)).bind fun (r2 : (List (Int × Int)) × (List (Int × Int)) × (List (Int × Int)) × Int × Int × Bool) =>
  (impl_PopMap (r0.fst) (r0.snd.fst) (r0.snd.snd.fst) (r0.snd.snd.snd.fst) (r0.snd.snd.snd.snd.fst)).bind fun (r3 : (List (Int × Int)) × (List (Int × Int)) × (List (Int × Int)) × Int × Int × Int × Int × Int × Bool) =>
  (spec_PopMap (r0.fst) (r0.snd.fst) (r0.snd.snd.fst) (r0.snd.snd.snd.fst) (r0.snd.snd.snd.snd.fst)).bind fun (r4 : (List (Int × Int)) × (List (Int × Int)) × (List (Int × Int)) × Int × Int × Int × Int × Int × Bool) =>
  (impl_ItemsIn (r0.fst) (r0.snd.fst) (r0.snd.snd.fst) (r0.snd.snd.snd.fst) (r0.snd.snd.snd.snd.fst)).bind fun (r5 : (List (Int × Int)) × Bool) =>
  (spec_ItemsIn (r0.fst) (r0.snd.fst) (r0.snd.snd.fst) (r0.snd.snd.snd.fst) (r0.snd.snd.snd.snd.fst)).bind fun (r6 : (List (Int × Int)) × Bool) =>
  bif !r1.snd.snd.snd.snd.snd == r2.snd.snd.snd.snd.snd then
   ret (Bool.false)
  else
   (laws_sameWindows (r1.fst) (r1.snd.fst) (r1.snd.snd.fst) (r1.snd.snd.snd.fst) (r1.snd.snd.snd.snd.fst) (r2.fst) (r2.snd.fst) (r2.snd.snd.fst) (r2.snd.snd.snd.fst) (r2.snd.snd.snd.snd.fst)).bind fun (r7 : Bool) =>
   bif !r7 then
    ret (Bool.false)
   else
    bif !r3.snd.snd.snd.snd.snd.snd.snd.snd == r4.snd.snd.snd.snd.snd.snd.snd.snd then
     ret (Bool.false)
    else
     bif !(decide (r3.snd.snd.snd.snd.snd.fst = r4.snd.snd.snd.snd.snd.fst) &&     (decide (r3.snd.snd.snd.snd.snd.snd.fst = r4.snd.snd.snd.snd.snd.snd.fst) && Bool.true)) then
      ret (Bool.false)
     else
      bif r3.snd.snd.snd.snd.snd.snd.snd.fst != r4.snd.snd.snd.snd.snd.snd.snd.fst then
       ret (Bool.false)
      else
       (laws_sameWindows (r3.fst) (r3.snd.fst) (r3.snd.snd.fst) (r3.snd.snd.snd.fst) (r3.snd.snd.snd.snd.fst) (r4.fst) (r4.snd.fst) (r4.snd.snd.fst) (r4.snd.snd.snd.fst) (r4.snd.snd.snd.snd.fst)).bind fun (r8 : Bool) =>
       bif !r8 then
        ret (Bool.false)
       else
        bif !r5.snd == r6.snd then
         ret (Bool.false)
        else
         (laws_sameMaps (r5.fst) (r6.fst)).bind fun (r9 : Bool) =>
         bif !r9 then
          ret (Bool.false)
         else
          (impl_GoodWindow (r0.fst) (r0.snd.fst) (r0.snd.snd.fst) (r0.snd.snd.snd.fst) (r0.snd.snd.snd.snd.fst)).bind fun (r10 : Bool) =>
          bif !r10 == r6.snd then
           ret (Bool.false)
          else
           lp2000012 (v1) (r0.fst) (r0.snd.fst) (r0.snd.snd.fst) (r0.snd.snd.snd.fst) (r0.snd.snd.snd.snd.fst) (r0.snd.snd.snd.snd.snd.fst) (r0.snd.snd.snd.snd.snd.snd) (r1.fst) (r1.snd.fst) (r1.snd.snd.fst) (r1.snd.snd.snd.fst) (r1.snd.snd.snd.snd.fst) (r1.snd.snd.snd.snd.snd) (r3.fst) (r3.snd.fst) (r3.snd.snd.fst) (r3.snd.snd.snd.fst) (r3.snd.snd.snd.snd.fst) (r3.snd.snd.snd.snd.snd.fst) (r3.snd.snd.snd.snd.snd.snd.fst) (r3.snd.snd.snd.snd.snd.snd.snd.snd) (r5.fst) (r5.snd)
noncomputable def laws_FnWindows.t25 {γ : Type} (ret : (Bool) → Option γ) (lp25 : (List (Int × Int)) → Int → Int → Bool → Int → Int → Int → Int → Option γ) (lp2000020 : (List Int) → (List (Int × Int)) → (List (Int × Int)) → (List (Int × Int)) → Int → Int → (List (Int × Int)) → Bool → Option γ) (lp2000016 : (List Int) → (List (Int × Int)) → (List (Int × Int)) → (List (Int × Int)) → Int → Int → (List (Int × Int)) → (List (Int × Int)) → (List (Int × Int)) → Int → Int → Int → Int → Bool → (List (Int × Int)) → Bool → Option γ) (lp2000012 : (List Int) → (List (Int × Int)) → (List (Int × Int)) → (List (Int × Int)) → Int → Int → Int → Int → (List (Int × Int)) → (List (Int × Int)) → (List (Int × Int)) → Int → Int → Bool → (List (Int × Int)) → (List (Int × Int)) → (List (Int × Int)) → Int → Int → Int → Int → Bool → (List (Int × Int)) → Bool → Option γ) (v0 : List (Int × Int)) (v1 : Int) (v2 : Int) (v3 : Bool) (v4 : Int) (v5 : Int) (v6 : Int) (v7 : Int) : Option γ :=
 bif decide (v7 < v6) then
  bif decide ((0 : Int) ≤ v7) then
   bif decide (v7.toNat < v0.length) then
    bif decide (v7.toNat < v0.length) then
     (impl_ApplyMap ((v0.getD v7.toNat ((0 : Int), (0 : Int))).fst) ((v0.getD v7.toNat ((0 : Int), (0 : Int))).snd) (v5)).bind fun (r19 : Int × Bool) =>
     bif !r19.snd then
      ret (Bool.false)
     else
      lp25 (v0) (v1) (v2) (v3) (v4) (r19.fst) (v6) (IntKind.i64.wrap (v7 + (1 : Int)))
    else
     none
   else
    none
  else
   none
 else
  (impl_ApplyMap (v1) (v2) (v4)).bind fun (r20 : Int × Bool) =>
  bif !v3 then
   ret (Bool.false)
  else
   bif !r20.snd then
    ret (Bool.false)
   else
    bif r20.fst != v5 then
     ret (Bool.false)
    else
     (impl_NewWindow ).bind fun (r21 : (List (Int × Int)) × (List (Int × Int)) × (List (Int × Int)) × Int × Int) =>
     (impl_GoodWindow (r21.fst) (r21.snd.fst) (r21.snd.snd.fst) (r21.snd.snd.snd.fst) (r21.snd.snd.snd.snd)).bind fun (r22 : Bool) =>
     ret (r22)
noncomputable def laws_FnWindows.t2000020 {γ : Type} (ret : (Bool) → Option γ) (lp25 : (List (Int × Int)) → Int → Int → Bool → Int → Int → Int → Int → Option γ) (lp2000020 : (List Int) → (List (Int × Int)) → (List (Int × Int)) → (List (Int × Int)) → Int → Int → (List (Int × Int)) → Bool → Option γ) (lp2000016 : (List Int) → (List (Int × Int)) → (List (Int × Int)) → (List (Int × Int)) → Int → Int → (List (Int × Int)) → (List (Int × Int)) → (List (Int × Int)) → Int → Int → Int → Int → Bool → (List (Int × Int)) → Bool → Option γ) (lp2000012 : (List Int) → (List (Int × Int)) → (List (Int × Int)) → (List (Int × Int)) → Int → Int → Int → Int → (List (Int × Int)) → (List (Int × Int)) → (List (Int × Int)) → Int → Int → Bool → (List (Int × Int)) → (List (Int × Int)) → (List (Int × Int)) → Int → Int → Int → Int → Bool → (List (Int × Int)) → Bool → Option γ) (v0 : List Int) (v1 : List (Int × Int)) (v2 : List (Int × Int)) (v3 : List (Int × Int)) (v4 : Int) (v5 : Int) (v6 : List (Int × Int)) (v7 : Bool) : Option γ :=
 bif v7 then
  (impl_WindowSum (v1) (v2) (v3) (v4) (v5)).bind fun (r17 : Int × Int × Bool) =>
  (laws_numberOf (v0)).bind fun (r18 : Int) =>
  lp25 (v6) (r17.fst) (r17.snd.fst) (r17.snd.snd) (r18.tmod (1009 : Int)) (r18.tmod (1009 : Int)) ((↑v6.length : Int)) ((0 : Int))
 else
  (impl_NewWindow ).bind fun (r23 : (List (Int × Int)) × (List (Int × Int)) × (List (Int × Int)) × Int × Int) =>
  (impl_GoodWindow (r23.fst) (r23.snd.fst) (r23.snd.snd.fst) (r23.snd.snd.snd.fst) (r23.snd.snd.snd.snd)).bind fun (r24 : Bool) =>
  ret (r24)
noncomputable def laws_FnWindows.t2000016 {γ : Type} (ret : (Bool) → Option γ) (lp25 : (List (Int × Int)) → Int → Int → Bool → Int → Int → Int → Int → Option γ) (lp2000020 : (List Int) → (List (Int × Int)) → (List (Int × Int)) → (List (Int × Int)) → Int → Int → (List (Int × Int)) → Bool → Option γ) (lp2000016 : (List Int) → (List (Int × Int)) → (List (Int × Int)) → (List (Int × Int)) → Int → Int → (List (Int × Int)) → (List (Int × Int)) → (List (Int × Int)) → Int → Int → Int → Int → Bool → (List (Int × Int)) → Bool → Option γ) (lp2000012 : (List Int) → (List (Int × Int)) → (List (Int × Int)) → (List (Int × Int)) → Int → Int → Int → Int → (List (Int × Int)) → (List (Int × Int)) → (List (Int × Int)) → Int → Int → Bool → (List (Int × Int)) → (List (Int × Int)) → (List (Int × Int)) → Int → Int → Int → Int → Bool → (List (Int × Int)) → Bool → Option γ) (v0 : List Int) (v1 : List (Int × Int)) (v2 : List (Int × Int)) (v3 : List (Int × Int)) (v4 : Int) (v5 : Int) (v6 : List (Int × Int)) (v7 : List (Int × Int)) (v8 : List (Int × Int)) (v9 : Int) (v10 : Int) (v11 : Int) (v12 : Int) (v13 : Bool) (v14 : List (Int × Int)) (v15 : Bool) : Option γ :=
 bif v13 then
  (impl_ItemsIn (v6) (v7) (v8) (v9) (v10)).bind fun (r14 : (List (Int × Int)) × Bool) =>
  bif !r14.snd then
   ret (Bool.false)
  else
   bif (↑v14.length : Int) == (0 : Int) then
    ret (Bool.false)
   else
    bif decide (Int.toNat (0 : Int) < v14.length) then
     bif decide (Int.toNat (0 : Int) < v14.length) then
      bif !(decide (v11 = (v14.getD (Int.toNat (0 : Int)) ((0 : Int), (0 : Int))).fst) &&     (decide (v12 = (v14.getD (Int.toNat (0 : Int)) ((0 : Int), (0 : Int))).snd) && Bool.true)) then
       ret (Bool.false)
      else
       bif decide ((Option.some (1 : Int)).getD (0 : Int) ≤ (↑v14.length : Int)) then
        (laws_sameMaps (r14.fst) (List.drop ((Option.some (1 : Int)).getD (0 : Int)).toNat v14)).bind fun (r15 : Bool) =>
        bif !r15 then
         ret (Bool.false)
        else
         (impl_GoodWindow (v6) (v7) (v8) (v9) (v10)).bind fun (r16 : Bool) =>
         bif !r16 then
          ret (Bool.false)
         else
          lp2000020 (v0) (v1) (v2) (v3) (v4) (v5) (v14) (v15)
       else
        none
     else
      none
    else
     none
 else
  lp2000020 (v0) (v1) (v2) (v3) (v4) (v5) (v14) (v15)
noncomputable def laws_FnWindows.t2000012 {γ : Type} (ret : (Bool) → Option γ) (lp25 : (List (Int × Int)) → Int → Int → Bool → Int → Int → Int → Int → Option γ) (lp2000020 : (List Int) → (List (Int × Int)) → (List (Int × Int)) → (List (Int × Int)) → Int → Int → (List (Int × Int)) → Bool → Option γ) (lp2000016 : (List Int) → (List (Int × Int)) → (List (Int × Int)) → (List (Int × Int)) → Int → Int → (List (Int × Int)) → (List (Int × Int)) → (List (Int × Int)) → Int → Int → Int → Int → Bool → (List (Int × Int)) → Bool → Option γ) (lp2000012 : (List Int) → (List (Int × Int)) → (List (Int × Int)) → (List (Int × Int)) → Int → Int → Int → Int → (List (Int × Int)) → (List (Int × Int)) → (List (Int × Int)) → Int → Int → Bool → (List (Int × Int)) → (List (Int × Int)) → (List (Int × Int)) → Int → Int → Int → Int → Bool → (List (Int × Int)) → Bool → Option γ) (v0 : List Int) (v1 : List (Int × Int)) (v2 : List (Int × Int)) (v3 : List (Int × Int)) (v4 : Int) (v5 : Int) (v6 : Int) (v7 : Int) (v8 : List (Int × Int)) (v9 : List (Int × Int)) (v10 : List (Int × Int)) (v11 : Int) (v12 : Int) (v13 : Bool) (v14 : List (Int × Int)) (v15 : List (Int × Int)) (v16 : List (Int × Int)) (v17 : Int) (v18 : Int) (v19 : Int) (v20 : Int) (v21 : Bool) (v22 : List (Int × Int)) (v23 : Bool) : Option γ :=
 bif v13 then
  (impl_ItemsIn (v8) (v9) (v10) (v11) (v12)).bind fun (r11 : (List (Int × Int)) × Bool) =>
  bif !r11.snd then
   ret (Bool.false)
  else
   bif decide (([] : List Int).length + v22.length ≤ (4294967296 : Nat)) then
    bif decide (([] ++ v22).length + [(v6, v7)].length ≤ (4294967296 : Nat)) then
     (laws_sameMaps (r11.fst) ([] ++ v22 ++ [(v6, v7)])).bind fun (r12 : Bool) =>
     bif !r12 then
      ret (Bool.false)
     else
      (impl_GoodWindow (v8) (v9) (v10) (v11) (v12)).bind fun (r13 : Bool) =>
      bif !r13 then
       ret (Bool.false)
      else
       lp2000016 (v0) (v1) (v2) (v3) (v4) (v5) (v14) (v15) (v16) (v17) (v18) (v19) (v20) (v21) (v22) (v23)
    else
     none
   else
    none
 else
  lp2000016 (v0) (v1) (v2) (v3) (v4) (v5) (v14) (v15) (v16) (v17) (v18) (v19) (v20) (v21) (v22) (v23)
theorem laws_FnWindows.k (v0 : List Int) (v1 : List Int) : topL E (callT E tab) 4 Try.f4 (laws_FnWindows.c v0 v1) = laws_FnWindows.t (fun b => some (laws_FnWindows.mk b)) laws_FnWindows.q25 laws_FnWindows.q2000020 laws_FnWindows.q2000016 laws_FnWindows.q2000012 v0 v1 := by kernel_rfl
theorem laws_FnWindows.k25 (v0 : List (Int × Int)) (v1 : Int) (v2 : Int) (v3 : Bool) (v4 : Int) (v5 : Int) (v6 : Int) (v7 : Int) : roundL E (callT E tab) 4 Try.f4 2 [.r, .r, .r, .r, .r, .r, .r, .r, .r, .r, .r, .r, .l, .r, .l, .r, .r, .r, .l, .r, .b] (nn 19 (vc (.d .deep (.sl (.pair (.int .i64) (.int .i64))) v0) :: nn 7 (⟨(.box false), [iL v1, iL v2], false, false, false, 0, 0⟩ :: vc (bL v3) :: vc (iL v4) :: vc (iL v5) :: nn 166 (vc (.lent ⟨19, 0, none⟩ none) :: vc (iL v6) :: vc (iL v7) :: nn 32 ([]))))) = laws_FnWindows.t25 (fun b => some (laws_FnWindows.mk b)) laws_FnWindows.q25 laws_FnWindows.q2000020 laws_FnWindows.q2000016 laws_FnWindows.q2000012 v0 v1 v2 v3 v4 v5 v6 v7 := by kernel_rfl
theorem laws_FnWindows.k2000020 (v0 : List Int) (v1 : List (Int × Int)) (v2 : List (Int × Int)) (v3 : List (Int × Int)) (v4 : Int) (v5 : Int) (v6 : List (Int × Int)) (v7 : Bool) : roundJ E (callT E tab) 4 Try.f4 2 [.r, .r, .r, .r, .r, .r, .r, .r, .r, .r, .r, .r, .l, .l] (nn 1 (vc (.d .fro (.sl (.int .u8)) v0) :: nn 3 (⟨(.box false), [.d .deep (.sl (.pair (.int .i64) (.int .i64))) v1, .d .deep (.sl (.pair (.int .i64) (.int .i64))) v2, .d .deep (.sl (.pair (.int .i64) (.int .i64))) v3, iL v4, iL v5], false, false, false, 0, 0⟩ :: nn 13 (vc (.d .deep (.sl (.pair (.int .i64) (.int .i64))) v6) :: vc (bL v7) :: nn 211 ([]))))) = laws_FnWindows.t2000020 (fun b => some (laws_FnWindows.mk b)) laws_FnWindows.q25 laws_FnWindows.q2000020 laws_FnWindows.q2000016 laws_FnWindows.q2000012 v0 v1 v2 v3 v4 v5 v6 v7 := by kernel_rfl
theorem laws_FnWindows.k2000016 (v0 : List Int) (v1 : List (Int × Int)) (v2 : List (Int × Int)) (v3 : List (Int × Int)) (v4 : Int) (v5 : Int) (v6 : List (Int × Int)) (v7 : List (Int × Int)) (v8 : List (Int × Int)) (v9 : Int) (v10 : Int) (v11 : Int) (v12 : Int) (v13 : Bool) (v14 : List (Int × Int)) (v15 : Bool) : roundJ E (callT E tab) 4 Try.f4 2 [.r, .r, .r, .r, .r, .r, .r, .r, .r, .r, .r, .l, .l] (nn 1 (vc (.d .fro (.sl (.int .u8)) v0) :: nn 3 (⟨(.box false), [.d .deep (.sl (.pair (.int .i64) (.int .i64))) v1, .d .deep (.sl (.pair (.int .i64) (.int .i64))) v2, .d .deep (.sl (.pair (.int .i64) (.int .i64))) v3, iL v4, iL v5], false, false, false, 0, 0⟩ :: nn 5 (⟨(.box false), [.d .deep (.sl (.pair (.int .i64) (.int .i64))) v6, .d .deep (.sl (.pair (.int .i64) (.int .i64))) v7, .d .deep (.sl (.pair (.int .i64) (.int .i64))) v8, iL v9, iL v10], false, false, false, 0, 0⟩ :: ⟨(.box false), [iL v11, iL v12], false, false, false, 0, 0⟩ :: nn 1 (vc (bL v13) :: nn 4 (vc (.d .deep (.sl (.pair (.int .i64) (.int .i64))) v14) :: vc (bL v15) :: nn 211 ([]))))))) = laws_FnWindows.t2000016 (fun b => some (laws_FnWindows.mk b)) laws_FnWindows.q25 laws_FnWindows.q2000020 laws_FnWindows.q2000016 laws_FnWindows.q2000012 v0 v1 v2 v3 v4 v5 v6 v7 v8 v9 v10 v11 v12 v13 v14 v15 := by kernel_rfl
theorem laws_FnWindows.k2000012 (v0 : List Int) (v1 : List (Int × Int)) (v2 : List (Int × Int)) (v3 : List (Int × Int)) (v4 : Int) (v5 : Int) (v6 : Int) (v7 : Int) (v8 : List (Int × Int)) (v9 : List (Int × Int)) (v10 : List (Int × Int)) (v11 : Int) (v12 : Int) (v13 : Bool) (v14 : List (Int × Int)) (v15 : List (Int × Int)) (v16 : List (Int × Int)) (v17 : Int) (v18 : Int) (v19 : Int) (v20 : Int) (v21 : Bool) (v22 : List (Int × Int)) (v23 : Bool) : roundJ E (callT E tab) 4 Try.f4 2 [.r, .r, .r, .r, .r, .r, .r, .r, .r, .r, .l, .l] (nn 1 (vc (.d .fro (.sl (.int .u8)) v0) :: nn 3 (⟨(.box false), [.d .deep (.sl (.pair (.int .i64) (.int .i64))) v1, .d .deep (.sl (.pair (.int .i64) (.int .i64))) v2, .d .deep (.sl (.pair (.int .i64) (.int .i64))) v3, iL v4, iL v5], false, false, false, 0, 0⟩ :: ⟨(.box false), [iL v6, iL v7], false, false, false, 0, 0⟩ :: ⟨(.box false), [.d .deep (.sl (.pair (.int .i64) (.int .i64))) v8, .d .deep (.sl (.pair (.int .i64) (.int .i64))) v9, .d .deep (.sl (.pair (.int .i64) (.int .i64))) v10, iL v11, iL v12], false, false, false, 0, 0⟩ :: vc (bL v13) :: nn 2 (⟨(.box false), [.d .deep (.sl (.pair (.int .i64) (.int .i64))) v14, .d .deep (.sl (.pair (.int .i64) (.int .i64))) v15, .d .deep (.sl (.pair (.int .i64) (.int .i64))) v16, iL v17, iL v18], false, false, false, 0, 0⟩ :: ⟨(.box false), [iL v19, iL v20], false, false, false, 0, 0⟩ :: nn 1 (vc (bL v21) :: nn 4 (vc (.d .deep (.sl (.pair (.int .i64) (.int .i64))) v22) :: vc (bL v23) :: nn 211 ([]))))))) = laws_FnWindows.t2000012 (fun b => some (laws_FnWindows.mk b)) laws_FnWindows.q25 laws_FnWindows.q2000020 laws_FnWindows.q2000016 laws_FnWindows.q2000012 v0 v1 v2 v3 v4 v5 v6 v7 v8 v9 v10 v11 v12 v13 v14 v15 v16 v17 v18 v19 v20 v21 v22 v23 := by kernel_rfl
theorem laws_FnWindows.eq (v0 : List Int) (v1 : List Int) {b : Bool} (h : laws_FnWindows.t some laws_FnWindows.l25 laws_FnWindows.l2000020 laws_FnWindows.l2000016 laws_FnWindows.l2000012 v0 v1 = some b) : laws_FnWindows v0 v1 = some b := tOf_intro laws_FnWindows.un (fun _ => by kernel_rfl) (vlim_fn (callT_le E tab) rfl rfl rfl ((laws_FnWindows.k v0 v1).trans ((by unfold laws_FnWindows.t; repeat' first | exact Sub.ret | exact Sub.none | exact Sub.loop | apply Sub.cond | (apply Sub.bind; intro _) : Sub laws_FnWindows.mk _ _) b h)))
theorem laws_FnWindows.eq25 (v0 : List (Int × Int)) (v1 : Int) (v2 : Int) (v3 : Bool) (v4 : Int) (v5 : Int) (v6 : Int) (v7 : Int) {b : Bool} (h : laws_FnWindows.t25 some laws_FnWindows.l25 laws_FnWindows.l2000020 laws_FnWindows.l2000016 laws_FnWindows.l2000012 v0 v1 v2 v3 v4 v5 v6 v7 = some b) : laws_FnWindows.l25 v0 v1 v2 v3 v4 v5 v6 v7 = some b := tOf_intro laws_FnWindows.un (fun _ => by kernel_rfl) (loopAtL_step ((laws_FnWindows.k25 v0 v1 v2 v3 v4 v5 v6 v7).trans ((by unfold laws_FnWindows.t25; repeat' first | exact Sub.ret | exact Sub.none | exact Sub.loop | apply Sub.cond | (apply Sub.bind; intro _) : Sub laws_FnWindows.mk _ _) b h)))
theorem laws_FnWindows.eq2000020 (v0 : List Int) (v1 : List (Int × Int)) (v2 : List (Int × Int)) (v3 : List (Int × Int)) (v4 : Int) (v5 : Int) (v6 : List (Int × Int)) (v7 : Bool) {b : Bool} (h : laws_FnWindows.t2000020 some laws_FnWindows.l25 laws_FnWindows.l2000020 laws_FnWindows.l2000016 laws_FnWindows.l2000012 v0 v1 v2 v3 v4 v5 v6 v7 = some b) : laws_FnWindows.l2000020 v0 v1 v2 v3 v4 v5 v6 v7 = some b := tOf_intro laws_FnWindows.un (fun _ => by kernel_rfl) (joinAtL_step ((laws_FnWindows.k2000020 v0 v1 v2 v3 v4 v5 v6 v7).trans ((by unfold laws_FnWindows.t2000020; repeat' first | exact Sub.ret | exact Sub.none | exact Sub.loop | apply Sub.cond | (apply Sub.bind; intro _) : Sub laws_FnWindows.mk _ _) b h)))
theorem laws_FnWindows.eq2000016 (v0 : List Int) (v1 : List (Int × Int)) (v2 : List (Int × Int)) (v3 : List (Int × Int)) (v4 : Int) (v5 : Int) (v6 : List (Int × Int)) (v7 : List (Int × Int)) (v8 : List (Int × Int)) (v9 : Int) (v10 : Int) (v11 : Int) (v12 : Int) (v13 : Bool) (v14 : List (Int × Int)) (v15 : Bool) {b : Bool} (h : laws_FnWindows.t2000016 some laws_FnWindows.l25 laws_FnWindows.l2000020 laws_FnWindows.l2000016 laws_FnWindows.l2000012 v0 v1 v2 v3 v4 v5 v6 v7 v8 v9 v10 v11 v12 v13 v14 v15 = some b) : laws_FnWindows.l2000016 v0 v1 v2 v3 v4 v5 v6 v7 v8 v9 v10 v11 v12 v13 v14 v15 = some b := tOf_intro laws_FnWindows.un (fun _ => by kernel_rfl) (joinAtL_step ((laws_FnWindows.k2000016 v0 v1 v2 v3 v4 v5 v6 v7 v8 v9 v10 v11 v12 v13 v14 v15).trans ((by unfold laws_FnWindows.t2000016; repeat' first | exact Sub.ret | exact Sub.none | exact Sub.loop | apply Sub.cond | (apply Sub.bind; intro _) : Sub laws_FnWindows.mk _ _) b h)))
theorem laws_FnWindows.eq2000012 (v0 : List Int) (v1 : List (Int × Int)) (v2 : List (Int × Int)) (v3 : List (Int × Int)) (v4 : Int) (v5 : Int) (v6 : Int) (v7 : Int) (v8 : List (Int × Int)) (v9 : List (Int × Int)) (v10 : List (Int × Int)) (v11 : Int) (v12 : Int) (v13 : Bool) (v14 : List (Int × Int)) (v15 : List (Int × Int)) (v16 : List (Int × Int)) (v17 : Int) (v18 : Int) (v19 : Int) (v20 : Int) (v21 : Bool) (v22 : List (Int × Int)) (v23 : Bool) {b : Bool} (h : laws_FnWindows.t2000012 some laws_FnWindows.l25 laws_FnWindows.l2000020 laws_FnWindows.l2000016 laws_FnWindows.l2000012 v0 v1 v2 v3 v4 v5 v6 v7 v8 v9 v10 v11 v12 v13 v14 v15 v16 v17 v18 v19 v20 v21 v22 v23 = some b) : laws_FnWindows.l2000012 v0 v1 v2 v3 v4 v5 v6 v7 v8 v9 v10 v11 v12 v13 v14 v15 v16 v17 v18 v19 v20 v21 v22 v23 = some b := tOf_intro laws_FnWindows.un (fun _ => by kernel_rfl) (joinAtL_step ((laws_FnWindows.k2000012 v0 v1 v2 v3 v4 v5 v6 v7 v8 v9 v10 v11 v12 v13 v14 v15 v16 v17 v18 v19 v20 v21 v22 v23).trans ((by unfold laws_FnWindows.t2000012; repeat' first | exact Sub.ret | exact Sub.none | exact Sub.loop | apply Sub.cond | (apply Sub.bind; intro _) : Sub laws_FnWindows.mk _ _) b h)))
noncomputable def spec_DrawPushMap.t {γ : Type} (ret : ((List (Int × Int)) × (List (Int × Int)) × (List (Int × Int)) × Int × Int × Int × Int) → Option γ) (v0 : List Int) : Option γ :=
 (xs08 (v0) ((0 : Int)) ((0 : Int))).bind fun (r0 : (List (Int × Int)) × (List (Int × Int)) × (List (Int × Int)) × Int × Int × (List Int) × Int × Int) =>
 (xs07 (r0.snd.snd.snd.snd.snd.fst) (r0.snd.snd.snd.snd.snd.snd.fst) (r0.snd.snd.snd.snd.snd.snd.snd)).bind fun (r1 : Int × Int × (List Int) × Int × Int) =>
 ret (r0.fst, r0.snd.fst, r0.snd.snd.fst, r0.snd.snd.snd.fst, r0.snd.snd.snd.snd.fst, r1.fst, r1.snd.fst)
theorem spec_DrawPushMap.k (v0 : List Int) : topL E (callT E tab) 21 Try.f21 (spec_DrawPushMap.c v0) = spec_DrawPushMap.t (fun b => some (spec_DrawPushMap.mk b)) v0 := by kernel_rfl
theorem spec_DrawPushMap.eq (v0 : List Int) {b : (List (Int × Int)) × (List (Int × Int)) × (List (Int × Int)) × Int × Int × Int × Int} (h : spec_DrawPushMap.t some v0 = some b) : spec_DrawPushMap v0 = some b := tOf_intro spec_DrawPushMap.un (fun _ => by kernel_rfl) (vlim_fn (callT_le E tab) rfl rfl rfl ((spec_DrawPushMap.k v0).trans ((by unfold spec_DrawPushMap.t; repeat' first | exact Sub.ret | exact Sub.none | exact Sub.loop | apply Sub.cond | (apply Sub.bind; intro _) : Sub spec_DrawPushMap.mk _ _) b h)))
noncomputable def xs08.q5 (v0 : List Int) (v1 : Int) (v2 : Int) (v3 : List (Int × Int)) (v4 : List (Int × Int)) (v5 : List (Int × Int)) (v6 : Int) (v7 : Int) (v8 : List (Int × Int)) (v9 : List (Int × Int)) (v10 : List (Int × Int)) (v11 : Int) (v12 : Int) (v13 : Int) : Option R := loopAtL E (callT E tab) 45 Try.f45 1 [.r, .r, .r, .r, .l, .b] (⟨(.box false), [.d .fro (.sl (.int .u8)) v0, iL v1, .d .fro (.int .u64) v2], true, false, false, 0, 0⟩ :: nn 1 (⟨(.box false), [.d .deep (.sl (.pair (.int .i64) (.int .i64))) v3, .d .deep (.sl (.pair (.int .i64) (.int .i64))) v4, .d .deep (.sl (.pair (.int .i64) (.int .i64))) v5, iL v6, iL v7], false, false, false, 0, 0⟩ :: ⟨(.box false), [.d .deep (.sl (.pair (.int .i64) (.int .i64))) v8, .d .deep (.sl (.pair (.int .i64) (.int .i64))) v9, .d .deep (.sl (.pair (.int .i64) (.int .i64))) v10, iL v11, iL v12], false, false, false, 0, 0⟩ :: vc (iL v13) :: nn 54 ([])))
noncomputable def xs08.l5 (v0 : List Int) (v1 : Int) (v2 : Int) (v3 : List (Int × Int)) (v4 : List (Int × Int)) (v5 : List (Int × Int)) (v6 : Int) (v7 : Int) (v8 : List (Int × Int)) (v9 : List (Int × Int)) (v10 : List (Int × Int)) (v11 : Int) (v12 : Int) (v13 : Int) : Option ((List (Int × Int)) × (List (Int × Int)) × (List (Int × Int)) × Int × Int × (List Int) × Int × Int) := tOf xs08.mk (xs08.q5 v0 v1 v2 v3 v4 v5 v6 v7 v8 v9 v10 v11 v12 v13)
noncomputable def xs08.t {γ : Type} (ret : ((List (Int × Int)) × (List (Int × Int)) × (List (Int × Int)) × Int × Int × (List Int) × Int × Int) → Option γ) (lp5 : (List Int) → Int → Int → (List (Int × Int)) → (List (Int × Int)) → (List (Int × Int)) → Int → Int → (List (Int × Int)) → (List (Int × Int)) → (List (Int × Int)) → Int → Int → Int → Option γ) (v0 : List Int) (v1 : Int) (v2 : Int) : Option γ :=
 (spec_NewWindow ).bind fun (r0 : (List (Int × Int)) × (List (Int × Int)) × (List (Int × Int)) × Int × Int) =>
 (xs0d (v0) (v1) (v2) ((16 : Int))).bind fun (r1 : Int × (List Int) × Int × Int) =>
 (spec_l1Cur_one_e61 (r1.snd.fst) (r1.snd.snd.fst) (r1.snd.snd.snd) ((20 : Int))).bind fun (r2 : Bool × (List Int) × Int × Int) =>
 bif r2.fst then
  lp5 (r2.snd.fst) (r2.snd.snd.fst) (r2.snd.snd.snd) ([]) ([]) ([]) ((0 : Int)) ((0 : Int)) (r0.fst) (r0.snd.fst) (r0.snd.snd.fst) (r0.snd.snd.snd.fst) (r0.snd.snd.snd.snd) ((80 : Int))
 else
  lp5 (r2.snd.fst) (r2.snd.snd.fst) (r2.snd.snd.snd) ([]) ([]) ([]) ((0 : Int)) ((0 : Int)) (r0.fst) (r0.snd.fst) (r0.snd.snd.fst) (r0.snd.snd.snd.fst) (r0.snd.snd.snd.snd) (r1.fst)
noncomputable def xs08.t5 {γ : Type} (ret : ((List (Int × Int)) × (List (Int × Int)) × (List (Int × Int)) × Int × Int × (List Int) × Int × Int) → Option γ) (lp5 : (List Int) → Int → Int → (List (Int × Int)) → (List (Int × Int)) → (List (Int × Int)) → Int → Int → (List (Int × Int)) → (List (Int × Int)) → (List (Int × Int)) → Int → Int → Int → Option γ) (v0 : List Int) (v1 : Int) (v2 : Int) (v3 : List (Int × Int)) (v4 : List (Int × Int)) (v5 : List (Int × Int)) (v6 : Int) (v7 : Int) (v8 : List (Int × Int)) (v9 : List (Int × Int)) (v10 : List (Int × Int)) (v11 : Int) (v12 : Int) (v13 : Int) : Option γ :=
 bif decide (v13 > (0 : Int)) then
  (spec_l1Cur_one_e61 (v0) (v1) (v2) ((3 : Int))).bind fun (r3 : Bool × (List Int) × Int × Int) =>
  bif r3.fst then
   (spec_PopMap (v8) (v9) (v10) (v11) (v12)).bind fun (r4 : (List (Int × Int)) × (List (Int × Int)) × (List (Int × Int)) × Int × Int × Int × Int × Int × Bool) =>
   bif r4.snd.snd.snd.snd.snd.snd.snd.snd then
    lp5 (r3.snd.fst) (r3.snd.snd.fst) (r3.snd.snd.snd) (v3) (v4) (v5) (v6) (v7) (r4.fst) (r4.snd.fst) (r4.snd.snd.fst) (r4.snd.snd.snd.fst) (r4.snd.snd.snd.snd.fst) (IntKind.i64.wrap (v13 - (1 : Int)))
   else
    lp5 (r3.snd.fst) (r3.snd.snd.fst) (r3.snd.snd.snd) (v3) (v4) (v5) (v6) (v7) (v8) (v9) (v10) (v11) (v12) (IntKind.i64.wrap (v13 - (1 : Int)))
  else
   (xs07 (r3.snd.fst) (r3.snd.snd.fst) (r3.snd.snd.snd)).bind fun (r5 : Int × Int × (List Int) × Int × Int) =>
   (spec_PushMap (v8) (v9) (v10) (v11) (v12) (r5.fst) (r5.snd.fst)).bind fun (r6 : (List (Int × Int)) × (List (Int × Int)) × (List (Int × Int)) × Int × Int × Bool) =>
   bif r6.snd.snd.snd.snd.snd then
    lp5 (r5.snd.snd.fst) (r5.snd.snd.snd.fst) (r5.snd.snd.snd.snd) (v3) (v4) (v5) (v6) (v7) (r6.fst) (r6.snd.fst) (r6.snd.snd.fst) (r6.snd.snd.snd.fst) (r6.snd.snd.snd.snd.fst) (IntKind.i64.wrap (v13 - (1 : Int)))
   else
    lp5 (r5.snd.snd.fst) (r5.snd.snd.snd.fst) (r5.snd.snd.snd.snd) (v3) (v4) (v5) (v6) (v7) (v8) (v9) (v10) (v11) (v12) (IntKind.i64.wrap (v13 - (1 : Int)))
 else
  (xs0d (v0) (v1) (v2) ((40 : Int))).bind fun (r7 : Int × (List Int) × Int × Int) =>
  bif r7.fst == (0 : Int) then
   ret (v8, v9, v10, IntKind.i64.wrap (v11 + (1 : Int)), v12, r7.snd.fst, r7.snd.snd.fst, r7.snd.snd.snd)
  else
   bif r7.fst == (1 : Int) then
    bif decide (v8.length + [((1 : Int), (0 : Int))].length ≤ (4294967296 : Nat)) then
     ret (v8 ++ [((1 : Int), (0 : Int))], v9, v10, v11, v12, r7.snd.fst, r7.snd.snd.fst, r7.snd.snd.snd)
    else
     none
   else
    ret (v8, v9, v10, v11, v12, r7.snd.fst, r7.snd.snd.fst, r7.snd.snd.snd)
theorem xs08.k (v0 : List Int) (v1 : Int) (v2 : Int) : topL E (callT E tab) 45 Try.f45 (xs08.c v0 v1 v2) = xs08.t (fun b => some (xs08.mk b)) xs08.q5 v0 v1 v2 := by kernel_rfl
theorem xs08.k5 (v0 : List Int) (v1 : Int) (v2 : Int) (v3 : List (Int × Int)) (v4 : List (Int × Int)) (v5 : List (Int × Int)) (v6 : Int) (v7 : Int) (v8 : List (Int × Int)) (v9 : List (Int × Int)) (v10 : List (Int × Int)) (v11 : Int) (v12 : Int) (v13 : Int) : roundL E (callT E tab) 45 Try.f45 1 [.r, .r, .r, .r, .l, .b] (⟨(.box false), [.d .fro (.sl (.int .u8)) v0, iL v1, .d .fro (.int .u64) v2], true, false, false, 0, 0⟩ :: nn 1 (⟨(.box false), [.d .deep (.sl (.pair (.int .i64) (.int .i64))) v3, .d .deep (.sl (.pair (.int .i64) (.int .i64))) v4, .d .deep (.sl (.pair (.int .i64) (.int .i64))) v5, iL v6, iL v7], false, false, false, 0, 0⟩ :: ⟨(.box false), [.d .deep (.sl (.pair (.int .i64) (.int .i64))) v8, .d .deep (.sl (.pair (.int .i64) (.int .i64))) v9, .d .deep (.sl (.pair (.int .i64) (.int .i64))) v10, iL v11, iL v12], false, false, false, 0, 0⟩ :: vc (iL v13) :: nn 54 ([]))) = xs08.t5 (fun b => some (xs08.mk b)) xs08.q5 v0 v1 v2 v3 v4 v5 v6 v7 v8 v9 v10 v11 v12 v13 := by kernel_rfl
theorem xs08.eq (v0 : List Int) (v1 : Int) (v2 : Int) {b : (List (Int × Int)) × (List (Int × Int)) × (List (Int × Int)) × Int × Int × (List Int) × Int × Int} (h : xs08.t some xs08.l5 v0 v1 v2 = some b) : xs08 v0 v1 v2 = some b := tOf_intro xs08.un (fun _ => by kernel_rfl) (vlim_fn (callT_le E tab) rfl rfl rfl ((xs08.k v0 v1 v2).trans ((by unfold xs08.t; repeat' first | exact Sub.ret | exact Sub.none | exact Sub.loop | apply Sub.cond | (apply Sub.bind; intro _) : Sub xs08.mk _ _) b h)))
theorem xs08.eq5 (v0 : List Int) (v1 : Int) (v2 : Int) (v3 : List (Int × Int)) (v4 : List (Int × Int)) (v5 : List (Int × Int)) (v6 : Int) (v7 : Int) (v8 : List (Int × Int)) (v9 : List (Int × Int)) (v10 : List (Int × Int)) (v11 : Int) (v12 : Int) (v13 : Int) {b : (List (Int × Int)) × (List (Int × Int)) × (List (Int × Int)) × Int × Int × (List Int) × Int × Int} (h : xs08.t5 some xs08.l5 v0 v1 v2 v3 v4 v5 v6 v7 v8 v9 v10 v11 v12 v13 = some b) : xs08.l5 v0 v1 v2 v3 v4 v5 v6 v7 v8 v9 v10 v11 v12 v13 = some b := tOf_intro xs08.un (fun _ => by kernel_rfl) (loopAtL_step ((xs08.k5 v0 v1 v2 v3 v4 v5 v6 v7 v8 v9 v10 v11 v12 v13).trans ((by unfold xs08.t5; repeat' first | exact Sub.ret | exact Sub.none | exact Sub.loop | apply Sub.cond | (apply Sub.bind; intro _) : Sub xs08.mk _ _) b h)))
noncomputable def spec_NewWindow.t {γ : Type} (ret : ((List (Int × Int)) × (List (Int × Int)) × (List (Int × Int)) × Int × Int) → Option γ) : Option γ :=
 (spec_l17One ).bind fun (r0 : Int × Int) =>
 ret ([], [], [], r0.fst, r0.snd)
theorem spec_NewWindow.k : topL E (callT E tab) 59 Try.f59 (spec_NewWindow.c) = spec_NewWindow.t (fun b => some (spec_NewWindow.mk b)) := by kernel_rfl
theorem spec_NewWindow.eq {b : (List (Int × Int)) × (List (Int × Int)) × (List (Int × Int)) × Int × Int} (h : spec_NewWindow.t some = some b) : spec_NewWindow = some b := tOf_intro spec_NewWindow.un (fun _ => by kernel_rfl) (vlim_fn (callT_le E tab) rfl rfl rfl ((spec_NewWindow.k).trans ((by unfold spec_NewWindow.t; repeat' first | exact Sub.ret | exact Sub.none | exact Sub.loop | apply Sub.cond | (apply Sub.bind; intro _) : Sub spec_NewWindow.mk _ _) b h)))
noncomputable def spec_PopMap.q9 (v0 : List (Int × Int)) (v1 : List (Int × Int)) (v2 : List (Int × Int)) (v3 : Int) (v4 : Int) (v5 : List (Int × Int)) (v6 : List (Int × Int)) (v7 : List (Int × Int)) (v8 : Int) (v9 : Int) (v10 : Int) (v11 : Int) (v12 : Int) (v13 : Int) (v14 : Int) (v15 : List (Int × Int)) (v16 : Int) (v17 : Int) : Option R := loopAtL E (callT E tab) 23 Try.f23 1 [.r, .r, .r, .r, .l, .r, .l, .r, .r, .l, .r, .b] (nn 1 (⟨(.box false), [.d .deep (.sl (.pair (.int .i64) (.int .i64))) v0, .d .deep (.sl (.pair (.int .i64) (.int .i64))) v1, .d .deep (.sl (.pair (.int .i64) (.int .i64))) v2, iL v3, iL v4], false, false, false, 0, 0⟩ :: ⟨(.box false), [.d .deep (.sl (.pair (.int .i64) (.int .i64))) v5, .d .deep (.sl (.pair (.int .i64) (.int .i64))) v6, .d .deep (.sl (.pair (.int .i64) (.int .i64))) v7, iL v8, iL v9], false, false, false, 0, 0⟩ :: ⟨(.box false), [iL v10, iL v11], false, false, false, 0, 0⟩ :: nn 2 (vc (iL v12) :: ⟨(.box false), [iL v13, iL v14], false, false, false, 0, 0⟩ :: nn 31 (vc (.d .deep (.sl (.pair (.int .i64) (.int .i64))) v15) :: vc (iL v16) :: vc (iL v17) :: nn 45 ([])))))
noncomputable def spec_PopMap.l9 (v0 : List (Int × Int)) (v1 : List (Int × Int)) (v2 : List (Int × Int)) (v3 : Int) (v4 : Int) (v5 : List (Int × Int)) (v6 : List (Int × Int)) (v7 : List (Int × Int)) (v8 : Int) (v9 : Int) (v10 : Int) (v11 : Int) (v12 : Int) (v13 : Int) (v14 : Int) (v15 : List (Int × Int)) (v16 : Int) (v17 : Int) : Option ((List (Int × Int)) × (List (Int × Int)) × (List (Int × Int)) × Int × Int × Int × Int × Int × Bool) := tOf spec_PopMap.mk (spec_PopMap.q9 v0 v1 v2 v3 v4 v5 v6 v7 v8 v9 v10 v11 v12 v13 v14 v15 v16 v17)
noncomputable def spec_PopMap.t {γ : Type} (ret : ((List (Int × Int)) × (List (Int × Int)) × (List (Int × Int)) × Int × Int × Int × Int × Int × Bool) → Option γ) (lp9 : (List (Int × Int)) → (List (Int × Int)) → (List (Int × Int)) → Int → Int → (List (Int × Int)) → (List (Int × Int)) → (List (Int × Int)) → Int → Int → Int → Int → Int → Int → Int → (List (Int × Int)) → Int → Int → Option γ) (v0 : List (Int × Int)) (v1 : List (Int × Int)) (v2 : List (Int × Int)) (v3 : Int) (v4 : Int) : Option γ :=
 (spec_GoodWindow (v0) (v1) (v2) (v3) (v4)).bind fun (r0 : Bool) =>
 bif !r0 then
  ret ([], [], [], (0 : Int), (0 : Int), (0 : Int), (0 : Int), (0 : Int), Bool.false)
 else
  bif IntKind.i64.wrap ((↑v0.length : Int) + (↑v2.length : Int)) == (0 : Int) then
   ret ([], [], [], (0 : Int), (0 : Int), (0 : Int), (0 : Int), (0 : Int), Bool.false)
  else
   (spec_l17Own (v0) (v1) (v2) (v3) (v4)).bind fun (r1 : (List (Int × Int)) × (List (Int × Int)) × (List (Int × Int)) × Int × Int) =>
   bif (↑r1.fst.length : Int) == (0 : Int) then
    (spec_l17One ).bind fun (r2 : Int × Int) =>
    (spec_l17Turned (r1.snd.snd.fst)).bind fun (r3 : (List (Int × Int))) =>
    lp9 (r1.fst) (r1.snd.fst) (r1.snd.snd.fst) (r1.snd.snd.snd.fst) (r1.snd.snd.snd.snd) ([]) ([]) ([]) ((0 : Int)) ((0 : Int)) ((0 : Int)) ((0 : Int)) ((↑r1.snd.snd.fst.length : Int)) (r2.fst) (r2.snd) (r3) ((↑r3.length : Int)) ((0 : Int))
   else
    bif decide ((0 : Int) ≤ IntKind.i64.wrap ((↑r1.fst.length : Int) - (1 : Int))) then
     bif decide ((IntKind.i64.wrap ((↑r1.fst.length : Int) - (1 : Int))).toNat < r1.fst.length) then
      bif decide ((IntKind.i64.wrap ((↑r1.fst.length : Int) - (1 : Int))).toNat < r1.fst.length) then
       bif decide (Option.none.getD (0 : Int) ≤ IntKind.i64.wrap ((↑r1.fst.length : Int) - (1 : Int))) then
        bif decide (IntKind.i64.wrap ((↑r1.fst.length : Int) - (1 : Int)) ≤ (↑r1.fst.length : Int)) then
         bif decide (Option.none.getD (0 : Int) ≤ IntKind.i64.wrap ((↑r1.fst.length : Int) - (1 : Int))) then
          bif decide (IntKind.i64.wrap ((↑r1.fst.length : Int) - (1 : Int)) ≤ (↑r1.snd.fst.length : Int)) then
           (spec_l17Own (List.take (IntKind.i64.wrap ((↑r1.fst.length : Int) - (1 : Int)) - Option.none.getD (0 : Int)).toNat   (List.drop (Option.none.getD (0 : Int)).toNat r1.fst)) (List.take (IntKind.i64.wrap ((↑r1.fst.length : Int) - (1 : Int)) - Option.none.getD (0 : Int)).toNat   (List.drop (Option.none.getD (0 : Int)).toNat r1.snd.fst)) (r1.snd.snd.fst) (r1.snd.snd.snd.fst) (r1.snd.snd.snd.snd)).bind fun (r7 : (List (Int × Int)) × (List (Int × Int)) × (List (Int × Int)) × Int × Int) =>
           ret (r7.fst, r7.snd.fst, r7.snd.snd.fst, r7.snd.snd.snd.fst, r7.snd.snd.snd.snd, (r1.fst.getD (IntKind.i64.wrap ((↑r1.fst.length : Int) - (1 : Int))).toNat ((0 : Int), (0 : Int))).fst, (r1.fst.getD (IntKind.i64.wrap ((↑r1.fst.length : Int) - (1 : Int))).toNat ((0 : Int), (0 : Int))).snd, (0 : Int), Bool.true)
          else
           none
         else
          none
        else
         none
       else
        none
      else
       none
     else
      none
    else
     none
noncomputable def spec_PopMap.t9 {γ : Type} (ret : ((List (Int × Int)) × (List (Int × Int)) × (List (Int × Int)) × Int × Int × Int × Int × Int × Bool) → Option γ) (lp9 : (List (Int × Int)) → (List (Int × Int)) → (List (Int × Int)) → Int → Int → (List (Int × Int)) → (List (Int × Int)) → (List (Int × Int)) → Int → Int → Int → Int → Int → Int → Int → (List (Int × Int)) → Int → Int → Option γ) (v0 : List (Int × Int)) (v1 : List (Int × Int)) (v2 : List (Int × Int)) (v3 : Int) (v4 : Int) (v5 : List (Int × Int)) (v6 : List (Int × Int)) (v7 : List (Int × Int)) (v8 : Int) (v9 : Int) (v10 : Int) (v11 : Int) (v12 : Int) (v13 : Int) (v14 : Int) (v15 : List (Int × Int)) (v16 : Int) (v17 : Int) : Option γ :=
 bif decide (v17 < v16) then
  bif decide ((0 : Int) ≤ v17) then
   bif decide (v17.toNat < v15.length) then
    bif decide (v17.toNat < v15.length) then
     (spec_l17Then ((v15.getD v17.toNat ((0 : Int), (0 : Int))).fst) ((v15.getD v17.toNat ((0 : Int), (0 : Int))).snd) (v13) (v14)).bind fun (r4 : Int × Int) =>
     bif decide   (v0.length +       [((v15.getD v17.toNat ((0 : Int), (0 : Int))).fst, (v15.getD v17.toNat ((0 : Int), (0 : Int))).snd)].length ≤     (4294967296 : Nat)) then
      bif decide (v1.length + [(r4.fst, r4.snd)].length ≤ (4294967296 : Nat)) then
       lp9 (v0 ++ [((v15.getD v17.toNat ((0 : Int), (0 : Int))).fst, (v15.getD v17.toNat ((0 : Int), (0 : Int))).snd)]) (v1 ++ [(r4.fst, r4.snd)]) (v2) (v3) (v4) (v5) (v6) (v7) (v8) (v9) (v10) (v11) (v12) (r4.fst) (r4.snd) (v15) (v16) (IntKind.i64.wrap (v17 + (1 : Int)))
      else
       none
     else
      none
    else
     none
   else
    none
  else
   none
 else
  (spec_l17One ).bind fun (r5 : Int × Int) =>
  bif decide ((0 : Int) ≤ IntKind.i64.wrap ((↑v0.length : Int) - (1 : Int))) then
   bif decide ((IntKind.i64.wrap ((↑v0.length : Int) - (1 : Int))).toNat < v0.length) then
    bif decide ((IntKind.i64.wrap ((↑v0.length : Int) - (1 : Int))).toNat < v0.length) then
     bif decide (Option.none.getD (0 : Int) ≤ IntKind.i64.wrap ((↑v0.length : Int) - (1 : Int))) then
      bif decide (IntKind.i64.wrap ((↑v0.length : Int) - (1 : Int)) ≤ (↑v0.length : Int)) then
       bif decide (Option.none.getD (0 : Int) ≤ IntKind.i64.wrap ((↑v0.length : Int) - (1 : Int))) then
        bif decide (IntKind.i64.wrap ((↑v0.length : Int) - (1 : Int)) ≤ (↑v1.length : Int)) then
         (spec_l17Own (List.take (IntKind.i64.wrap ((↑v0.length : Int) - (1 : Int)) - Option.none.getD (0 : Int)).toNat   (List.drop (Option.none.getD (0 : Int)).toNat v0)) (List.take (IntKind.i64.wrap ((↑v0.length : Int) - (1 : Int)) - Option.none.getD (0 : Int)).toNat   (List.drop (Option.none.getD (0 : Int)).toNat v1)) ([]) (r5.fst) (r5.snd)).bind fun (r6 : (List (Int × Int)) × (List (Int × Int)) × (List (Int × Int)) × Int × Int) =>
         ret (r6.fst, r6.snd.fst, r6.snd.snd.fst, r6.snd.snd.snd.fst, r6.snd.snd.snd.snd, (v0.getD (IntKind.i64.wrap ((↑v0.length : Int) - (1 : Int))).toNat ((0 : Int), (0 : Int))).fst, (v0.getD (IntKind.i64.wrap ((↑v0.length : Int) - (1 : Int))).toNat ((0 : Int), (0 : Int))).snd, v12, Bool.true)
        else
         none
       else
        none
      else
       none
     else
      none
    else
     none
   else
    none
  else
   none
theorem spec_PopMap.k (v0 : List (Int × Int)) (v1 : List (Int × Int)) (v2 : List (Int × Int)) (v3 : Int) (v4 : Int) : topL E (callT E tab) 23 Try.f23 (spec_PopMap.c v0 v1 v2 v3 v4) = spec_PopMap.t (fun b => some (spec_PopMap.mk b)) spec_PopMap.q9 v0 v1 v2 v3 v4 := by kernel_rfl
theorem spec_PopMap.k9 (v0 : List (Int × Int)) (v1 : List (Int × Int)) (v2 : List (Int × Int)) (v3 : Int) (v4 : Int) (v5 : List (Int × Int)) (v6 : List (Int × Int)) (v7 : List (Int × Int)) (v8 : Int) (v9 : Int) (v10 : Int) (v11 : Int) (v12 : Int) (v13 : Int) (v14 : Int) (v15 : List (Int × Int)) (v16 : Int) (v17 : Int) : roundL E (callT E tab) 23 Try.f23 1 [.r, .r, .r, .r, .l, .r, .l, .r, .r, .l, .r, .b] (nn 1 (⟨(.box false), [.d .deep (.sl (.pair (.int .i64) (.int .i64))) v0, .d .deep (.sl (.pair (.int .i64) (.int .i64))) v1, .d .deep (.sl (.pair (.int .i64) (.int .i64))) v2, iL v3, iL v4], false, false, false, 0, 0⟩ :: ⟨(.box false), [.d .deep (.sl (.pair (.int .i64) (.int .i64))) v5, .d .deep (.sl (.pair (.int .i64) (.int .i64))) v6, .d .deep (.sl (.pair (.int .i64) (.int .i64))) v7, iL v8, iL v9], false, false, false, 0, 0⟩ :: ⟨(.box false), [iL v10, iL v11], false, false, false, 0, 0⟩ :: nn 2 (vc (iL v12) :: ⟨(.box false), [iL v13, iL v14], false, false, false, 0, 0⟩ :: nn 31 (vc (.d .deep (.sl (.pair (.int .i64) (.int .i64))) v15) :: vc (iL v16) :: vc (iL v17) :: nn 45 ([]))))) = spec_PopMap.t9 (fun b => some (spec_PopMap.mk b)) spec_PopMap.q9 v0 v1 v2 v3 v4 v5 v6 v7 v8 v9 v10 v11 v12 v13 v14 v15 v16 v17 := by kernel_rfl
theorem spec_PopMap.eq (v0 : List (Int × Int)) (v1 : List (Int × Int)) (v2 : List (Int × Int)) (v3 : Int) (v4 : Int) {b : (List (Int × Int)) × (List (Int × Int)) × (List (Int × Int)) × Int × Int × Int × Int × Int × Bool} (h : spec_PopMap.t some spec_PopMap.l9 v0 v1 v2 v3 v4 = some b) : spec_PopMap v0 v1 v2 v3 v4 = some b := tOf_intro spec_PopMap.un (fun _ => by kernel_rfl) (vlim_fn (callT_le E tab) rfl rfl rfl ((spec_PopMap.k v0 v1 v2 v3 v4).trans ((by unfold spec_PopMap.t; repeat' first | exact Sub.ret | exact Sub.none | exact Sub.loop | apply Sub.cond | (apply Sub.bind; intro _) : Sub spec_PopMap.mk _ _) b h)))
theorem spec_PopMap.eq9 (v0 : List (Int × Int)) (v1 : List (Int × Int)) (v2 : List (Int × Int)) (v3 : Int) (v4 : Int) (v5 : List (Int × Int)) (v6 : List (Int × Int)) (v7 : List (Int × Int)) (v8 : Int) (v9 : Int) (v10 : Int) (v11 : Int) (v12 : Int) (v13 : Int) (v14 : Int) (v15 : List (Int × Int)) (v16 : Int) (v17 : Int) {b : (List (Int × Int)) × (List (Int × Int)) × (List (Int × Int)) × Int × Int × Int × Int × Int × Bool} (h : spec_PopMap.t9 some spec_PopMap.l9 v0 v1 v2 v3 v4 v5 v6 v7 v8 v9 v10 v11 v12 v13 v14 v15 v16 v17 = some b) : spec_PopMap.l9 v0 v1 v2 v3 v4 v5 v6 v7 v8 v9 v10 v11 v12 v13 v14 v15 v16 v17 = some b := tOf_intro spec_PopMap.un (fun _ => by kernel_rfl) (loopAtL_step ((spec_PopMap.k9 v0 v1 v2 v3 v4 v5 v6 v7 v8 v9 v10 v11 v12 v13 v14 v15 v16 v17).trans ((by unfold spec_PopMap.t9; repeat' first | exact Sub.ret | exact Sub.none | exact Sub.loop | apply Sub.cond | (apply Sub.bind; intro _) : Sub spec_PopMap.mk _ _) b h)))
end GoV

/- Equations of the program's functions (printed by wip/tools/emit.py). -/
namespace GoV
open Go Go.Proofs
set_option maxRecDepth 100000

noncomputable def spec_GoodWindow.q10 (v0 : List (Int × Int)) (v1 : List (Int × Int)) (v2 : List (Int × Int)) (v3 : Int) (v4 : Int) (v5 : List (Int × Int)) (v6 : Int) (v7 : Int) : Option R := loopAtL E (callT E tab) 46 Try.f46 1 [.r, .r, .r, .l, .r, .b] (nn 1 (⟨(.box false), [.d .fro (.sl (.pair (.int .i64) (.int .i64))) v0, .d .fro (.sl (.pair (.int .i64) (.int .i64))) v1, .d .fro (.sl (.pair (.int .i64) (.int .i64))) v2, iL v3, iL v4], false, false, false, 0, 0⟩ :: nn 50 (vc (.d .fro (.sl (.pair (.int .i64) (.int .i64))) v5) :: vc (iL v6) :: vc (iL v7) :: nn 13 ([]))))
noncomputable def spec_GoodWindow.l10 (v0 : List (Int × Int)) (v1 : List (Int × Int)) (v2 : List (Int × Int)) (v3 : Int) (v4 : Int) (v5 : List (Int × Int)) (v6 : Int) (v7 : Int) : Option (Bool) := tOf spec_GoodWindow.mk (spec_GoodWindow.q10 v0 v1 v2 v3 v4 v5 v6 v7)
noncomputable def spec_GoodWindow.q4 (v0 : List (Int × Int)) (v1 : List (Int × Int)) (v2 : List (Int × Int)) (v3 : Int) (v4 : Int) (v5 : List (Int × Int)) (v6 : Int) (v7 : Int) : Option R := loopAtL E (callT E tab) 46 Try.f46 1 [.r, .r, .l, .r, .b] (nn 1 (⟨(.box false), [.d .fro (.sl (.pair (.int .i64) (.int .i64))) v0, .d .fro (.sl (.pair (.int .i64) (.int .i64))) v1, .d .fro (.sl (.pair (.int .i64) (.int .i64))) v2, iL v3, iL v4], false, false, false, 0, 0⟩ :: nn 23 (vc (.d .fro (.sl (.pair (.int .i64) (.int .i64))) v5) :: vc (iL v6) :: vc (iL v7) :: nn 40 ([]))))
noncomputable def spec_GoodWindow.l4 (v0 : List (Int × Int)) (v1 : List (Int × Int)) (v2 : List (Int × Int)) (v3 : Int) (v4 : Int) (v5 : List (Int × Int)) (v6 : Int) (v7 : Int) : Option (Bool) := tOf spec_GoodWindow.mk (spec_GoodWindow.q4 v0 v1 v2 v3 v4 v5 v6 v7)
noncomputable def spec_GoodWindow.t {γ : Type} (ret : (Bool) → Option γ) (lp10 : (List (Int × Int)) → (List (Int × Int)) → (List (Int × Int)) → Int → Int → (List (Int × Int)) → Int → Int → Option γ) (lp4 : (List (Int × Int)) → (List (Int × Int)) → (List (Int × Int)) → Int → Int → (List (Int × Int)) → Int → Int → Option γ) (v0 : List (Int × Int)) (v1 : List (Int × Int)) (v2 : List (Int × Int)) (v3 : Int) (v4 : Int) : Option γ :=
 bif (↑v1.length : Int) != (↑v0.length : Int) then
  ret (Bool.false)
 else
  bif decide (IntKind.i64.wrap ((↑v0.length : Int) + (↑v2.length : Int)) > (60 : Int)) then
   ret (Bool.false)
  else
   lp4 (v0) (v1) (v2) (v3) (v4) (v0) ((↑v0.length : Int)) ((0 : Int))
noncomputable def spec_GoodWindow.t10 {γ : Type} (ret : (Bool) → Option γ) (lp10 : (List (Int × Int)) → (List (Int × Int)) → (List (Int × Int)) → Int → Int → (List (Int × Int)) → Int → Int → Option γ) (lp4 : (List (Int × Int)) → (List (Int × Int)) → (List (Int × Int)) → Int → Int → (List (Int × Int)) → Int → Int → Option γ) (v0 : List (Int × Int)) (v1 : List (Int × Int)) (v2 : List (Int × Int)) (v3 : Int) (v4 : Int) (v5 : List (Int × Int)) (v6 : Int) (v7 : Int) : Option γ :=
 bif decide (v7 < v6) then
  bif decide ((0 : Int) ≤ v7) then
   bif decide (v7.toNat < v5.length) then
    (spec_GoodMap ((v5.getD v7.toNat ((0 : Int), (0 : Int))).fst) ((v5.getD v7.toNat ((0 : Int), (0 : Int))).snd)).bind fun (r3 : Bool) =>
    bif !r3 then
     ret (Bool.false)
    else
     lp10 (v0) (v1) (v2) (v3) (v4) (v5) (v6) (IntKind.i64.wrap (v7 + (1 : Int)))
   else
    none
  else
   none
 else
  (spec_l17All (v2)).bind fun (r4 : Int × Int) =>
  ret (decide (v3 = r4.fst) && (decide (v4 = r4.snd) && Bool.true))
noncomputable def spec_GoodWindow.t4 {γ : Type} (ret : (Bool) → Option γ) (lp10 : (List (Int × Int)) → (List (Int × Int)) → (List (Int × Int)) → Int → Int → (List (Int × Int)) → Int → Int → Option γ) (lp4 : (List (Int × Int)) → (List (Int × Int)) → (List (Int × Int)) → Int → Int → (List (Int × Int)) → Int → Int → Option γ) (v0 : List (Int × Int)) (v1 : List (Int × Int)) (v2 : List (Int × Int)) (v3 : Int) (v4 : Int) (v5 : List (Int × Int)) (v6 : Int) (v7 : Int) : Option γ :=
 bif decide (v7 < v6) then
  bif decide ((0 : Int) ≤ v7) then
   bif decide (v7.toNat < v5.length) then
    (spec_GoodMap ((v5.getD v7.toNat ((0 : Int), (0 : Int))).fst) ((v5.getD v7.toNat ((0 : Int), (0 : Int))).snd)).bind fun (r0 : Bool) =>
    bif !r0 then
     ret (Bool.false)
    else
     bif decide ((0 : Int) ≤ v7) then
      bif decide (v7.toNat < v1.length) then
       bif decide (Option.none.getD (0 : Int) ≤ IntKind.i64.wrap (v7 + (1 : Int))) then
        bif decide (IntKind.i64.wrap (v7 + (1 : Int)) ≤ (↑v0.length : Int)) then
         (spec_l17Turned (List.take (IntKind.i64.wrap (v7 + (1 : Int)) - Option.none.getD (0 : Int)).toNat   (List.drop (Option.none.getD (0 : Int)).toNat v0))).bind fun (r1 : (List (Int × Int))) =>
         (spec_l17All (r1)).bind fun (r2 : Int × Int) =>
         bif !(decide ((v1.getD v7.toNat ((0 : Int), (0 : Int))).fst = r2.fst) &&     (decide ((v1.getD v7.toNat ((0 : Int), (0 : Int))).snd = r2.snd) && Bool.true)) then
          ret (Bool.false)
         else
          lp4 (v0) (v1) (v2) (v3) (v4) (v5) (v6) (IntKind.i64.wrap (v7 + (1 : Int)))
        else
         none
       else
        none
      else
       none
     else
      none
   else
    none
  else
   none
 else
  lp10 (v0) (v1) (v2) (v3) (v4) (v2) ((↑v2.length : Int)) ((0 : Int))
theorem spec_GoodWindow.k (v0 : List (Int × Int)) (v1 : List (Int × Int)) (v2 : List (Int × Int)) (v3 : Int) (v4 : Int) : topL E (callT E tab) 46 Try.f46 (spec_GoodWindow.c v0 v1 v2 v3 v4) = spec_GoodWindow.t (fun b => some (spec_GoodWindow.mk b)) spec_GoodWindow.q10 spec_GoodWindow.q4 v0 v1 v2 v3 v4 := by kernel_rfl
theorem spec_GoodWindow.k10 (v0 : List (Int × Int)) (v1 : List (Int × Int)) (v2 : List (Int × Int)) (v3 : Int) (v4 : Int) (v5 : List (Int × Int)) (v6 : Int) (v7 : Int) : roundL E (callT E tab) 46 Try.f46 1 [.r, .r, .r, .l, .r, .b] (nn 1 (⟨(.box false), [.d .fro (.sl (.pair (.int .i64) (.int .i64))) v0, .d .fro (.sl (.pair (.int .i64) (.int .i64))) v1, .d .fro (.sl (.pair (.int .i64) (.int .i64))) v2, iL v3, iL v4], false, false, false, 0, 0⟩ :: nn 50 (vc (.d .fro (.sl (.pair (.int .i64) (.int .i64))) v5) :: vc (iL v6) :: vc (iL v7) :: nn 13 ([])))) = spec_GoodWindow.t10 (fun b => some (spec_GoodWindow.mk b)) spec_GoodWindow.q10 spec_GoodWindow.q4 v0 v1 v2 v3 v4 v5 v6 v7 := by kernel_rfl
theorem spec_GoodWindow.k4 (v0 : List (Int × Int)) (v1 : List (Int × Int)) (v2 : List (Int × Int)) (v3 : Int) (v4 : Int) (v5 : List (Int × Int)) (v6 : Int) (v7 : Int) : roundL E (callT E tab) 46 Try.f46 1 [.r, .r, .l, .r, .b] (nn 1 (⟨(.box false), [.d .fro (.sl (.pair (.int .i64) (.int .i64))) v0, .d .fro (.sl (.pair (.int .i64) (.int .i64))) v1, .d .fro (.sl (.pair (.int .i64) (.int .i64))) v2, iL v3, iL v4], false, false, false, 0, 0⟩ :: nn 23 (vc (.d .fro (.sl (.pair (.int .i64) (.int .i64))) v5) :: vc (iL v6) :: vc (iL v7) :: nn 40 ([])))) = spec_GoodWindow.t4 (fun b => some (spec_GoodWindow.mk b)) spec_GoodWindow.q10 spec_GoodWindow.q4 v0 v1 v2 v3 v4 v5 v6 v7 := by kernel_rfl
theorem spec_GoodWindow.eq (v0 : List (Int × Int)) (v1 : List (Int × Int)) (v2 : List (Int × Int)) (v3 : Int) (v4 : Int) {b : Bool} (h : spec_GoodWindow.t some spec_GoodWindow.l10 spec_GoodWindow.l4 v0 v1 v2 v3 v4 = some b) : spec_GoodWindow v0 v1 v2 v3 v4 = some b := tOf_intro spec_GoodWindow.un (fun _ => by kernel_rfl) (vlim_fn (callT_le E tab) rfl rfl rfl ((spec_GoodWindow.k v0 v1 v2 v3 v4).trans ((by unfold spec_GoodWindow.t; repeat' first | exact Sub.ret | exact Sub.none | exact Sub.loop | apply Sub.cond | (apply Sub.bind; intro _) : Sub spec_GoodWindow.mk _ _) b h)))
theorem spec_GoodWindow.eq10 (v0 : List (Int × Int)) (v1 : List (Int × Int)) (v2 : List (Int × Int)) (v3 : Int) (v4 : Int) (v5 : List (Int × Int)) (v6 : Int) (v7 : Int) {b : Bool} (h : spec_GoodWindow.t10 some spec_GoodWindow.l10 spec_GoodWindow.l4 v0 v1 v2 v3 v4 v5 v6 v7 = some b) : spec_GoodWindow.l10 v0 v1 v2 v3 v4 v5 v6 v7 = some b := tOf_intro spec_GoodWindow.un (fun _ => by kernel_rfl) (loopAtL_step ((spec_GoodWindow.k10 v0 v1 v2 v3 v4 v5 v6 v7).trans ((by unfold spec_GoodWindow.t10; repeat' first | exact Sub.ret | exact Sub.none | exact Sub.loop | apply Sub.cond | (apply Sub.bind; intro _) : Sub spec_GoodWindow.mk _ _) b h)))
theorem spec_GoodWindow.eq4 (v0 : List (Int × Int)) (v1 : List (Int × Int)) (v2 : List (Int × Int)) (v3 : Int) (v4 : Int) (v5 : List (Int × Int)) (v6 : Int) (v7 : Int) {b : Bool} (h : spec_GoodWindow.t4 some spec_GoodWindow.l10 spec_GoodWindow.l4 v0 v1 v2 v3 v4 v5 v6 v7 = some b) : spec_GoodWindow.l4 v0 v1 v2 v3 v4 v5 v6 v7 = some b := tOf_intro spec_GoodWindow.un (fun _ => by kernel_rfl) (loopAtL_step ((spec_GoodWindow.k4 v0 v1 v2 v3 v4 v5 v6 v7).trans ((by unfold spec_GoodWindow.t4; repeat' first | exact Sub.ret | exact Sub.none | exact Sub.loop | apply Sub.cond | (apply Sub.bind; intro _) : Sub spec_GoodWindow.mk _ _) b h)))
noncomputable def spec_l17Turned.q3 (v0 : List (Int × Int)) (v1 : List (Int × Int)) (v2 : Int) : Option R := loopAtL E (callT E tab) 49 Try.f49 1 [.r, .r, .l, .r, .b] (vc (.d .fro (.sl (.pair (.int .i64) (.int .i64))) v0) :: nn 2 (vc (.d .deep (.sl (.pair (.int .i64) (.int .i64))) v1) :: vc (iL v2) :: nn 15 ([])))
noncomputable def spec_l17Turned.l3 (v0 : List (Int × Int)) (v1 : List (Int × Int)) (v2 : Int) : Option ((List (Int × Int))) := tOf spec_l17Turned.mk (spec_l17Turned.q3 v0 v1 v2)
noncomputable def spec_l17Turned.t {γ : Type} (ret : ((List (Int × Int))) → Option γ) (lp3 : (List (Int × Int)) → (List (Int × Int)) → Int → Option γ) (v0 : List (Int × Int)) : Option γ :=
 lp3 (v0) ([]) (IntKind.i64.wrap ((↑v0.length : Int) - (1 : Int)))
noncomputable def spec_l17Turned.t3 {γ : Type} (ret : ((List (Int × Int))) → Option γ) (lp3 : (List (Int × Int)) → (List (Int × Int)) → Int → Option γ) (v0 : List (Int × Int)) (v1 : List (Int × Int)) (v2 : Int) : Option γ :=
 bif decide (v2 ≥ (0 : Int)) then
  bif decide ((0 : Int) ≤ v2) then
   bif decide (v2.toNat < v0.length) then
    bif decide   (v1.length + [((v0.getD v2.toNat ((0 : Int), (0 : Int))).fst, (v0.getD v2.toNat ((0 : Int), (0 : Int))).snd)].length ≤     (4294967296 : Nat)) then
     lp3 (v0) (v1 ++ [((v0.getD v2.toNat ((0 : Int), (0 : Int))).fst, (v0.getD v2.toNat ((0 : Int), (0 : Int))).snd)]) (IntKind.i64.wrap (v2 - (1 : Int)))
    else
     none
   else
    none
  else
   none
 else
  ret (v1)
theorem spec_l17Turned.k (v0 : List (Int × Int)) : topL E (callT E tab) 49 Try.f49 (spec_l17Turned.c v0) = spec_l17Turned.t (fun b => some (spec_l17Turned.mk b)) spec_l17Turned.q3 v0 := by kernel_rfl
theorem spec_l17Turned.k3 (v0 : List (Int × Int)) (v1 : List (Int × Int)) (v2 : Int) : roundL E (callT E tab) 49 Try.f49 1 [.r, .r, .l, .r, .b] (vc (.d .fro (.sl (.pair (.int .i64) (.int .i64))) v0) :: nn 2 (vc (.d .deep (.sl (.pair (.int .i64) (.int .i64))) v1) :: vc (iL v2) :: nn 15 ([]))) = spec_l17Turned.t3 (fun b => some (spec_l17Turned.mk b)) spec_l17Turned.q3 v0 v1 v2 := by kernel_rfl
theorem spec_l17Turned.eq (v0 : List (Int × Int)) {b : (List (Int × Int))} (h : spec_l17Turned.t some spec_l17Turned.l3 v0 = some b) : spec_l17Turned v0 = some b := tOf_intro spec_l17Turned.un (fun _ => by kernel_rfl) (vlim_fn (callT_le E tab) rfl rfl rfl ((spec_l17Turned.k v0).trans ((by unfold spec_l17Turned.t; repeat' first | exact Sub.ret | exact Sub.none | exact Sub.loop | apply Sub.cond | (apply Sub.bind; intro _) : Sub spec_l17Turned.mk _ _) b h)))
theorem spec_l17Turned.eq3 (v0 : List (Int × Int)) (v1 : List (Int × Int)) (v2 : Int) {b : (List (Int × Int))} (h : spec_l17Turned.t3 some spec_l17Turned.l3 v0 v1 v2 = some b) : spec_l17Turned.l3 v0 v1 v2 = some b := tOf_intro spec_l17Turned.un (fun _ => by kernel_rfl) (loopAtL_step ((spec_l17Turned.k3 v0 v1 v2).trans ((by unfold spec_l17Turned.t3; repeat' first | exact Sub.ret | exact Sub.none | exact Sub.loop | apply Sub.cond | (apply Sub.bind; intro _) : Sub spec_l17Turned.mk _ _) b h)))
noncomputable def spec_l17Own.t {γ : Type} (ret : ((List (Int × Int)) × (List (Int × Int)) × (List (Int × Int)) × Int × Int) → Option γ) (v0 : List (Int × Int)) (v1 : List (Int × Int)) (v2 : List (Int × Int)) (v3 : Int) (v4 : Int) : Option γ :=
 bif decide (([] : List Int).length + v0.length ≤ (4294967296 : Nat)) then
  bif decide (([] : List Int).length + v1.length ≤ (4294967296 : Nat)) then
   bif decide (([] : List Int).length + v2.length ≤ (4294967296 : Nat)) then
    ret ([] ++ v0, [] ++ v1, [] ++ v2, v3, v4)
   else
    none
  else
   none
 else
  none
theorem spec_l17Own.k (v0 : List (Int × Int)) (v1 : List (Int × Int)) (v2 : List (Int × Int)) (v3 : Int) (v4 : Int) : topL E (callT E tab) 47 Try.f47 (spec_l17Own.c v0 v1 v2 v3 v4) = spec_l17Own.t (fun b => some (spec_l17Own.mk b)) v0 v1 v2 v3 v4 := by kernel_rfl
theorem spec_l17Own.eq (v0 : List (Int × Int)) (v1 : List (Int × Int)) (v2 : List (Int × Int)) (v3 : Int) (v4 : Int) {b : (List (Int × Int)) × (List (Int × Int)) × (List (Int × Int)) × Int × Int} (h : spec_l17Own.t some v0 v1 v2 v3 v4 = some b) : spec_l17Own v0 v1 v2 v3 v4 = some b := tOf_intro spec_l17Own.un (fun _ => by kernel_rfl) (vlim_fn (callT_le E tab) rfl rfl rfl ((spec_l17Own.k v0 v1 v2 v3 v4).trans ((by unfold spec_l17Own.t; repeat' first | exact Sub.ret | exact Sub.none | exact Sub.loop | apply Sub.cond | (apply Sub.bind; intro _) : Sub spec_l17Own.mk _ _) b h)))
noncomputable def spec_PushMap.t {γ : Type} (ret : ((List (Int × Int)) × (List (Int × Int)) × (List (Int × Int)) × Int × Int × Bool) → Option γ) (v0 : List (Int × Int)) (v1 : List (Int × Int)) (v2 : List (Int × Int)) (v3 : Int) (v4 : Int) (v5 : Int) (v6 : Int) : Option γ :=
 (spec_GoodWindow (v0) (v1) (v2) (v3) (v4)).bind fun (r0 : Bool) =>
 bif !r0 then
  ret ([], [], [], (0 : Int), (0 : Int), Bool.false)
 else
  (spec_GoodMap (v5) (v6)).bind fun (r1 : Bool) =>
  bif !r1 then
   ret ([], [], [], (0 : Int), (0 : Int), Bool.false)
  else
   bif IntKind.i64.wrap ((↑v0.length : Int) + (↑v2.length : Int)) == (60 : Int) then
    ret ([], [], [], (0 : Int), (0 : Int), Bool.false)
   else
    (spec_l17Own (v0) (v1) (v2) (v3) (v4)).bind fun (r2 : (List (Int × Int)) × (List (Int × Int)) × (List (Int × Int)) × Int × Int) =>
    bif decide (r2.snd.snd.fst.length + [(v5, v6)].length ≤ (4294967296 : Nat)) then
     (spec_l17Then (r2.snd.snd.snd.fst) (r2.snd.snd.snd.snd) (v5) (v6)).bind fun (r3 : Int × Int) =>
     ret (r2.fst, r2.snd.fst, r2.snd.snd.fst ++ [(v5, v6)], r3.fst, r3.snd, Bool.true)
    else
     none
theorem spec_PushMap.k (v0 : List (Int × Int)) (v1 : List (Int × Int)) (v2 : List (Int × Int)) (v3 : Int) (v4 : Int) (v5 : Int) (v6 : Int) : topL E (callT E tab) 22 Try.f22 (spec_PushMap.c v0 v1 v2 v3 v4 v5 v6) = spec_PushMap.t (fun b => some (spec_PushMap.mk b)) v0 v1 v2 v3 v4 v5 v6 := by kernel_rfl
theorem spec_PushMap.eq (v0 : List (Int × Int)) (v1 : List (Int × Int)) (v2 : List (Int × Int)) (v3 : Int) (v4 : Int) (v5 : Int) (v6 : Int) {b : (List (Int × Int)) × (List (Int × Int)) × (List (Int × Int)) × Int × Int × Bool} (h : spec_PushMap.t some v0 v1 v2 v3 v4 v5 v6 = some b) : spec_PushMap v0 v1 v2 v3 v4 v5 v6 = some b := tOf_intro spec_PushMap.un (fun _ => by kernel_rfl) (vlim_fn (callT_le E tab) rfl rfl rfl ((spec_PushMap.k v0 v1 v2 v3 v4 v5 v6).trans ((by unfold spec_PushMap.t; repeat' first | exact Sub.ret | exact Sub.none | exact Sub.loop | apply Sub.cond | (apply Sub.bind; intro _) : Sub spec_PushMap.mk _ _) b h)))
noncomputable def impl_ItemsIn.t {γ : Type} (ret : ((List (Int × Int)) × Bool) → Option γ) (v0 : List (Int × Int)) (v1 : List (Int × Int)) (v2 : List (Int × Int)) (v3 : Int) (v4 : Int) : Option γ :=
 (impl_GoodWindow (v0) (v1) (v2) (v3) (v4)).bind fun (r0 : Bool) =>
 bif !r0 then
  ret ([], Bool.false)
 else
  (xs05 (v0)).bind fun (r1 : (List (Int × Int))) =>
  (xs02 (r1)).bind fun (r2 : (List (Int × Int))) =>
  bif decide (r2.length + v2.length ≤ (4294967296 : Nat)) then
   ret (r2 ++ v2, Bool.true)
  else
   none
theorem impl_ItemsIn.k (v0 : List (Int × Int)) (v1 : List (Int × Int)) (v2 : List (Int × Int)) (v3 : Int) (v4 : Int) : topL E (callT E tab) 24 Try.f24 (impl_ItemsIn.c v0 v1 v2 v3 v4) = impl_ItemsIn.t (fun b => some (impl_ItemsIn.mk b)) v0 v1 v2 v3 v4 := by kernel_rfl
theorem impl_ItemsIn.eq (v0 : List (Int × Int)) (v1 : List (Int × Int)) (v2 : List (Int × Int)) (v3 : Int) (v4 : Int) {b : (List (Int × Int)) × Bool} (h : impl_ItemsIn.t some v0 v1 v2 v3 v4 = some b) : impl_ItemsIn v0 v1 v2 v3 v4 = some b := tOf_intro impl_ItemsIn.un (fun _ => by kernel_rfl) (vlim_fn (callT_le E tab) rfl rfl rfl ((impl_ItemsIn.k v0 v1 v2 v3 v4).trans ((by unfold impl_ItemsIn.t; repeat' first | exact Sub.ret | exact Sub.none | exact Sub.loop | apply Sub.cond | (apply Sub.bind; intro _) : Sub impl_ItemsIn.mk _ _) b h)))
noncomputable def spec_ItemsIn.t {γ : Type} (ret : ((List (Int × Int)) × Bool) → Option γ) (v0 : List (Int × Int)) (v1 : List (Int × Int)) (v2 : List (Int × Int)) (v3 : Int) (v4 : Int) : Option γ :=
 (spec_GoodWindow (v0) (v1) (v2) (v3) (v4)).bind fun (r0 : Bool) =>
 bif !r0 then
  ret ([], Bool.false)
 else
  (spec_l17Items (v0) (v1) (v2) (v3) (v4)).bind fun (r1 : (List (Int × Int))) =>
  ret (r1, Bool.true)
theorem spec_ItemsIn.k (v0 : List (Int × Int)) (v1 : List (Int × Int)) (v2 : List (Int × Int)) (v3 : Int) (v4 : Int) : topL E (callT E tab) 25 Try.f25 (spec_ItemsIn.c v0 v1 v2 v3 v4) = spec_ItemsIn.t (fun b => some (spec_ItemsIn.mk b)) v0 v1 v2 v3 v4 := by kernel_rfl
theorem spec_ItemsIn.eq (v0 : List (Int × Int)) (v1 : List (Int × Int)) (v2 : List (Int × Int)) (v3 : Int) (v4 : Int) {b : (List (Int × Int)) × Bool} (h : spec_ItemsIn.t some v0 v1 v2 v3 v4 = some b) : spec_ItemsIn v0 v1 v2 v3 v4 = some b := tOf_intro spec_ItemsIn.un (fun _ => by kernel_rfl) (vlim_fn (callT_le E tab) rfl rfl rfl ((spec_ItemsIn.k v0 v1 v2 v3 v4).trans ((by unfold spec_ItemsIn.t; repeat' first | exact Sub.ret | exact Sub.none | exact Sub.loop | apply Sub.cond | (apply Sub.bind; intro _) : Sub spec_ItemsIn.mk _ _) b h)))
noncomputable def spec_l17Items.t {γ : Type} (ret : ((List (Int × Int))) → Option γ) (v0 : List (Int × Int)) (v1 : List (Int × Int)) (v2 : List (Int × Int)) (v3 : Int) (v4 : Int) : Option γ :=
 (spec_l17Turned (v0)).bind fun (r0 : (List (Int × Int))) =>
 bif decide (r0.length + v2.length ≤ (4294967296 : Nat)) then
  ret (r0 ++ v2)
 else
  none
theorem spec_l17Items.k (v0 : List (Int × Int)) (v1 : List (Int × Int)) (v2 : List (Int × Int)) (v3 : Int) (v4 : Int) : topL E (callT E tab) 52 Try.f52 (spec_l17Items.c v0 v1 v2 v3 v4) = spec_l17Items.t (fun b => some (spec_l17Items.mk b)) v0 v1 v2 v3 v4 := by kernel_rfl
theorem spec_l17Items.eq (v0 : List (Int × Int)) (v1 : List (Int × Int)) (v2 : List (Int × Int)) (v3 : Int) (v4 : Int) {b : (List (Int × Int))} (h : spec_l17Items.t some v0 v1 v2 v3 v4 = some b) : spec_l17Items v0 v1 v2 v3 v4 = some b := tOf_intro spec_l17Items.un (fun _ => by kernel_rfl) (vlim_fn (callT_le E tab) rfl rfl rfl ((spec_l17Items.k v0 v1 v2 v3 v4).trans ((by unfold spec_l17Items.t; repeat' first | exact Sub.ret | exact Sub.none | exact Sub.loop | apply Sub.cond | (apply Sub.bind; intro _) : Sub spec_l17Items.mk _ _) b h)))
noncomputable def laws_sameWindows.t {γ : Type} (ret : (Bool) → Option γ) (v0 : List (Int × Int)) (v1 : List (Int × Int)) (v2 : List (Int × Int)) (v3 : Int) (v4 : Int) (v5 : List (Int × Int)) (v6 : List (Int × Int)) (v7 : List (Int × Int)) (v8 : Int) (v9 : Int) : Option γ :=
 (laws_sameMaps (v0) (v5)).bind fun (r0 : Bool) =>
 bif r0 then
  (laws_sameMaps (v1) (v6)).bind fun (r1 : Bool) =>
  bif r1 then
   (laws_sameMaps (v2) (v7)).bind fun (r2 : Bool) =>
   bif r2 then
    ret (decide (v3 = v8) && (decide (v4 = v9) && Bool.true))
   else
    ret (Bool.false)
  else
   ret (Bool.false)
 else
  ret (Bool.false)
theorem laws_sameWindows.k (v0 : List (Int × Int)) (v1 : List (Int × Int)) (v2 : List (Int × Int)) (v3 : Int) (v4 : Int) (v5 : List (Int × Int)) (v6 : List (Int × Int)) (v7 : List (Int × Int)) (v8 : Int) (v9 : Int) : topL E (callT E tab) 26 Try.f26 (laws_sameWindows.c v0 v1 v2 v3 v4 v5 v6 v7 v8 v9) = laws_sameWindows.t (fun b => some (laws_sameWindows.mk b)) v0 v1 v2 v3 v4 v5 v6 v7 v8 v9 := by kernel_rfl
theorem laws_sameWindows.eq (v0 : List (Int × Int)) (v1 : List (Int × Int)) (v2 : List (Int × Int)) (v3 : Int) (v4 : Int) (v5 : List (Int × Int)) (v6 : List (Int × Int)) (v7 : List (Int × Int)) (v8 : Int) (v9 : Int) {b : Bool} (h : laws_sameWindows.t some v0 v1 v2 v3 v4 v5 v6 v7 v8 v9 = some b) : laws_sameWindows v0 v1 v2 v3 v4 v5 v6 v7 v8 v9 = some b := tOf_intro laws_sameWindows.un (fun _ => by kernel_rfl) (vlim_fn (callT_le E tab) rfl rfl rfl ((laws_sameWindows.k v0 v1 v2 v3 v4 v5 v6 v7 v8 v9).trans ((by unfold laws_sameWindows.t; repeat' first | exact Sub.ret | exact Sub.none | exact Sub.loop | apply Sub.cond | (apply Sub.bind; intro _) : Sub laws_sameWindows.mk _ _) b h)))
noncomputable def laws_numberOf.q3 (v0 : Int) (v1 : List Int) (v2 : Int) (v3 : Int) : Option R := loopAtL E (callT E tab) 28 Try.f28 1 [.r, .r, .l, .r, .b] (nn 3 (vc (iL v0) :: nn 2 (vc (.d .fro (.sl (.int .u8)) v1) :: vc (iL v2) :: vc (iL v3) :: nn 11 ([]))))
noncomputable def laws_numberOf.l3 (v0 : Int) (v1 : List Int) (v2 : Int) (v3 : Int) : Option (Int) := tOf laws_numberOf.mk (laws_numberOf.q3 v0 v1 v2 v3)
noncomputable def laws_numberOf.t {γ : Type} (ret : (Int) → Option γ) (lp3 : Int → (List Int) → Int → Int → Option γ) (v0 : List Int) : Option γ :=
 lp3 ((0 : Int)) (v0) ((↑v0.length : Int)) ((0 : Int))
noncomputable def laws_numberOf.t3 {γ : Type} (ret : (Int) → Option γ) (lp3 : Int → (List Int) → Int → Int → Option γ) (v0 : Int) (v1 : List Int) (v2 : Int) (v3 : Int) : Option γ :=
 bif decide (v3 < v2) then
  bif decide ((0 : Int) ≤ v3) then
   bif decide (v3.toNat < v1.length) then
    lp3 ((IntKind.i64.wrap (IntKind.i64.wrap ((31 : Int) * v0) + IntKind.i64.wrap (v1.getD v3.toNat (0 : Int)))).tmod   (1000003 : Int)) (v1) (v2) (IntKind.i64.wrap (v3 + (1 : Int)))
   else
    none
  else
   none
 else
  ret (v0)
theorem laws_numberOf.k (v0 : List Int) : topL E (callT E tab) 28 Try.f28 (laws_numberOf.c v0) = laws_numberOf.t (fun b => some (laws_numberOf.mk b)) laws_numberOf.q3 v0 := by kernel_rfl
theorem laws_numberOf.k3 (v0 : Int) (v1 : List Int) (v2 : Int) (v3 : Int) : roundL E (callT E tab) 28 Try.f28 1 [.r, .r, .l, .r, .b] (nn 3 (vc (iL v0) :: nn 2 (vc (.d .fro (.sl (.int .u8)) v1) :: vc (iL v2) :: vc (iL v3) :: nn 11 ([])))) = laws_numberOf.t3 (fun b => some (laws_numberOf.mk b)) laws_numberOf.q3 v0 v1 v2 v3 := by kernel_rfl
theorem laws_numberOf.eq (v0 : List Int) {b : Int} (h : laws_numberOf.t some laws_numberOf.l3 v0 = some b) : laws_numberOf v0 = some b := tOf_intro laws_numberOf.un (fun _ => by kernel_rfl) (vlim_fn (callT_le E tab) rfl rfl rfl ((laws_numberOf.k v0).trans ((by unfold laws_numberOf.t; repeat' first | exact Sub.ret | exact Sub.none | exact Sub.loop | apply Sub.cond | (apply Sub.bind; intro _) : Sub laws_numberOf.mk _ _) b h)))
theorem laws_numberOf.eq3 (v0 : Int) (v1 : List Int) (v2 : Int) (v3 : Int) {b : Int} (h : laws_numberOf.t3 some laws_numberOf.l3 v0 v1 v2 v3 = some b) : laws_numberOf.l3 v0 v1 v2 v3 = some b := tOf_intro laws_numberOf.un (fun _ => by kernel_rfl) (loopAtL_step ((laws_numberOf.k3 v0 v1 v2 v3).trans ((by unfold laws_numberOf.t3; repeat' first | exact Sub.ret | exact Sub.none | exact Sub.loop | apply Sub.cond | (apply Sub.bind; intro _) : Sub laws_numberOf.mk _ _) b h)))
end GoV
