/- A part of the proof of FnExactDrainSink: an interpreter of the model over plain data, its soundness, and what it makes of the functions that the statement reaches. Conditions: none beyond what the given statement itself says. -/
import Derived.Test.YthecmihppeckhaaTH
set_option linter.unusedVariables false
set_option linter.unusedSimpArgs false
set_option linter.unnecessarySimpa false
set_option linter.unusedSectionVars false
/- The functions of the program, each told by what it answers in the end (printed by wip/tools/emit.py). -/
/-! Names of functions here: xl00 = laws_markPreparedS_f51, xi01 = impl_Sink_prepare_dfc, xl02 = laws_FnExactDrainSink, xi03 = impl_Sink_commit_dfc, xs04 = slices_Clone_int_int, xs05 = slices_Equal_int_int, xi06 = impl_Sink_crash_dfc, xi07 = impl_Sink_often_1e4 -/
namespace GoV
open Go Go.Proofs
set_option maxRecDepth 100000

def laws_szSink.c (v0 : List Int) (v1 : Int) (v2 : List Int) (v3 : List (Int × Int × List Int)) (v4 : List Int) (v5 : Int) (v6 : Int) (v7 : Int) : List Cell := ac [.d .fro (.sl (.int .i64)) v0, iL v1, .d .fro (.sl (.int .i64)) v2, .d .fro (.sl (.pair (.int .i64) (.pair (.int .i64) (.sl (.int .i64))))) v3, .d .fro (.sl (.int .i64)) v4, iL v5, iL v6] :: vc (iL v7) :: []
def laws_szSink.mk (b : Int) : R := (⟨.one, [iL b]⟩, nn 2 ([]))
def laws_szSink.un (r : R) : Int := ((leafR r 0).dat (.int .i64))
noncomputable def laws_szSink (v0 : List Int) (v1 : Int) (v2 : List Int) (v3 : List (Int × Int × List Int)) (v4 : List Int) (v5 : Int) (v6 : Int) (v7 : Int) : Option (Int) := tOf laws_szSink.mk (vlim E 6 (laws_szSink.c v0 v1 v2 v3 v4 v5 v6 v7))
def laws_szIntS.c (v0 : List Int) (v1 : Int) : List Cell := vc (.d .fro (.sl (.int .i64)) v0) :: vc (iL v1) :: []
def laws_szIntS.mk (b : Int) : R := (⟨.one, [iL b]⟩, nn 2 ([]))
def laws_szIntS.un (r : R) : Int := ((leafR r 0).dat (.int .i64))
noncomputable def laws_szIntS (v0 : List Int) (v1 : Int) : Option (Int) := tOf laws_szIntS.mk (vlim E 23 (laws_szIntS.c v0 v1))
def laws_szPreparedS.c (v0 : List (Int × Int × List Int)) (v1 : Int) : List Cell := vc (.d .fro (.sl (.pair (.int .i64) (.pair (.int .i64) (.sl (.int .i64))))) v0) :: vc (iL v1) :: []
def laws_szPreparedS.mk (b : Int) : R := (⟨.one, [iL b]⟩, nn 2 ([]))
def laws_szPreparedS.un (r : R) : Int := ((leafR r 0).dat (.int .i64))
noncomputable def laws_szPreparedS (v0 : List (Int × Int × List Int)) (v1 : Int) : Option (Int) := tOf laws_szPreparedS.mk (vlim E 24 (laws_szPreparedS.c v0 v1))
def laws_szPrepared.c (v0 : Int) (v1 : Int) (v2 : List Int) (v3 : Int) : List Cell := ac [iL v0, iL v1, .d .fro (.sl (.int .i64)) v2] :: vc (iL v3) :: []
def laws_szPrepared.mk (b : Int) : R := (⟨.one, [iL b]⟩, nn 2 ([]))
def laws_szPrepared.un (r : R) : Int := ((leafR r 0).dat (.int .i64))
noncomputable def laws_szPrepared (v0 : Int) (v1 : Int) (v2 : List Int) (v3 : Int) : Option (Int) := tOf laws_szPrepared.mk (vlim E 49 (laws_szPrepared.c v0 v1 v2 v3))
def laws_toSink.c (v0 : List Int) (v1 : Int) (v2 : List Int) (v3 : List (Int × Int × List Int)) (v4 : List Int) (v5 : Int) (v6 : Int) : List Cell := ac [.d .fro (.sl (.int .i64)) v0, iL v1, .d .fro (.sl (.int .i64)) v2, .d .fro (.sl (.pair (.int .i64) (.pair (.int .i64) (.sl (.int .i64))))) v3, .d .fro (.sl (.int .i64)) v4, iL v5, iL v6] :: []
def laws_toSink.mk (b : (List Int) × Int × (List Int) × (List (Int × Int × List Int)) × (List Int) × Int × Int) : R := (⟨.agg, [.d .deep (.sl (.int .i64)) b.1, iL b.2.1, .d .deep (.sl (.int .i64)) b.2.2.1, .d .deep (.sl (.pair (.int .i64) (.pair (.int .i64) (.sl (.int .i64))))) b.2.2.2.1, .d .deep (.sl (.int .i64)) b.2.2.2.2.1, iL b.2.2.2.2.2.1, iL b.2.2.2.2.2.2]⟩, nn 1 ([]))
def laws_toSink.un (r : R) : (List Int) × Int × (List Int) × (List (Int × Int × List Int)) × (List Int) × Int × Int := ((leafR r 0).dat (.sl (.int .i64)), (leafR r 1).dat (.int .i64), (leafR r 2).dat (.sl (.int .i64)), (leafR r 3).dat (.sl (.pair (.int .i64) (.pair (.int .i64) (.sl (.int .i64))))), (leafR r 4).dat (.sl (.int .i64)), (leafR r 5).dat (.int .i64), (leafR r 6).dat (.int .i64))
noncomputable def laws_toSink (v0 : List Int) (v1 : Int) (v2 : List Int) (v3 : List (Int × Int × List Int)) (v4 : List Int) (v5 : Int) (v6 : Int) : Option ((List Int) × Int × (List Int) × (List (Int × Int × List Int)) × (List Int) × Int × Int) := tOf laws_toSink.mk (vlim E 8 (laws_toSink.c v0 v1 v2 v3 v4 v5 v6))
def laws_toIntS.c (v0 : List Int) : List Cell := vc (.d .fro (.sl (.int .i64)) v0) :: []
def laws_toIntS.mk (b : (List Int)) : R := (⟨.one, [.d .deep (.sl (.int .i64)) b]⟩, nn 1 ([]))
def laws_toIntS.un (r : R) : (List Int) := ((leafR r 0).dat (.sl (.int .i64)))
noncomputable def laws_toIntS (v0 : List Int) : Option ((List Int)) := tOf laws_toIntS.mk (vlim E 28 (laws_toIntS.c v0))
def laws_toPreparedS.c (v0 : List (Int × Int × List Int)) : List Cell := vc (.d .fro (.sl (.pair (.int .i64) (.pair (.int .i64) (.sl (.int .i64))))) v0) :: []
def laws_toPreparedS.mk (b : (List (Int × Int × List Int))) : R := (⟨.one, [.d .deep (.sl (.pair (.int .i64) (.pair (.int .i64) (.sl (.int .i64))))) b]⟩, nn 1 ([]))
def laws_toPreparedS.un (r : R) : (List (Int × Int × List Int)) := ((leafR r 0).dat (.sl (.pair (.int .i64) (.pair (.int .i64) (.sl (.int .i64))))))
noncomputable def laws_toPreparedS (v0 : List (Int × Int × List Int)) : Option ((List (Int × Int × List Int))) := tOf laws_toPreparedS.mk (vlim E 29 (laws_toPreparedS.c v0))
def laws_toPrepared.c (v0 : Int) (v1 : Int) (v2 : List Int) : List Cell := ac [iL v0, iL v1, .d .fro (.sl (.int .i64)) v2] :: []
def laws_toPrepared.mk (b : Int × Int × (List Int)) : R := (⟨.agg, [iL b.1, iL b.2.1, .d .deep (.sl (.int .i64)) b.2.2]⟩, nn 1 ([]))
def laws_toPrepared.un (r : R) : Int × Int × (List Int) := ((leafR r 0).dat (.int .i64), (leafR r 1).dat (.int .i64), (leafR r 2).dat (.sl (.int .i64)))
noncomputable def laws_toPrepared (v0 : Int) (v1 : Int) (v2 : List Int) : Option (Int × Int × (List Int)) := tOf laws_toPrepared.mk (vlim E 51 (laws_toPrepared.c v0 v1 v2))
def spec_GoodSink.c (v0 : List Int) (v1 : Int) (v2 : List Int) (v3 : List (Int × Int × List Int)) (v4 : List Int) (v5 : Int) (v6 : Int) : List Cell := ac [.d .fro (.sl (.int .i64)) v0, iL v1, .d .fro (.sl (.int .i64)) v2, .d .fro (.sl (.pair (.int .i64) (.pair (.int .i64) (.sl (.int .i64))))) v3, .d .fro (.sl (.int .i64)) v4, iL v5, iL v6] :: []
def spec_GoodSink.mk (b : Bool) : R := (⟨.one, [bL b]⟩, nn 1 ([]))
def spec_GoodSink.un (r : R) : Bool := ((leafR r 0).dat .bool)
noncomputable def spec_GoodSink (v0 : List Int) (v1 : Int) (v2 : List Int) (v3 : List (Int × Int × List Int)) (v4 : List Int) (v5 : Int) (v6 : Int) : Option (Bool) := tOf spec_GoodSink.mk (vlim E 20 (spec_GoodSink.c v0 v1 v2 v3 v4 v5 v6))
def spec_l1In.c (v0 : Int) (v1 : Int) (v2 : Int) : List Cell := vc (iL v0) :: vc (iL v1) :: vc (iL v2) :: []
def spec_l1In.mk (b : Bool) : R := (⟨.one, [bL b]⟩, nn 3 ([]))
def spec_l1In.un (r : R) : Bool := ((leafR r 0).dat .bool)
noncomputable def spec_l1In (v0 : Int) (v1 : Int) (v2 : Int) : Option (Bool) := tOf spec_l1In.mk (vlim E 46 (spec_l1In.c v0 v1 v2))
def spec_l16Same.c (v0 : List Int) (v1 : List Int) : List Cell := vc (.d .fro (.sl (.int .i64)) v0) :: vc (.d .fro (.sl (.int .i64)) v1) :: []
def spec_l16Same.mk (b : Bool) : R := (⟨.one, [bL b]⟩, nn 2 ([]))
def spec_l16Same.un (r : R) : Bool := ((leafR r 0).dat .bool)
noncomputable def spec_l16Same (v0 : List Int) (v1 : List Int) : Option (Bool) := tOf spec_l16Same.mk (vlim E 47 (spec_l16Same.c v0 v1))
def spec_l16Own.c (v0 : List Int) (v1 : Int) (v2 : List Int) (v3 : List (Int × Int × List Int)) (v4 : List Int) (v5 : Int) (v6 : Int) : List Cell := ac [.d .fro (.sl (.int .i64)) v0, iL v1, .d .fro (.sl (.int .i64)) v2, .d .fro (.sl (.pair (.int .i64) (.pair (.int .i64) (.sl (.int .i64))))) v3, .d .fro (.sl (.int .i64)) v4, iL v5, iL v6] :: []
def spec_l16Own.mk (b : (List Int) × Int × (List Int) × (List (Int × Int × List Int)) × (List Int) × Int × Int) : R := (⟨.agg, [.d .deep (.sl (.int .i64)) b.1, iL b.2.1, .d .deep (.sl (.int .i64)) b.2.2.1, .d .deep (.sl (.pair (.int .i64) (.pair (.int .i64) (.sl (.int .i64))))) b.2.2.2.1, .d .deep (.sl (.int .i64)) b.2.2.2.2.1, iL b.2.2.2.2.2.1, iL b.2.2.2.2.2.2]⟩, nn 1 ([]))
def spec_l16Own.un (r : R) : (List Int) × Int × (List Int) × (List (Int × Int × List Int)) × (List Int) × Int × Int := ((leafR r 0).dat (.sl (.int .i64)), (leafR r 1).dat (.int .i64), (leafR r 2).dat (.sl (.int .i64)), (leafR r 3).dat (.sl (.pair (.int .i64) (.pair (.int .i64) (.sl (.int .i64))))), (leafR r 4).dat (.sl (.int .i64)), (leafR r 5).dat (.int .i64), (leafR r 6).dat (.int .i64))
noncomputable def spec_l16Own (v0 : List Int) (v1 : Int) (v2 : List Int) (v3 : List (Int × Int × List Int)) (v4 : List Int) (v5 : Int) (v6 : Int) : Option ((List Int) × Int × (List Int) × (List (Int × Int × List Int)) × (List Int) × Int × Int) := tOf spec_l16Own.mk (vlim E 27 (spec_l16Own.c v0 v1 v2 v3 v4 v5 v6))
def spec_l16Crash_5b7.c (v0 : List Int) (v1 : Int) (v2 : List Int) (v3 : List (Int × Int × List Int)) (v4 : List Int) (v5 : Int) (v6 : Int) : List Cell := ac [.d .deep (.sl (.int .i64)) v0, iL v1, .d .deep (.sl (.int .i64)) v2, .d .deep (.sl (.pair (.int .i64) (.pair (.int .i64) (.sl (.int .i64))))) v3, .d .deep (.sl (.int .i64)) v4, iL v5, iL v6] :: []
def spec_l16Crash_5b7.mk (b : (List Int) × Int × (List Int) × (List (Int × Int × List Int)) × (List Int) × Int × Int) : R := (⟨.agg, [.d .deep (.sl (.int .i64)) b.1, iL b.2.1, .d .deep (.sl (.int .i64)) b.2.2.1, .d .deep (.sl (.pair (.int .i64) (.pair (.int .i64) (.sl (.int .i64))))) b.2.2.2.1, .d .deep (.sl (.int .i64)) b.2.2.2.2.1, iL b.2.2.2.2.2.1, iL b.2.2.2.2.2.2]⟩, nn 1 ([]))
def spec_l16Crash_5b7.un (r : R) : (List Int) × Int × (List Int) × (List (Int × Int × List Int)) × (List Int) × Int × Int := ((leafR r 0).dat (.sl (.int .i64)), (leafR r 1).dat (.int .i64), (leafR r 2).dat (.sl (.int .i64)), (leafR r 3).dat (.sl (.pair (.int .i64) (.pair (.int .i64) (.sl (.int .i64))))), (leafR r 4).dat (.sl (.int .i64)), (leafR r 5).dat (.int .i64), (leafR r 6).dat (.int .i64))
noncomputable def spec_l16Crash_5b7 (v0 : List Int) (v1 : Int) (v2 : List Int) (v3 : List (Int × Int × List Int)) (v4 : List Int) (v5 : Int) (v6 : Int) : Option ((List Int) × Int × (List Int) × (List (Int × Int × List Int)) × (List Int) × Int × Int) := tOf spec_l16Crash_5b7.mk (vlim E 26 (spec_l16Crash_5b7.c v0 v1 v2 v3 v4 v5 v6))
def spec_l16From.c (v0 : List Int) (v1 : Int) (v2 : List Int) (v3 : List (Int × Int × List Int)) (v4 : List Int) (v5 : Int) (v6 : Int) : List Cell := ac [.d .fro (.sl (.int .i64)) v0, iL v1, .d .fro (.sl (.int .i64)) v2, .d .fro (.sl (.pair (.int .i64) (.pair (.int .i64) (.sl (.int .i64))))) v3, .d .fro (.sl (.int .i64)) v4, iL v5, iL v6] :: []
def spec_l16From.mk (b : Int) : R := (⟨.one, [iL b]⟩, nn 1 ([]))
def spec_l16From.un (r : R) : Int := ((leafR r 0).dat (.int .i64))
noncomputable def spec_l16From (v0 : List Int) (v1 : Int) (v2 : List Int) (v3 : List (Int × Int × List Int)) (v4 : List Int) (v5 : Int) (v6 : Int) : Option (Int) := tOf spec_l16From.mk (vlim E 50 (spec_l16From.c v0 v1 v2 v3 v4 v5 v6))
def spec_l16Commit_5b7.c (v0 : List Int) (v1 : Int) (v2 : List Int) (v3 : List (Int × Int × List Int)) (v4 : List Int) (v5 : Int) (v6 : Int) : List Cell := ac [.d .deep (.sl (.int .i64)) v0, iL v1, .d .deep (.sl (.int .i64)) v2, .d .deep (.sl (.pair (.int .i64) (.pair (.int .i64) (.sl (.int .i64))))) v3, .d .deep (.sl (.int .i64)) v4, iL v5, iL v6] :: []
def spec_l16Commit_5b7.mk (b : (List Int) × Int × (List Int) × (List (Int × Int × List Int)) × (List Int) × Int × Int × Int) : R := (⟨(.tup [some 7, none]), [.d .deep (.sl (.int .i64)) b.1, iL b.2.1, .d .deep (.sl (.int .i64)) b.2.2.1, .d .deep (.sl (.pair (.int .i64) (.pair (.int .i64) (.sl (.int .i64))))) b.2.2.2.1, .d .deep (.sl (.int .i64)) b.2.2.2.2.1, iL b.2.2.2.2.2.1, iL b.2.2.2.2.2.2.1, iL b.2.2.2.2.2.2.2]⟩, nn 1 ([]))
def spec_l16Commit_5b7.un (r : R) : (List Int) × Int × (List Int) × (List (Int × Int × List Int)) × (List Int) × Int × Int × Int := ((leafR r 0).dat (.sl (.int .i64)), (leafR r 1).dat (.int .i64), (leafR r 2).dat (.sl (.int .i64)), (leafR r 3).dat (.sl (.pair (.int .i64) (.pair (.int .i64) (.sl (.int .i64))))), (leafR r 4).dat (.sl (.int .i64)), (leafR r 5).dat (.int .i64), (leafR r 6).dat (.int .i64), (leafR r 7).dat (.int .i64))
noncomputable def spec_l16Commit_5b7 (v0 : List Int) (v1 : Int) (v2 : List Int) (v3 : List (Int × Int × List Int)) (v4 : List Int) (v5 : Int) (v6 : Int) : Option ((List Int) × Int × (List Int) × (List (Int × Int × List Int)) × (List Int) × Int × Int × Int) := tOf spec_l16Commit_5b7.mk (vlim E 25 (spec_l16Commit_5b7.c v0 v1 v2 v3 v4 v5 v6))
def spec_l16Step_3ad.c (v0 : List Int) (v1 : Int) (v2 : List Int) (v3 : List (Int × Int × List Int)) (v4 : List Int) (v5 : Int) (v6 : Int) (v7 : Int) : List Cell := ⟨(.val .agg), [.d .deep (.sl (.int .i64)) v0, iL v1, .d .deep (.sl (.int .i64)) v2, .d .deep (.sl (.pair (.int .i64) (.pair (.int .i64) (.sl (.int .i64))))) v3, .d .deep (.sl (.int .i64)) v4, iL v5, iL v6], true, false, false, 0, 0⟩ :: vc (iL v7) :: []
def spec_l16Step_3ad.mk1 (b : Int × Int × Int × Bool × (List Int) × Int × (List Int) × (List (Int × Int × List Int)) × (List Int) × Int × Int) : R := (⟨(.tup [some 7, none]), [.dead, iL b.1, .dead, .dead, .dead, iL b.2.1, iL b.2.2.1, bL b.2.2.2.1]⟩, ⟨(.val .agg), [.d .deep (.sl (.int .i64)) b.2.2.2.2.1, iL b.2.2.2.2.2.1, .d .deep (.sl (.int .i64)) b.2.2.2.2.2.2.1, .d .deep (.sl (.pair (.int .i64) (.pair (.int .i64) (.sl (.int .i64))))) b.2.2.2.2.2.2.2.1, .d .deep (.sl (.int .i64)) b.2.2.2.2.2.2.2.2.1, iL b.2.2.2.2.2.2.2.2.2.1, iL b.2.2.2.2.2.2.2.2.2.2], true, false, false, 0, 0⟩ :: nn 1 ([]))
def spec_l16Step_3ad.mk2 (b : (List Int) × Int × (List Int) × (List (Int × Int × List Int)) × (List Int) × Int × Int × Bool × Int × Int × Int) : R := (⟨(.tup [some 7, none]), [.d .deep (.sl (.int .i64)) b.1, iL b.2.1, .d .deep (.sl (.int .i64)) b.2.2.1, .d .deep (.sl (.pair (.int .i64) (.pair (.int .i64) (.sl (.int .i64))))) b.2.2.2.1, .d .deep (.sl (.int .i64)) b.2.2.2.2.1, iL b.2.2.2.2.2.1, iL b.2.2.2.2.2.2.1, bL b.2.2.2.2.2.2.2.1]⟩, ⟨(.val .agg), [.dead, iL b.2.2.2.2.2.2.2.2.1, .dead, .dead, .dead, iL b.2.2.2.2.2.2.2.2.2.1, iL b.2.2.2.2.2.2.2.2.2.2], true, false, false, 0, 0⟩ :: nn 1 ([]))
def spec_l16Step_3ad.f (b : (Int × Int × Int × Bool × (List Int) × Int × (List Int) × (List (Int × Int × List Int)) × (List Int) × Int × Int) ⊕ ((List Int) × Int × (List Int) × (List (Int × Int × List Int)) × (List Int) × Int × Int × Bool × Int × Int × Int)) : R := spec_l16Step_3ad.mk1 (inL b (0, 0, 0, false, [], 0, [], [], [], 0, 0))
def spec_l16Step_3ad.g (b : (Int × Int × Int × Bool × (List Int) × Int × (List Int) × (List (Int × Int × List Int)) × (List Int) × Int × Int) ⊕ ((List Int) × Int × (List Int) × (List (Int × Int × List Int)) × (List Int) × Int × Int × Bool × Int × Int × Int)) : R := spec_l16Step_3ad.mk2 (inR b ([], 0, [], [], [], 0, 0, false, 0, 0, 0))
def spec_l16Step_3ad.mk (b : (Int × Int × Int × Bool × (List Int) × Int × (List Int) × (List (Int × Int × List Int)) × (List Int) × Int × Int) ⊕ ((List Int) × Int × (List Int) × (List (Int × Int × List Int)) × (List Int) × Int × Int × Bool × Int × Int × Int)) : R := bif Sum.isLeft b then spec_l16Step_3ad.f b else spec_l16Step_3ad.g b
def spec_l16Step_3ad.un (r : R) : (Int × Int × Int × Bool × (List Int) × Int × (List Int) × (List (Int × Int × List Int)) × (List Int) × Int × Int) ⊕ ((List Int) × Int × (List Int) × (List (Int × Int × List Int)) × (List Int) × Int × Int × Bool × Int × Int × Int) := bif (leafR r 0).isDead then .inl ((leafR r 1).dat (.int .i64), (leafR r 5).dat (.int .i64), (leafR r 6).dat (.int .i64), (leafR r 7).dat .bool, (leafF r 0 0).dat (.sl (.int .i64)), (leafF r 0 1).dat (.int .i64), (leafF r 0 2).dat (.sl (.int .i64)), (leafF r 0 3).dat (.sl (.pair (.int .i64) (.pair (.int .i64) (.sl (.int .i64))))), (leafF r 0 4).dat (.sl (.int .i64)), (leafF r 0 5).dat (.int .i64), (leafF r 0 6).dat (.int .i64)) else .inr ((leafR r 0).dat (.sl (.int .i64)), (leafR r 1).dat (.int .i64), (leafR r 2).dat (.sl (.int .i64)), (leafR r 3).dat (.sl (.pair (.int .i64) (.pair (.int .i64) (.sl (.int .i64))))), (leafR r 4).dat (.sl (.int .i64)), (leafR r 5).dat (.int .i64), (leafR r 6).dat (.int .i64), (leafR r 7).dat .bool, (leafF r 0 1).dat (.int .i64), (leafF r 0 5).dat (.int .i64), (leafF r 0 6).dat (.int .i64))
noncomputable def spec_l16Step_3ad (v0 : List Int) (v1 : Int) (v2 : List Int) (v3 : List (Int × Int × List Int)) (v4 : List Int) (v5 : Int) (v6 : Int) (v7 : Int) : Option ((Int × Int × Int × Bool × (List Int) × Int × (List Int) × (List (Int × Int × List Int)) × (List Int) × Int × Int) ⊕ ((List Int) × Int × (List Int) × (List (Int × Int × List Int)) × (List Int) × Int × Int × Bool × Int × Int × Int)) := tOf spec_l16Step_3ad.mk (vlim E 39 (spec_l16Step_3ad.c v0 v1 v2 v3 v4 v5 v6 v7))
def impl_GoodSink.c (v0 : List Int) (v1 : Int) (v2 : List Int) (v3 : List (Int × Int × List Int)) (v4 : List Int) (v5 : Int) (v6 : Int) : List Cell := ac [.d .fro (.sl (.int .i64)) v0, iL v1, .d .fro (.sl (.int .i64)) v2, .d .fro (.sl (.pair (.int .i64) (.pair (.int .i64) (.sl (.int .i64))))) v3, .d .fro (.sl (.int .i64)) v4, iL v5, iL v6] :: []
def impl_GoodSink.mk (b : Bool) : R := (⟨.one, [bL b]⟩, nn 1 ([]))
def impl_GoodSink.un (r : R) : Bool := ((leafR r 0).dat .bool)
noncomputable def impl_GoodSink (v0 : List Int) (v1 : Int) (v2 : List Int) (v3 : List (Int × Int × List Int)) (v4 : List Int) (v5 : Int) (v6 : Int) : Option (Bool) := tOf impl_GoodSink.mk (vlim E 19 (impl_GoodSink.c v0 v1 v2 v3 v4 v5 v6))
def impl_within.c (v0 : Int) (v1 : Int) (v2 : Int) : List Cell := vc (iL v0) :: vc (iL v1) :: vc (iL v2) :: []
def impl_within.mk (b : Bool) : R := (⟨.one, [bL b]⟩, nn 3 ([]))
def impl_within.un (r : R) : Bool := ((leafR r 0).dat .bool)
noncomputable def impl_within (v0 : Int) (v1 : Int) (v2 : Int) : Option (Bool) := tOf impl_within.mk (vlim E 44 (impl_within.c v0 v1 v2))
def xs05.c (v0 : List Int) (v1 : List Int) : List Cell := vc (.d .fro (.sl (.int .i64)) v0) :: vc (.d .fro (.sl (.int .i64)) v1) :: []
def xs05.mk (b : Bool) : R := (⟨.one, [bL b]⟩, nn 2 ([]))
def xs05.un (r : R) : Bool := ((leafR r 0).dat .bool)
noncomputable def xs05 (v0 : List Int) (v1 : List Int) : Option (Bool) := tOf xs05.mk (vlim E 45 (xs05.c v0 v1))
def impl_Sink_own.c (v0 : List Int) (v1 : Int) (v2 : List Int) (v3 : List (Int × Int × List Int)) (v4 : List Int) (v5 : Int) (v6 : Int) : List Cell := ac [.d .fro (.sl (.int .i64)) v0, iL v1, .d .fro (.sl (.int .i64)) v2, .d .fro (.sl (.pair (.int .i64) (.pair (.int .i64) (.sl (.int .i64))))) v3, .d .fro (.sl (.int .i64)) v4, iL v5, iL v6] :: []
def impl_Sink_own.mk (b : (List Int) × Int × (List Int) × (List (Int × Int × List Int)) × (List Int) × Int × Int) : R := (⟨.agg, [.d .deep (.sl (.int .i64)) b.1, iL b.2.1, .d .deep (.sl (.int .i64)) b.2.2.1, .d .deep (.sl (.pair (.int .i64) (.pair (.int .i64) (.sl (.int .i64))))) b.2.2.2.1, .d .deep (.sl (.int .i64)) b.2.2.2.2.1, iL b.2.2.2.2.2.1, iL b.2.2.2.2.2.2]⟩, nn 1 ([]))
def impl_Sink_own.un (r : R) : (List Int) × Int × (List Int) × (List (Int × Int × List Int)) × (List Int) × Int × Int := ((leafR r 0).dat (.sl (.int .i64)), (leafR r 1).dat (.int .i64), (leafR r 2).dat (.sl (.int .i64)), (leafR r 3).dat (.sl (.pair (.int .i64) (.pair (.int .i64) (.sl (.int .i64))))), (leafR r 4).dat (.sl (.int .i64)), (leafR r 5).dat (.int .i64), (leafR r 6).dat (.int .i64))
noncomputable def impl_Sink_own (v0 : List Int) (v1 : Int) (v2 : List Int) (v3 : List (Int × Int × List Int)) (v4 : List Int) (v5 : Int) (v6 : Int) : Option ((List Int) × Int × (List Int) × (List (Int × Int × List Int)) × (List Int) × Int × Int) := tOf impl_Sink_own.mk (vlim E 30 (impl_Sink_own.c v0 v1 v2 v3 v4 v5 v6))
def xs04.c (v0 : List Int) : List Cell := vc (.d .fro (.sl (.int .i64)) v0) :: []
def xs04.mk (b : (List Int)) : R := (⟨.one, [.d .deep (.sl (.int .i64)) b]⟩, nn 1 ([]))
def xs04.un (r : R) : (List Int) := ((leafR r 0).dat (.sl (.int .i64)))
noncomputable def xs04 (v0 : List Int) : Option ((List Int)) := tOf xs04.mk (vlim E 52 (xs04.c v0))
def xi06.c (v0 : List Int) (v1 : Int) (v2 : List Int) (v3 : List (Int × Int × List Int)) (v4 : List Int) (v5 : Int) (v6 : Int) : List Cell := ⟨(.box false), [.d .deep (.sl (.int .i64)) v0, iL v1, .d .deep (.sl (.int .i64)) v2, .d .deep (.sl (.pair (.int .i64) (.pair (.int .i64) (.sl (.int .i64))))) v3, .d .deep (.sl (.int .i64)) v4, iL v5, iL v6], true, false, false, 0, 0⟩ :: []
def xi06.mk (b : Bool × (List Int) × Int × (List Int) × (List (Int × Int × List Int)) × (List Int) × Int × Int) : R := (⟨.one, [bL b.1]⟩, ⟨(.box false), [.d .deep (.sl (.int .i64)) b.2.1, iL b.2.2.1, .d .deep (.sl (.int .i64)) b.2.2.2.1, .d .deep (.sl (.pair (.int .i64) (.pair (.int .i64) (.sl (.int .i64))))) b.2.2.2.2.1, .d .deep (.sl (.int .i64)) b.2.2.2.2.2.1, iL b.2.2.2.2.2.2.1, iL b.2.2.2.2.2.2.2], true, false, false, 0, 0⟩ :: [])
def xi06.un (r : R) : Bool × (List Int) × Int × (List Int) × (List (Int × Int × List Int)) × (List Int) × Int × Int := ((leafR r 0).dat .bool, (leafF r 0 0).dat (.sl (.int .i64)), (leafF r 0 1).dat (.int .i64), (leafF r 0 2).dat (.sl (.int .i64)), (leafF r 0 3).dat (.sl (.pair (.int .i64) (.pair (.int .i64) (.sl (.int .i64))))), (leafF r 0 4).dat (.sl (.int .i64)), (leafF r 0 5).dat (.int .i64), (leafF r 0 6).dat (.int .i64))
noncomputable def xi06 (v0 : List Int) (v1 : Int) (v2 : List Int) (v3 : List (Int × Int × List Int)) (v4 : List Int) (v5 : Int) (v6 : Int) : Option (Bool × (List Int) × Int × (List Int) × (List (Int × Int × List Int)) × (List Int) × Int × Int) := tOf xi06.mk (vlim E 31 (xi06.c v0 v1 v2 v3 v4 v5 v6))
def impl_Sink_stored.c (v0 : List Int) (v1 : Int) (v2 : List Int) (v3 : List (Int × Int × List Int)) (v4 : List Int) (v5 : Int) (v6 : Int) : List Cell := ac [.d .fro (.sl (.int .i64)) v0, iL v1, .d .fro (.sl (.int .i64)) v2, .d .fro (.sl (.pair (.int .i64) (.pair (.int .i64) (.sl (.int .i64))))) v3, .d .fro (.sl (.int .i64)) v4, iL v5, iL v6] :: []
def impl_Sink_stored.mk (b : Int) : R := (⟨.one, [iL b]⟩, nn 1 ([]))
def impl_Sink_stored.un (r : R) : Int := ((leafR r 0).dat (.int .i64))
noncomputable def impl_Sink_stored (v0 : List Int) (v1 : Int) (v2 : List Int) (v3 : List (Int × Int × List Int)) (v4 : List Int) (v5 : Int) (v6 : Int) : Option (Int) := tOf impl_Sink_stored.mk (vlim E 53 (impl_Sink_stored.c v0 v1 v2 v3 v4 v5 v6))
def xi07.c (v0 : List Int) (v1 : Int) (v2 : List Int) (v3 : List (Int × Int × List Int)) (v4 : List Int) (v5 : Int) (v6 : Int) (v7 : Int) : List Cell := ⟨(.box false), [.d .deep (.sl (.int .i64)) v0, iL v1, .d .deep (.sl (.int .i64)) v2, .d .deep (.sl (.pair (.int .i64) (.pair (.int .i64) (.sl (.int .i64))))) v3, .d .deep (.sl (.int .i64)) v4, iL v5, iL v6], true, false, false, 0, 0⟩ :: vc (iL v7) :: []
def xi07.mk (b : Int × (List Int) × Int × (List Int) × (List (Int × Int × List Int)) × (List Int) × Int × Int) : R := (⟨.one, [iL b.1]⟩, ⟨(.box false), [.d .deep (.sl (.int .i64)) b.2.1, iL b.2.2.1, .d .deep (.sl (.int .i64)) b.2.2.2.1, .d .deep (.sl (.pair (.int .i64) (.pair (.int .i64) (.sl (.int .i64))))) b.2.2.2.2.1, .d .deep (.sl (.int .i64)) b.2.2.2.2.2.1, iL b.2.2.2.2.2.2.1, iL b.2.2.2.2.2.2.2], true, false, false, 0, 0⟩ :: nn 1 ([]))
def xi07.un (r : R) : Int × (List Int) × Int × (List Int) × (List (Int × Int × List Int)) × (List Int) × Int × Int := ((leafR r 0).dat (.int .i64), (leafF r 0 0).dat (.sl (.int .i64)), (leafF r 0 1).dat (.int .i64), (leafF r 0 2).dat (.sl (.int .i64)), (leafF r 0 3).dat (.sl (.pair (.int .i64) (.pair (.int .i64) (.sl (.int .i64))))), (leafF r 0 4).dat (.sl (.int .i64)), (leafF r 0 5).dat (.int .i64), (leafF r 0 6).dat (.int .i64))
noncomputable def xi07 (v0 : List Int) (v1 : Int) (v2 : List Int) (v3 : List (Int × Int × List Int)) (v4 : List Int) (v5 : Int) (v6 : Int) (v7 : Int) : Option (Int × (List Int) × Int × (List Int) × (List (Int × Int × List Int)) × (List Int) × Int × Int) := tOf xi07.mk (vlim E 32 (xi07.c v0 v1 v2 v3 v4 v5 v6 v7))
def impl_Sink_step_1e4.c (v0 : List Int) (v1 : Int) (v2 : List Int) (v3 : List (Int × Int × List Int)) (v4 : List Int) (v5 : Int) (v6 : Int) (v7 : Int) : List Cell := ⟨(.box false), [.d .deep (.sl (.int .i64)) v0, iL v1, .d .deep (.sl (.int .i64)) v2, .d .deep (.sl (.pair (.int .i64) (.pair (.int .i64) (.sl (.int .i64))))) v3, .d .deep (.sl (.int .i64)) v4, iL v5, iL v6], true, false, false, 0, 0⟩ :: vc (iL v7) :: []
def impl_Sink_step_1e4.mk (b : Bool × (List Int) × Int × (List Int) × (List (Int × Int × List Int)) × (List Int) × Int × Int) : R := (⟨.one, [bL b.1]⟩, ⟨(.box false), [.d .deep (.sl (.int .i64)) b.2.1, iL b.2.2.1, .d .deep (.sl (.int .i64)) b.2.2.2.1, .d .deep (.sl (.pair (.int .i64) (.pair (.int .i64) (.sl (.int .i64))))) b.2.2.2.2.1, .d .deep (.sl (.int .i64)) b.2.2.2.2.2.1, iL b.2.2.2.2.2.2.1, iL b.2.2.2.2.2.2.2], true, false, false, 0, 0⟩ :: nn 1 ([]))
def impl_Sink_step_1e4.un (r : R) : Bool × (List Int) × Int × (List Int) × (List (Int × Int × List Int)) × (List Int) × Int × Int := ((leafR r 0).dat .bool, (leafF r 0 0).dat (.sl (.int .i64)), (leafF r 0 1).dat (.int .i64), (leafF r 0 2).dat (.sl (.int .i64)), (leafF r 0 3).dat (.sl (.pair (.int .i64) (.pair (.int .i64) (.sl (.int .i64))))), (leafF r 0 4).dat (.sl (.int .i64)), (leafF r 0 5).dat (.int .i64), (leafF r 0 6).dat (.int .i64))
noncomputable def impl_Sink_step_1e4 (v0 : List Int) (v1 : Int) (v2 : List Int) (v3 : List (Int × Int × List Int)) (v4 : List Int) (v5 : Int) (v6 : Int) (v7 : Int) : Option (Bool × (List Int) × Int × (List Int) × (List (Int × Int × List Int)) × (List Int) × Int × Int) := tOf impl_Sink_step_1e4.mk (vlim E 43 (impl_Sink_step_1e4.c v0 v1 v2 v3 v4 v5 v6 v7))
def impl_Sink_read_dfc.c (v0 : List Int) (v1 : Int) (v2 : List Int) (v3 : List (Int × Int × List Int)) (v4 : List Int) (v5 : Int) (v6 : Int) : List Cell := ⟨(.box false), [.d .deep (.sl (.int .i64)) v0, iL v1, .d .deep (.sl (.int .i64)) v2, .d .deep (.sl (.pair (.int .i64) (.pair (.int .i64) (.sl (.int .i64))))) v3, .d .deep (.sl (.int .i64)) v4, iL v5, iL v6], true, false, false, 0, 0⟩ :: []
def impl_Sink_read_dfc.mk (b : Bool × (List Int) × Int × (List Int) × (List (Int × Int × List Int)) × (List Int) × Int × Int) : R := (⟨.one, [bL b.1]⟩, ⟨(.box false), [.d .deep (.sl (.int .i64)) b.2.1, iL b.2.2.1, .d .deep (.sl (.int .i64)) b.2.2.2.1, .d .deep (.sl (.pair (.int .i64) (.pair (.int .i64) (.sl (.int .i64))))) b.2.2.2.2.1, .d .deep (.sl (.int .i64)) b.2.2.2.2.2.1, iL b.2.2.2.2.2.2.1, iL b.2.2.2.2.2.2.2], true, false, false, 0, 0⟩ :: [])
def impl_Sink_read_dfc.un (r : R) : Bool × (List Int) × Int × (List Int) × (List (Int × Int × List Int)) × (List Int) × Int × Int := ((leafR r 0).dat .bool, (leafF r 0 0).dat (.sl (.int .i64)), (leafF r 0 1).dat (.int .i64), (leafF r 0 2).dat (.sl (.int .i64)), (leafF r 0 3).dat (.sl (.pair (.int .i64) (.pair (.int .i64) (.sl (.int .i64))))), (leafF r 0 4).dat (.sl (.int .i64)), (leafF r 0 5).dat (.int .i64), (leafF r 0 6).dat (.int .i64))
noncomputable def impl_Sink_read_dfc (v0 : List Int) (v1 : Int) (v2 : List Int) (v3 : List (Int × Int × List Int)) (v4 : List Int) (v5 : Int) (v6 : Int) : Option (Bool × (List Int) × Int × (List Int) × (List (Int × Int × List Int)) × (List Int) × Int × Int) := tOf impl_Sink_read_dfc.mk (vlim E 61 (impl_Sink_read_dfc.c v0 v1 v2 v3 v4 v5 v6))
def xi01.c (v0 : List Int) (v1 : Int) (v2 : List Int) (v3 : List (Int × Int × List Int)) (v4 : List Int) (v5 : Int) (v6 : Int) : List Cell := ⟨(.box false), [.d .deep (.sl (.int .i64)) v0, iL v1, .d .deep (.sl (.int .i64)) v2, .d .deep (.sl (.pair (.int .i64) (.pair (.int .i64) (.sl (.int .i64))))) v3, .d .deep (.sl (.int .i64)) v4, iL v5, iL v6], true, false, false, 0, 0⟩ :: []
def xi01.mk (b : Bool × (List Int) × Int × (List Int) × (List (Int × Int × List Int)) × (List Int) × Int × Int) : R := (⟨.one, [bL b.1]⟩, ⟨(.box false), [.d .deep (.sl (.int .i64)) b.2.1, iL b.2.2.1, .d .deep (.sl (.int .i64)) b.2.2.2.1, .d .deep (.sl (.pair (.int .i64) (.pair (.int .i64) (.sl (.int .i64))))) b.2.2.2.2.1, .d .deep (.sl (.int .i64)) b.2.2.2.2.2.1, iL b.2.2.2.2.2.2.1, iL b.2.2.2.2.2.2.2], true, false, false, 0, 0⟩ :: [])
def xi01.un (r : R) : Bool × (List Int) × Int × (List Int) × (List (Int × Int × List Int)) × (List Int) × Int × Int := ((leafR r 0).dat .bool, (leafF r 0 0).dat (.sl (.int .i64)), (leafF r 0 1).dat (.int .i64), (leafF r 0 2).dat (.sl (.int .i64)), (leafF r 0 3).dat (.sl (.pair (.int .i64) (.pair (.int .i64) (.sl (.int .i64))))), (leafF r 0 4).dat (.sl (.int .i64)), (leafF r 0 5).dat (.int .i64), (leafF r 0 6).dat (.int .i64))
noncomputable def xi01 (v0 : List Int) (v1 : Int) (v2 : List Int) (v3 : List (Int × Int × List Int)) (v4 : List Int) (v5 : Int) (v6 : Int) : Option (Bool × (List Int) × Int × (List Int) × (List (Int × Int × List Int)) × (List Int) × Int × Int) := tOf xi01.mk (vlim E 40 (xi01.c v0 v1 v2 v3 v4 v5 v6))
def xi03.c (v0 : List Int) (v1 : Int) (v2 : List Int) (v3 : List (Int × Int × List Int)) (v4 : List Int) (v5 : Int) (v6 : Int) : List Cell := ⟨(.box false), [.d .deep (.sl (.int .i64)) v0, iL v1, .d .deep (.sl (.int .i64)) v2, .d .deep (.sl (.pair (.int .i64) (.pair (.int .i64) (.sl (.int .i64))))) v3, .d .deep (.sl (.int .i64)) v4, iL v5, iL v6], true, false, false, 0, 0⟩ :: []
def xi03.mk (b : Bool × (List Int) × Int × (List Int) × (List (Int × Int × List Int)) × (List Int) × Int × Int) : R := (⟨.one, [bL b.1]⟩, ⟨(.box false), [.d .deep (.sl (.int .i64)) b.2.1, iL b.2.2.1, .d .deep (.sl (.int .i64)) b.2.2.2.1, .d .deep (.sl (.pair (.int .i64) (.pair (.int .i64) (.sl (.int .i64))))) b.2.2.2.2.1, .d .deep (.sl (.int .i64)) b.2.2.2.2.2.1, iL b.2.2.2.2.2.2.1, iL b.2.2.2.2.2.2.2], true, false, false, 0, 0⟩ :: [])
def xi03.un (r : R) : Bool × (List Int) × Int × (List Int) × (List (Int × Int × List Int)) × (List Int) × Int × Int := ((leafR r 0).dat .bool, (leafF r 0 0).dat (.sl (.int .i64)), (leafF r 0 1).dat (.int .i64), (leafF r 0 2).dat (.sl (.int .i64)), (leafF r 0 3).dat (.sl (.pair (.int .i64) (.pair (.int .i64) (.sl (.int .i64))))), (leafF r 0 4).dat (.sl (.int .i64)), (leafF r 0 5).dat (.int .i64), (leafF r 0 6).dat (.int .i64))
noncomputable def xi03 (v0 : List Int) (v1 : Int) (v2 : List Int) (v3 : List (Int × Int × List Int)) (v4 : List Int) (v5 : Int) (v6 : Int) : Option (Bool × (List Int) × Int × (List Int) × (List (Int × Int × List Int)) × (List Int) × Int × Int) := tOf xi03.mk (vlim E 62 (xi03.c v0 v1 v2 v3 v4 v5 v6))
def laws_eqSink.c (v0 : List Int) (v1 : Int) (v2 : List Int) (v3 : List (Int × Int × List Int)) (v4 : List Int) (v5 : Int) (v6 : Int) (v7 : List Int) (v8 : Int) (v9 : List Int) (v10 : List (Int × Int × List Int)) (v11 : List Int) (v12 : Int) (v13 : Int) : List Cell := ac [.d .fro (.sl (.int .i64)) v0, iL v1, .d .fro (.sl (.int .i64)) v2, .d .fro (.sl (.pair (.int .i64) (.pair (.int .i64) (.sl (.int .i64))))) v3, .d .fro (.sl (.int .i64)) v4, iL v5, iL v6] :: ac [.d .fro (.sl (.int .i64)) v7, iL v8, .d .fro (.sl (.int .i64)) v9, .d .fro (.sl (.pair (.int .i64) (.pair (.int .i64) (.sl (.int .i64))))) v10, .d .fro (.sl (.int .i64)) v11, iL v12, iL v13] :: []
def laws_eqSink.mk (b : Bool) : R := (⟨.one, [bL b]⟩, nn 2 ([]))
def laws_eqSink.un (r : R) : Bool := ((leafR r 0).dat .bool)
noncomputable def laws_eqSink (v0 : List Int) (v1 : Int) (v2 : List Int) (v3 : List (Int × Int × List Int)) (v4 : List Int) (v5 : Int) (v6 : Int) (v7 : List Int) (v8 : Int) (v9 : List Int) (v10 : List (Int × Int × List Int)) (v11 : List Int) (v12 : Int) (v13 : Int) : Option (Bool) := tOf laws_eqSink.mk (vlim E 10 (laws_eqSink.c v0 v1 v2 v3 v4 v5 v6 v7 v8 v9 v10 v11 v12 v13))
def laws_eqIntS.c (v0 : List Int) (v1 : List Int) : List Cell := vc (.d .fro (.sl (.int .i64)) v0) :: vc (.d .fro (.sl (.int .i64)) v1) :: []
def laws_eqIntS.mk (b : Bool) : R := (⟨.one, [bL b]⟩, nn 2 ([]))
def laws_eqIntS.un (r : R) : Bool := ((leafR r 0).dat .bool)
noncomputable def laws_eqIntS (v0 : List Int) (v1 : List Int) : Option (Bool) := tOf laws_eqIntS.mk (vlim E 33 (laws_eqIntS.c v0 v1))
def laws_eqPreparedS.c (v0 : List (Int × Int × List Int)) (v1 : List (Int × Int × List Int)) : List Cell := vc (.d .fro (.sl (.pair (.int .i64) (.pair (.int .i64) (.sl (.int .i64))))) v0) :: vc (.d .fro (.sl (.pair (.int .i64) (.pair (.int .i64) (.sl (.int .i64))))) v1) :: []
def laws_eqPreparedS.mk (b : Bool) : R := (⟨.one, [bL b]⟩, nn 2 ([]))
def laws_eqPreparedS.un (r : R) : Bool := ((leafR r 0).dat .bool)
noncomputable def laws_eqPreparedS (v0 : List (Int × Int × List Int)) (v1 : List (Int × Int × List Int)) : Option (Bool) := tOf laws_eqPreparedS.mk (vlim E 34 (laws_eqPreparedS.c v0 v1))
def laws_eqPrepared.c (v0 : Int) (v1 : Int) (v2 : List Int) (v3 : Int) (v4 : Int) (v5 : List Int) : List Cell := ac [iL v0, iL v1, .d .fro (.sl (.int .i64)) v2] :: ac [iL v3, iL v4, .d .fro (.sl (.int .i64)) v5] :: []
def laws_eqPrepared.mk (b : Bool) : R := (⟨.one, [bL b]⟩, nn 2 ([]))
def laws_eqPrepared.un (r : R) : Bool := ((leafR r 0).dat .bool)
noncomputable def laws_eqPrepared (v0 : Int) (v1 : Int) (v2 : List Int) (v3 : Int) (v4 : Int) (v5 : List Int) : Option (Bool) := tOf laws_eqPrepared.mk (vlim E 54 (laws_eqPrepared.c v0 v1 v2 v3 v4 v5))
def laws_markSink_3ad.c (v0 : List Int) (v1 : Int) (v2 : List Int) (v3 : List (Int × Int × List Int)) (v4 : List Int) (v5 : Int) (v6 : Int) (v7 : Int) : List Cell := ⟨(.val .agg), [.d .deep (.sl (.int .i64)) v0, iL v1, .d .deep (.sl (.int .i64)) v2, .d .deep (.sl (.pair (.int .i64) (.pair (.int .i64) (.sl (.int .i64))))) v3, .d .deep (.sl (.int .i64)) v4, iL v5, iL v6], true, false, false, 0, 0⟩ :: vc (iL v7) :: []
def laws_markSink_3ad.mk (b : Int × (List Int) × Int × (List Int) × (List (Int × Int × List Int)) × (List Int) × Int × Int) : R := (⟨.one, [iL b.1]⟩, ⟨(.val .agg), [.d .deep (.sl (.int .i64)) b.2.1, iL b.2.2.1, .d .deep (.sl (.int .i64)) b.2.2.2.1, .d .deep (.sl (.pair (.int .i64) (.pair (.int .i64) (.sl (.int .i64))))) b.2.2.2.2.1, .d .deep (.sl (.int .i64)) b.2.2.2.2.2.1, iL b.2.2.2.2.2.2.1, iL b.2.2.2.2.2.2.2], true, false, false, 0, 0⟩ :: nn 1 ([]))
def laws_markSink_3ad.un (r : R) : Int × (List Int) × Int × (List Int) × (List (Int × Int × List Int)) × (List Int) × Int × Int := ((leafR r 0).dat (.int .i64), (leafF r 0 0).dat (.sl (.int .i64)), (leafF r 0 1).dat (.int .i64), (leafF r 0 2).dat (.sl (.int .i64)), (leafF r 0 3).dat (.sl (.pair (.int .i64) (.pair (.int .i64) (.sl (.int .i64))))), (leafF r 0 4).dat (.sl (.int .i64)), (leafF r 0 5).dat (.int .i64), (leafF r 0 6).dat (.int .i64))
noncomputable def laws_markSink_3ad (v0 : List Int) (v1 : Int) (v2 : List Int) (v3 : List (Int × Int × List Int)) (v4 : List Int) (v5 : Int) (v6 : Int) (v7 : Int) : Option (Int × (List Int) × Int × (List Int) × (List (Int × Int × List Int)) × (List Int) × Int × Int) := tOf laws_markSink_3ad.mk (vlim E 11 (laws_markSink_3ad.c v0 v1 v2 v3 v4 v5 v6 v7))
def laws_markIntS_83f.c (v0 : List Int) (v1 : Int) : List Cell := ⟨(.val .one), [.d .deep (.sl (.int .i64)) v0], true, false, false, 0, 0⟩ :: vc (iL v1) :: []
def laws_markIntS_83f.mk (b : Int × (List Int)) : R := (⟨.one, [iL b.1]⟩, ⟨(.val .one), [.d .deep (.sl (.int .i64)) b.2], true, false, false, 0, 0⟩ :: nn 1 ([]))
def laws_markIntS_83f.un (r : R) : Int × (List Int) := ((leafR r 0).dat (.int .i64), (leafF r 0 0).dat (.sl (.int .i64)))
noncomputable def laws_markIntS_83f (v0 : List Int) (v1 : Int) : Option (Int × (List Int)) := tOf laws_markIntS_83f.mk (vlim E 35 (laws_markIntS_83f.c v0 v1))
def xl00.c (v0 : List (Int × Int × List Int)) (v1 : Int) : List Cell := ⟨(.val .one), [.d .deep (.sl (.pair (.int .i64) (.pair (.int .i64) (.sl (.int .i64))))) v0], true, false, false, 0, 0⟩ :: vc (iL v1) :: []
def xl00.mk (b : Int × (List (Int × Int × List Int))) : R := (⟨.one, [iL b.1]⟩, ⟨(.val .one), [.d .deep (.sl (.pair (.int .i64) (.pair (.int .i64) (.sl (.int .i64))))) b.2], true, false, false, 0, 0⟩ :: nn 1 ([]))
def xl00.un (r : R) : Int × (List (Int × Int × List Int)) := ((leafR r 0).dat (.int .i64), (leafF r 0 0).dat (.sl (.pair (.int .i64) (.pair (.int .i64) (.sl (.int .i64))))))
noncomputable def xl00 (v0 : List (Int × Int × List Int)) (v1 : Int) : Option (Int × (List (Int × Int × List Int))) := tOf xl00.mk (vlim E 36 (xl00.c v0 v1))
def laws_heldSink.c (v0 : List Int) (v1 : Int) (v2 : List Int) (v3 : List (Int × Int × List Int)) (v4 : List Int) (v5 : Int) (v6 : Int) (v7 : Int) : List Cell := ac [.d .fro (.sl (.int .i64)) v0, iL v1, .d .fro (.sl (.int .i64)) v2, .d .fro (.sl (.pair (.int .i64) (.pair (.int .i64) (.sl (.int .i64))))) v3, .d .fro (.sl (.int .i64)) v4, iL v5, iL v6] :: vc (iL v7) :: []
def laws_heldSink.mk (b : Int) : R := (⟨.one, [iL b]⟩, nn 2 ([]))
def laws_heldSink.un (r : R) : Int := ((leafR r 0).dat (.int .i64))
noncomputable def laws_heldSink (v0 : List Int) (v1 : Int) (v2 : List Int) (v3 : List (Int × Int × List Int)) (v4 : List Int) (v5 : Int) (v6 : Int) (v7 : Int) : Option (Int) := tOf laws_heldSink.mk (vlim E 12 (laws_heldSink.c v0 v1 v2 v3 v4 v5 v6 v7))
def laws_heldIntS.c (v0 : List Int) (v1 : Int) : List Cell := vc (.d .fro (.sl (.int .i64)) v0) :: vc (iL v1) :: []
def laws_heldIntS.mk (b : Int) : R := (⟨.one, [iL b]⟩, nn 2 ([]))
def laws_heldIntS.un (r : R) : Int := ((leafR r 0).dat (.int .i64))
noncomputable def laws_heldIntS (v0 : List Int) (v1 : Int) : Option (Int) := tOf laws_heldIntS.mk (vlim E 37 (laws_heldIntS.c v0 v1))
def laws_heldPreparedS.c (v0 : List (Int × Int × List Int)) (v1 : Int) : List Cell := vc (.d .fro (.sl (.pair (.int .i64) (.pair (.int .i64) (.sl (.int .i64))))) v0) :: vc (iL v1) :: []
def laws_heldPreparedS.mk (b : Int) : R := (⟨.one, [iL b]⟩, nn 2 ([]))
def laws_heldPreparedS.un (r : R) : Int := ((leafR r 0).dat (.int .i64))
noncomputable def laws_heldPreparedS (v0 : List (Int × Int × List Int)) (v1 : Int) : Option (Int) := tOf laws_heldPreparedS.mk (vlim E 38 (laws_heldPreparedS.c v0 v1))
def xl02.c (v0 : List Int) (v1 : Int) (v2 : List Int) (v3 : List (Int × Int × List Int)) (v4 : List Int) (v5 : Int) (v6 : Int) : List Cell := ac [.d .fro (.sl (.int .i64)) v0, iL v1, .d .fro (.sl (.int .i64)) v2, .d .fro (.sl (.pair (.int .i64) (.pair (.int .i64) (.sl (.int .i64))))) v3, .d .fro (.sl (.int .i64)) v4, iL v5, iL v6] :: []
def xl02.mk (b : Bool) : R := (⟨.one, [bL b]⟩, nn 1 ([]))
def xl02.un (r : R) : Bool := ((leafR r 0).dat .bool)
noncomputable def xl02 (v0 : List Int) (v1 : Int) (v2 : List Int) (v3 : List (Int × Int × List Int)) (v4 : List Int) (v5 : Int) (v6 : Int) : Option (Bool) := tOf xl02.mk (vlim E 4 (xl02.c v0 v1 v2 v3 v4 v5 v6))
def spec_DrainSink.c (v0 : List Int) (v1 : Int) (v2 : List Int) (v3 : List (Int × Int × List Int)) (v4 : List Int) (v5 : Int) (v6 : Int) : List Cell := ac [.d .fro (.sl (.int .i64)) v0, iL v1, .d .fro (.sl (.int .i64)) v2, .d .fro (.sl (.pair (.int .i64) (.pair (.int .i64) (.sl (.int .i64))))) v3, .d .fro (.sl (.int .i64)) v4, iL v5, iL v6] :: []
def spec_DrainSink.mk (b : (List Int) × Int × (List Int) × (List (Int × Int × List Int)) × (List Int) × Int × Int × Int × Bool) : R := (⟨(.tup [some 7, none, none]), [.d .deep (.sl (.int .i64)) b.1, iL b.2.1, .d .deep (.sl (.int .i64)) b.2.2.1, .d .deep (.sl (.pair (.int .i64) (.pair (.int .i64) (.sl (.int .i64))))) b.2.2.2.1, .d .deep (.sl (.int .i64)) b.2.2.2.2.1, iL b.2.2.2.2.2.1, iL b.2.2.2.2.2.2.1, iL b.2.2.2.2.2.2.2.1, bL b.2.2.2.2.2.2.2.2]⟩, nn 1 ([]))
def spec_DrainSink.un (r : R) : (List Int) × Int × (List Int) × (List (Int × Int × List Int)) × (List Int) × Int × Int × Int × Bool := ((leafR r 0).dat (.sl (.int .i64)), (leafR r 1).dat (.int .i64), (leafR r 2).dat (.sl (.int .i64)), (leafR r 3).dat (.sl (.pair (.int .i64) (.pair (.int .i64) (.sl (.int .i64))))), (leafR r 4).dat (.sl (.int .i64)), (leafR r 5).dat (.int .i64), (leafR r 6).dat (.int .i64), (leafR r 7).dat (.int .i64), (leafR r 8).dat .bool)
noncomputable def spec_DrainSink (v0 : List Int) (v1 : Int) (v2 : List Int) (v3 : List (Int × Int × List Int)) (v4 : List Int) (v5 : Int) (v6 : Int) : Option ((List Int) × Int × (List Int) × (List (Int × Int × List Int)) × (List Int) × Int × Int × Int × Bool) := tOf spec_DrainSink.mk (vlim E 13 (spec_DrainSink.c v0 v1 v2 v3 v4 v5 v6))
def impl_DrainSink.c (v0 : List Int) (v1 : Int) (v2 : List Int) (v3 : List (Int × Int × List Int)) (v4 : List Int) (v5 : Int) (v6 : Int) : List Cell := ac [.d .fro (.sl (.int .i64)) v0, iL v1, .d .fro (.sl (.int .i64)) v2, .d .fro (.sl (.pair (.int .i64) (.pair (.int .i64) (.sl (.int .i64))))) v3, .d .fro (.sl (.int .i64)) v4, iL v5, iL v6] :: []
def impl_DrainSink.mk (b : (List Int) × Int × (List Int) × (List (Int × Int × List Int)) × (List Int) × Int × Int × Int × Bool) : R := (⟨(.tup [some 7, none, none]), [.d .deep (.sl (.int .i64)) b.1, iL b.2.1, .d .deep (.sl (.int .i64)) b.2.2.1, .d .deep (.sl (.pair (.int .i64) (.pair (.int .i64) (.sl (.int .i64))))) b.2.2.2.1, .d .deep (.sl (.int .i64)) b.2.2.2.2.1, iL b.2.2.2.2.2.1, iL b.2.2.2.2.2.2.1, iL b.2.2.2.2.2.2.2.1, bL b.2.2.2.2.2.2.2.2]⟩, nn 1 ([]))
def impl_DrainSink.un (r : R) : (List Int) × Int × (List Int) × (List (Int × Int × List Int)) × (List Int) × Int × Int × Int × Bool := ((leafR r 0).dat (.sl (.int .i64)), (leafR r 1).dat (.int .i64), (leafR r 2).dat (.sl (.int .i64)), (leafR r 3).dat (.sl (.pair (.int .i64) (.pair (.int .i64) (.sl (.int .i64))))), (leafR r 4).dat (.sl (.int .i64)), (leafR r 5).dat (.int .i64), (leafR r 6).dat (.int .i64), (leafR r 7).dat (.int .i64), (leafR r 8).dat .bool)
noncomputable def impl_DrainSink (v0 : List Int) (v1 : Int) (v2 : List Int) (v3 : List (Int × Int × List Int)) (v4 : List Int) (v5 : Int) (v6 : Int) : Option ((List Int) × Int × (List Int) × (List (Int × Int × List Int)) × (List Int) × Int × Int × Int × Bool) := tOf impl_DrainSink.mk (vlim E 14 (impl_DrainSink.c v0 v1 v2 v3 v4 v5 v6))
def tabT : List (Nat × List (List Cell × Tb)) := [
 (4, [(xl02.c [] 0 [] [] [] 0 0, .one (Bool) xl02.mk)]),
 (6, [(laws_szSink.c [] 0 [] [] [] 0 0 0, .one (Int) laws_szSink.mk)]),
 (8, [(laws_toSink.c [] 0 [] [] [] 0 0, .one ((List Int) × Int × (List Int) × (List (Int × Int × List Int)) × (List Int) × Int × Int) laws_toSink.mk)]),
 (10, [(laws_eqSink.c [] 0 [] [] [] 0 0 [] 0 [] [] [] 0 0, .one (Bool) laws_eqSink.mk)]),
 (11, [(laws_markSink_3ad.c [] 0 [] [] [] 0 0 0, .one (Int × (List Int) × Int × (List Int) × (List (Int × Int × List Int)) × (List Int) × Int × Int) laws_markSink_3ad.mk)]),
 (12, [(laws_heldSink.c [] 0 [] [] [] 0 0 0, .one (Int) laws_heldSink.mk)]),
 (13, [(spec_DrainSink.c [] 0 [] [] [] 0 0, .one ((List Int) × Int × (List Int) × (List (Int × Int × List Int)) × (List Int) × Int × Int × Int × Bool) spec_DrainSink.mk)]),
 (14, [(impl_DrainSink.c [] 0 [] [] [] 0 0, .one ((List Int) × Int × (List Int) × (List (Int × Int × List Int)) × (List Int) × Int × Int × Int × Bool) impl_DrainSink.mk)]),
 (19, [(impl_GoodSink.c [] 0 [] [] [] 0 0, .one (Bool) impl_GoodSink.mk)]),
 (20, [(spec_GoodSink.c [] 0 [] [] [] 0 0, .one (Bool) spec_GoodSink.mk)]),
 (23, [(laws_szIntS.c [] 0, .one (Int) laws_szIntS.mk)]),
 (24, [(laws_szPreparedS.c [] 0, .one (Int) laws_szPreparedS.mk)]),
 (25, [(spec_l16Commit_5b7.c [] 0 [] [] [] 0 0, .one ((List Int) × Int × (List Int) × (List (Int × Int × List Int)) × (List Int) × Int × Int × Int) spec_l16Commit_5b7.mk)]),
 (26, [(spec_l16Crash_5b7.c [] 0 [] [] [] 0 0, .one ((List Int) × Int × (List Int) × (List (Int × Int × List Int)) × (List Int) × Int × Int) spec_l16Crash_5b7.mk)]),
 (27, [(spec_l16Own.c [] 0 [] [] [] 0 0, .one ((List Int) × Int × (List Int) × (List (Int × Int × List Int)) × (List Int) × Int × Int) spec_l16Own.mk)]),
 (28, [(laws_toIntS.c [], .one ((List Int)) laws_toIntS.mk)]),
 (29, [(laws_toPreparedS.c [], .one ((List (Int × Int × List Int))) laws_toPreparedS.mk)]),
 (30, [(impl_Sink_own.c [] 0 [] [] [] 0 0, .one ((List Int) × Int × (List Int) × (List (Int × Int × List Int)) × (List Int) × Int × Int) impl_Sink_own.mk)]),
 (31, [(xi06.c [] 0 [] [] [] 0 0, .one (Bool × (List Int) × Int × (List Int) × (List (Int × Int × List Int)) × (List Int) × Int × Int) xi06.mk)]),
 (32, [(xi07.c [] 0 [] [] [] 0 0 0, .one (Int × (List Int) × Int × (List Int) × (List (Int × Int × List Int)) × (List Int) × Int × Int) xi07.mk)]),
 (33, [(laws_eqIntS.c [] [], .one (Bool) laws_eqIntS.mk)]),
 (34, [(laws_eqPreparedS.c [] [], .one (Bool) laws_eqPreparedS.mk)]),
 (35, [(laws_markIntS_83f.c [] 0, .one (Int × (List Int)) laws_markIntS_83f.mk)]),
 (36, [(xl00.c [] 0, .one (Int × (List (Int × Int × List Int))) xl00.mk)]),
 (37, [(laws_heldIntS.c [] 0, .one (Int) laws_heldIntS.mk)]),
 (38, [(laws_heldPreparedS.c [] 0, .one (Int) laws_heldPreparedS.mk)]),
 (39, [(spec_l16Step_3ad.c [] 0 [] [] [] 0 0 0, ⟨(Int × Int × Int × Bool × (List Int) × Int × (List Int) × (List (Int × Int × List Int)) × (List Int) × Int × Int) ⊕ ((List Int) × Int × (List Int) × (List (Int × Int × List Int)) × (List Int) × Int × Int × Bool × Int × Int × Int), Sum.isLeft, spec_l16Step_3ad.f, spec_l16Step_3ad.g⟩)]),
 (40, [(xi01.c [] 0 [] [] [] 0 0, .one (Bool × (List Int) × Int × (List Int) × (List (Int × Int × List Int)) × (List Int) × Int × Int) xi01.mk)]),
 (43, [(impl_Sink_step_1e4.c [] 0 [] [] [] 0 0 0, .one (Bool × (List Int) × Int × (List Int) × (List (Int × Int × List Int)) × (List Int) × Int × Int) impl_Sink_step_1e4.mk)]),
 (44, [(impl_within.c 0 0 0, .one (Bool) impl_within.mk)]),
 (45, [(xs05.c [] [], .one (Bool) xs05.mk)]),
 (46, [(spec_l1In.c 0 0 0, .one (Bool) spec_l1In.mk)]),
 (47, [(spec_l16Same.c [] [], .one (Bool) spec_l16Same.mk)]),
 (49, [(laws_szPrepared.c 0 0 [] 0, .one (Int) laws_szPrepared.mk)]),
 (50, [(spec_l16From.c [] 0 [] [] [] 0 0, .one (Int) spec_l16From.mk)]),
 (51, [(laws_toPrepared.c 0 0 [], .one (Int × Int × (List Int)) laws_toPrepared.mk)]),
 (52, [(xs04.c [], .one ((List Int)) xs04.mk)]),
 (53, [(impl_Sink_stored.c [] 0 [] [] [] 0 0, .one (Int) impl_Sink_stored.mk)]),
 (54, [(laws_eqPrepared.c 0 0 [] 0 0 [], .one (Bool) laws_eqPrepared.mk)]),
 (61, [(impl_Sink_read_dfc.c [] 0 [] [] [] 0 0, .one (Bool × (List Int) × Int × (List Int) × (List (Int × Int × List Int)) × (List Int) × Int × Int) impl_Sink_read_dfc.mk)]),
 (62, [(xi03.c [] 0 [] [] [] 0 0, .one (Bool × (List Int) × Int × (List Int) × (List (Int × Int × List Int)) × (List Int) × Int × Int) xi03.mk)])]
def tab : FuncId → List Cell → Tb := fun g cs => match assoc tabT g with | some l => pickT l cs | none => .no
end GoV

/- Equations of the program's functions (printed by wip/tools/emit.py). -/
namespace GoV
open Go Go.Proofs
set_option maxRecDepth 100000

noncomputable def laws_szSink.t {γ : Type} (ret : (Int) → Option γ) (v0 : List Int) (v1 : Int) (v2 : List Int) (v3 : List (Int × Int × List Int)) (v4 : List Int) (v5 : Int) (v6 : Int) (v7 : Int) : Option γ :=
 (laws_szIntS (v0) (v7)).bind fun (r0 : Int) =>
 bif decide (r0 < (0 : Int)) then
  ret ((-1 : Int))
 else
  (laws_szIntS (v2) (r0)).bind fun (r1 : Int) =>
  bif decide (r1 < (0 : Int)) then
   ret ((-1 : Int))
  else
   (laws_szPreparedS (v3) (r1)).bind fun (r2 : Int) =>
   bif decide (r2 < (0 : Int)) then
    ret ((-1 : Int))
   else
    (laws_szIntS (v4) (r2)).bind fun (r3 : Int) =>
    bif decide (r3 < (0 : Int)) then
     ret ((-1 : Int))
    else
     ret (r3)
theorem laws_szSink.k (v0 : List Int) (v1 : Int) (v2 : List Int) (v3 : List (Int × Int × List Int)) (v4 : List Int) (v5 : Int) (v6 : Int) (v7 : Int) : topL E (callT E tab) 6 Try.f6 (laws_szSink.c v0 v1 v2 v3 v4 v5 v6 v7) = laws_szSink.t (fun b => some (laws_szSink.mk b)) v0 v1 v2 v3 v4 v5 v6 v7 := by kernel_rfl
theorem laws_szSink.eq (v0 : List Int) (v1 : Int) (v2 : List Int) (v3 : List (Int × Int × List Int)) (v4 : List Int) (v5 : Int) (v6 : Int) (v7 : Int) {b : Int} (h : laws_szSink.t some v0 v1 v2 v3 v4 v5 v6 v7 = some b) : laws_szSink v0 v1 v2 v3 v4 v5 v6 v7 = some b := tOf_intro laws_szSink.un (fun _ => by kernel_rfl) (vlim_fn (callT_le E tab) rfl rfl rfl ((laws_szSink.k v0 v1 v2 v3 v4 v5 v6 v7).trans ((by unfold laws_szSink.t; repeat' first | exact Sub.ret | exact Sub.none | exact Sub.loop | apply Sub.cond | (apply Sub.bind; intro _) : Sub laws_szSink.mk _ _) b h)))
noncomputable def laws_szIntS.t {γ : Type} (ret : (Int) → Option γ) (v0 : List Int) (v1 : Int) : Option γ :=
 bif decide (IntKind.i64.wrap (v1 - (↑v0.length : Int)) < (0 : Int)) then
  ret ((-1 : Int))
 else
  ret (IntKind.i64.wrap (v1 - (↑v0.length : Int)))
theorem laws_szIntS.k (v0 : List Int) (v1 : Int) : topL E (callT E tab) 23 Try.f23 (laws_szIntS.c v0 v1) = laws_szIntS.t (fun b => some (laws_szIntS.mk b)) v0 v1 := by kernel_rfl
theorem laws_szIntS.eq (v0 : List Int) (v1 : Int) {b : Int} (h : laws_szIntS.t some v0 v1 = some b) : laws_szIntS v0 v1 = some b := tOf_intro laws_szIntS.un (fun _ => by kernel_rfl) (vlim_fn (callT_le E tab) rfl rfl rfl ((laws_szIntS.k v0 v1).trans ((by unfold laws_szIntS.t; repeat' first | exact Sub.ret | exact Sub.none | exact Sub.loop | apply Sub.cond | (apply Sub.bind; intro _) : Sub laws_szIntS.mk _ _) b h)))
noncomputable def laws_szPreparedS.q5 (v0 : List (Int × Int × List Int)) (v1 : Int) (v2 : Int) : Option R := loopAtL E (callT E tab) 24 Try.f24 2 [.r, .r, .r, .l, .r, .b] (vc (.d .fro (.sl (.pair (.int .i64) (.pair (.int .i64) (.sl (.int .i64))))) v0) :: vc (iL v1) :: nn 3 (vc (iL v2) :: nn 21 ([])))
noncomputable def laws_szPreparedS.l5 (v0 : List (Int × Int × List Int)) (v1 : Int) (v2 : Int) : Option (Int) := tOf laws_szPreparedS.mk (laws_szPreparedS.q5 v0 v1 v2)
noncomputable def laws_szPreparedS.t {γ : Type} (ret : (Int) → Option γ) (lp5 : (List (Int × Int × List Int)) → Int → Int → Option γ) (v0 : List (Int × Int × List Int)) (v1 : Int) : Option γ :=
 bif decide (IntKind.i64.wrap (v1 - (↑v0.length : Int)) < (0 : Int)) then
  ret ((-1 : Int))
 else
  lp5 (v0) (IntKind.i64.wrap (v1 - (↑v0.length : Int))) ((0 : Int))
noncomputable def laws_szPreparedS.t5 {γ : Type} (ret : (Int) → Option γ) (lp5 : (List (Int × Int × List Int)) → Int → Int → Option γ) (v0 : List (Int × Int × List Int)) (v1 : Int) (v2 : Int) : Option γ :=
 bif decide (v2 < (↑v0.length : Int)) then
  bif decide ((0 : Int) ≤ v2) then
   bif decide (v2.toNat < v0.length) then
    (laws_szPrepared ((v0.getD v2.toNat ((0 : Int), (0 : Int), [])).fst) ((v0.getD v2.toNat ((0 : Int), (0 : Int), [])).snd.fst) ((v0.getD v2.toNat ((0 : Int), (0 : Int), [])).snd.snd) (v1)).bind fun (r0 : Int) =>
    bif decide (r0 < (0 : Int)) then
     ret ((-1 : Int))
    else
     lp5 (v0) (r0) (IntKind.i64.wrap (v2 + (1 : Int)))
   else
    none
  else
   none
 else
  ret (v1)
theorem laws_szPreparedS.k (v0 : List (Int × Int × List Int)) (v1 : Int) : topL E (callT E tab) 24 Try.f24 (laws_szPreparedS.c v0 v1) = laws_szPreparedS.t (fun b => some (laws_szPreparedS.mk b)) laws_szPreparedS.q5 v0 v1 := by kernel_rfl
theorem laws_szPreparedS.k5 (v0 : List (Int × Int × List Int)) (v1 : Int) (v2 : Int) : roundL E (callT E tab) 24 Try.f24 2 [.r, .r, .r, .l, .r, .b] (vc (.d .fro (.sl (.pair (.int .i64) (.pair (.int .i64) (.sl (.int .i64))))) v0) :: vc (iL v1) :: nn 3 (vc (iL v2) :: nn 21 ([]))) = laws_szPreparedS.t5 (fun b => some (laws_szPreparedS.mk b)) laws_szPreparedS.q5 v0 v1 v2 := by kernel_rfl
theorem laws_szPreparedS.eq (v0 : List (Int × Int × List Int)) (v1 : Int) {b : Int} (h : laws_szPreparedS.t some laws_szPreparedS.l5 v0 v1 = some b) : laws_szPreparedS v0 v1 = some b := tOf_intro laws_szPreparedS.un (fun _ => by kernel_rfl) (vlim_fn (callT_le E tab) rfl rfl rfl ((laws_szPreparedS.k v0 v1).trans ((by unfold laws_szPreparedS.t; repeat' first | exact Sub.ret | exact Sub.none | exact Sub.loop | apply Sub.cond | (apply Sub.bind; intro _) : Sub laws_szPreparedS.mk _ _) b h)))
theorem laws_szPreparedS.eq5 (v0 : List (Int × Int × List Int)) (v1 : Int) (v2 : Int) {b : Int} (h : laws_szPreparedS.t5 some laws_szPreparedS.l5 v0 v1 v2 = some b) : laws_szPreparedS.l5 v0 v1 v2 = some b := tOf_intro laws_szPreparedS.un (fun _ => by kernel_rfl) (loopAtL_step ((laws_szPreparedS.k5 v0 v1 v2).trans ((by unfold laws_szPreparedS.t5; repeat' first | exact Sub.ret | exact Sub.none | exact Sub.loop | apply Sub.cond | (apply Sub.bind; intro _) : Sub laws_szPreparedS.mk _ _) b h)))
noncomputable def laws_szPrepared.t {γ : Type} (ret : (Int) → Option γ) (v0 : Int) (v1 : Int) (v2 : List Int) (v3 : Int) : Option γ :=
 (laws_szIntS (v2) (v3)).bind fun (r0 : Int) =>
 bif decide (r0 < (0 : Int)) then
  ret ((-1 : Int))
 else
  ret (r0)
theorem laws_szPrepared.k (v0 : Int) (v1 : Int) (v2 : List Int) (v3 : Int) : topL E (callT E tab) 49 Try.f49 (laws_szPrepared.c v0 v1 v2 v3) = laws_szPrepared.t (fun b => some (laws_szPrepared.mk b)) v0 v1 v2 v3 := by kernel_rfl
theorem laws_szPrepared.eq (v0 : Int) (v1 : Int) (v2 : List Int) (v3 : Int) {b : Int} (h : laws_szPrepared.t some v0 v1 v2 v3 = some b) : laws_szPrepared v0 v1 v2 v3 = some b := tOf_intro laws_szPrepared.un (fun _ => by kernel_rfl) (vlim_fn (callT_le E tab) rfl rfl rfl ((laws_szPrepared.k v0 v1 v2 v3).trans ((by unfold laws_szPrepared.t; repeat' first | exact Sub.ret | exact Sub.none | exact Sub.loop | apply Sub.cond | (apply Sub.bind; intro _) : Sub laws_szPrepared.mk _ _) b h)))
noncomputable def laws_toSink.t {γ : Type} (ret : ((List Int) × Int × (List Int) × (List (Int × Int × List Int)) × (List Int) × Int × Int) → Option γ) (v0 : List Int) (v1 : Int) (v2 : List Int) (v3 : List (Int × Int × List Int)) (v4 : List Int) (v5 : Int) (v6 : Int) : Option γ :=
 (laws_toIntS (v0)).bind fun (r0 : (List Int)) =>
 (laws_toIntS (v2)).bind fun (r1 : (List Int)) =>
 (laws_toPreparedS (v3)).bind fun (r2 : (List (Int × Int × List Int))) =>
 (laws_toIntS (v4)).bind fun (r3 : (List Int)) =>
 ret (r0, v1, r1, r2, r3, v5, v6)
theorem laws_toSink.k (v0 : List Int) (v1 : Int) (v2 : List Int) (v3 : List (Int × Int × List Int)) (v4 : List Int) (v5 : Int) (v6 : Int) : topL E (callT E tab) 8 Try.f8 (laws_toSink.c v0 v1 v2 v3 v4 v5 v6) = laws_toSink.t (fun b => some (laws_toSink.mk b)) v0 v1 v2 v3 v4 v5 v6 := by kernel_rfl
theorem laws_toSink.eq (v0 : List Int) (v1 : Int) (v2 : List Int) (v3 : List (Int × Int × List Int)) (v4 : List Int) (v5 : Int) (v6 : Int) {b : (List Int) × Int × (List Int) × (List (Int × Int × List Int)) × (List Int) × Int × Int} (h : laws_toSink.t some v0 v1 v2 v3 v4 v5 v6 = some b) : laws_toSink v0 v1 v2 v3 v4 v5 v6 = some b := tOf_intro laws_toSink.un (fun _ => by kernel_rfl) (vlim_fn (callT_le E tab) rfl rfl rfl ((laws_toSink.k v0 v1 v2 v3 v4 v5 v6).trans ((by unfold laws_toSink.t; repeat' first | exact Sub.ret | exact Sub.none | exact Sub.loop | apply Sub.cond | (apply Sub.bind; intro _) : Sub laws_toSink.mk _ _) b h)))
noncomputable def laws_toIntS.q3 (v0 : List Int) (v1 : List Int) (v2 : Int) : Option R := loopAtL E (callT E tab) 28 Try.f28 1 [.r, .r, .l, .r, .b] (vc (.d .fro (.sl (.int .i64)) v0) :: nn 2 (vc (.d .deep (.sl (.int .i64)) v1) :: vc (iL v2) :: nn 17 ([])))
noncomputable def laws_toIntS.l3 (v0 : List Int) (v1 : List Int) (v2 : Int) : Option ((List Int)) := tOf laws_toIntS.mk (laws_toIntS.q3 v0 v1 v2)
noncomputable def laws_toIntS.t {γ : Type} (ret : ((List Int)) → Option γ) (lp3 : (List Int) → (List Int) → Int → Option γ) (v0 : List Int) : Option γ :=
 bif decide ((↑v0.length : Int) = (↑v0.length : Int)) then
  bif decide ((↑v0.length : Int) ≤ (↑(4294967296 : Nat) : Int)) then
   lp3 (v0) (List.replicate (↑v0.length : Int).toNat (0 : Int)) ((0 : Int))
  else
   none
 else
  none
noncomputable def laws_toIntS.t3 {γ : Type} (ret : ((List Int)) → Option γ) (lp3 : (List Int) → (List Int) → Int → Option γ) (v0 : List Int) (v1 : List Int) (v2 : Int) : Option γ :=
 bif decide (v2 < (↑v0.length : Int)) then
  bif decide ((0 : Int) ≤ v2) then
   bif decide (v2.toNat < v0.length) then
    bif decide ((0 : Int) ≤ v2) then
     bif decide (v2.toNat < v1.length) then
      bif decide (v2.toNat < v1.length) then
       lp3 (v0) (v1.set v2.toNat (v0.getD v2.toNat (0 : Int))) (IntKind.i64.wrap (v2 + (1 : Int)))
      else
       none
     else
      none
    else
     none
   else
    none
  else
   none
 else
  ret (v1)
theorem laws_toIntS.k (v0 : List Int) : topL E (callT E tab) 28 Try.f28 (laws_toIntS.c v0) = laws_toIntS.t (fun b => some (laws_toIntS.mk b)) laws_toIntS.q3 v0 := by kernel_rfl
theorem laws_toIntS.k3 (v0 : List Int) (v1 : List Int) (v2 : Int) : roundL E (callT E tab) 28 Try.f28 1 [.r, .r, .l, .r, .b] (vc (.d .fro (.sl (.int .i64)) v0) :: nn 2 (vc (.d .deep (.sl (.int .i64)) v1) :: vc (iL v2) :: nn 17 ([]))) = laws_toIntS.t3 (fun b => some (laws_toIntS.mk b)) laws_toIntS.q3 v0 v1 v2 := by kernel_rfl
theorem laws_toIntS.eq (v0 : List Int) {b : (List Int)} (h : laws_toIntS.t some laws_toIntS.l3 v0 = some b) : laws_toIntS v0 = some b := tOf_intro laws_toIntS.un (fun _ => by kernel_rfl) (vlim_fn (callT_le E tab) rfl rfl rfl ((laws_toIntS.k v0).trans ((by unfold laws_toIntS.t; repeat' first | exact Sub.ret | exact Sub.none | exact Sub.loop | apply Sub.cond | (apply Sub.bind; intro _) : Sub laws_toIntS.mk _ _) b h)))
theorem laws_toIntS.eq3 (v0 : List Int) (v1 : List Int) (v2 : Int) {b : (List Int)} (h : laws_toIntS.t3 some laws_toIntS.l3 v0 v1 v2 = some b) : laws_toIntS.l3 v0 v1 v2 = some b := tOf_intro laws_toIntS.un (fun _ => by kernel_rfl) (loopAtL_step ((laws_toIntS.k3 v0 v1 v2).trans ((by unfold laws_toIntS.t3; repeat' first | exact Sub.ret | exact Sub.none | exact Sub.loop | apply Sub.cond | (apply Sub.bind; intro _) : Sub laws_toIntS.mk _ _) b h)))
noncomputable def laws_toPreparedS.q3 (v0 : List (Int × Int × List Int)) (v1 : List (Int × Int × List Int)) (v2 : Int) : Option R := loopAtL E (callT E tab) 29 Try.f29 1 [.r, .r, .l, .r, .b] (vc (.d .fro (.sl (.pair (.int .i64) (.pair (.int .i64) (.sl (.int .i64))))) v0) :: nn 2 (vc (.d .deep (.sl (.pair (.int .i64) (.pair (.int .i64) (.sl (.int .i64))))) v1) :: vc (iL v2) :: nn 18 ([])))
noncomputable def laws_toPreparedS.l3 (v0 : List (Int × Int × List Int)) (v1 : List (Int × Int × List Int)) (v2 : Int) : Option ((List (Int × Int × List Int))) := tOf laws_toPreparedS.mk (laws_toPreparedS.q3 v0 v1 v2)
noncomputable def laws_toPreparedS.t {γ : Type} (ret : ((List (Int × Int × List Int))) → Option γ) (lp3 : (List (Int × Int × List Int)) → (List (Int × Int × List Int)) → Int → Option γ) (v0 : List (Int × Int × List Int)) : Option γ :=
 bif decide ((↑v0.length : Int) = (↑v0.length : Int)) then
  bif decide ((↑v0.length : Int) ≤ (↑(4294967296 : Nat) : Int)) then
   lp3 (v0) (List.replicate (↑v0.length : Int).toNat ((0 : Int), (0 : Int), [])) ((0 : Int))
  else
   none
 else
  none
noncomputable def laws_toPreparedS.t3 {γ : Type} (ret : ((List (Int × Int × List Int))) → Option γ) (lp3 : (List (Int × Int × List Int)) → (List (Int × Int × List Int)) → Int → Option γ) (v0 : List (Int × Int × List Int)) (v1 : List (Int × Int × List Int)) (v2 : Int) : Option γ :=
 bif decide (v2 < (↑v0.length : Int)) then
  bif decide ((0 : Int) ≤ v2) then
   bif decide (v2.toNat < v0.length) then
    (laws_toPrepared ((v0.getD v2.toNat ((0 : Int), (0 : Int), [])).fst) ((v0.getD v2.toNat ((0 : Int), (0 : Int), [])).snd.fst) ((v0.getD v2.toNat ((0 : Int), (0 : Int), [])).snd.snd)).bind fun (r0 : Int × Int × (List Int)) =>
    bif decide ((0 : Int) ≤ v2) then
     bif decide (v2.toNat < v1.length) then
      bif decide (v2.toNat < v1.length) then
       lp3 (v0) (v1.set v2.toNat (r0.fst, r0.snd.fst, r0.snd.snd)) (IntKind.i64.wrap (v2 + (1 : Int)))
      else
       none
     else
      none
    else
     none
   else
    none
  else
   none
 else
  ret (v1)
theorem laws_toPreparedS.k (v0 : List (Int × Int × List Int)) : topL E (callT E tab) 29 Try.f29 (laws_toPreparedS.c v0) = laws_toPreparedS.t (fun b => some (laws_toPreparedS.mk b)) laws_toPreparedS.q3 v0 := by kernel_rfl
theorem laws_toPreparedS.k3 (v0 : List (Int × Int × List Int)) (v1 : List (Int × Int × List Int)) (v2 : Int) : roundL E (callT E tab) 29 Try.f29 1 [.r, .r, .l, .r, .b] (vc (.d .fro (.sl (.pair (.int .i64) (.pair (.int .i64) (.sl (.int .i64))))) v0) :: nn 2 (vc (.d .deep (.sl (.pair (.int .i64) (.pair (.int .i64) (.sl (.int .i64))))) v1) :: vc (iL v2) :: nn 18 ([]))) = laws_toPreparedS.t3 (fun b => some (laws_toPreparedS.mk b)) laws_toPreparedS.q3 v0 v1 v2 := by kernel_rfl
theorem laws_toPreparedS.eq (v0 : List (Int × Int × List Int)) {b : (List (Int × Int × List Int))} (h : laws_toPreparedS.t some laws_toPreparedS.l3 v0 = some b) : laws_toPreparedS v0 = some b := tOf_intro laws_toPreparedS.un (fun _ => by kernel_rfl) (vlim_fn (callT_le E tab) rfl rfl rfl ((laws_toPreparedS.k v0).trans ((by unfold laws_toPreparedS.t; repeat' first | exact Sub.ret | exact Sub.none | exact Sub.loop | apply Sub.cond | (apply Sub.bind; intro _) : Sub laws_toPreparedS.mk _ _) b h)))
theorem laws_toPreparedS.eq3 (v0 : List (Int × Int × List Int)) (v1 : List (Int × Int × List Int)) (v2 : Int) {b : (List (Int × Int × List Int))} (h : laws_toPreparedS.t3 some laws_toPreparedS.l3 v0 v1 v2 = some b) : laws_toPreparedS.l3 v0 v1 v2 = some b := tOf_intro laws_toPreparedS.un (fun _ => by kernel_rfl) (loopAtL_step ((laws_toPreparedS.k3 v0 v1 v2).trans ((by unfold laws_toPreparedS.t3; repeat' first | exact Sub.ret | exact Sub.none | exact Sub.loop | apply Sub.cond | (apply Sub.bind; intro _) : Sub laws_toPreparedS.mk _ _) b h)))
noncomputable def laws_toPrepared.t {γ : Type} (ret : (Int × Int × (List Int)) → Option γ) (v0 : Int) (v1 : Int) (v2 : List Int) : Option γ :=
 (laws_toIntS (v2)).bind fun (r0 : (List Int)) =>
 ret (v0, v1, r0)
theorem laws_toPrepared.k (v0 : Int) (v1 : Int) (v2 : List Int) : topL E (callT E tab) 51 Try.f51 (laws_toPrepared.c v0 v1 v2) = laws_toPrepared.t (fun b => some (laws_toPrepared.mk b)) v0 v1 v2 := by kernel_rfl
theorem laws_toPrepared.eq (v0 : Int) (v1 : Int) (v2 : List Int) {b : Int × Int × (List Int)} (h : laws_toPrepared.t some v0 v1 v2 = some b) : laws_toPrepared v0 v1 v2 = some b := tOf_intro laws_toPrepared.un (fun _ => by kernel_rfl) (vlim_fn (callT_le E tab) rfl rfl rfl ((laws_toPrepared.k v0 v1 v2).trans ((by unfold laws_toPrepared.t; repeat' first | exact Sub.ret | exact Sub.none | exact Sub.loop | apply Sub.cond | (apply Sub.bind; intro _) : Sub laws_toPrepared.mk _ _) b h)))
noncomputable def spec_GoodSink.q6 (v0 : List Int) (v1 : Int) (v2 : List Int) (v3 : List (Int × Int × List Int)) (v4 : List Int) (v5 : Int) (v6 : Int) (v7 : Int) (v8 : Int) (v9 : List (Int × Int × List Int)) (v10 : Int) (v11 : Int) : Option R := loopAtL E (callT E tab) 20 Try.f20 1 [.r, .r, .r, .r, .l, .r, .b] (nn 1 (⟨(.box false), [.d .fro (.sl (.int .i64)) v0, iL v1, .d .fro (.sl (.int .i64)) v2, .d .fro (.sl (.pair (.int .i64) (.pair (.int .i64) (.sl (.int .i64))))) v3, .d .fro (.sl (.int .i64)) v4, iL v5, iL v6], false, false, false, 0, 0⟩ :: nn 1 (vc (iL v7) :: vc (iL v8) :: nn 40 (vc (.d .fro (.sl (.pair (.int .i64) (.pair (.int .i64) (.sl (.int .i64))))) v9) :: vc (iL v10) :: vc (iL v11) :: nn 58 ([])))))
noncomputable def spec_GoodSink.l6 (v0 : List Int) (v1 : Int) (v2 : List Int) (v3 : List (Int × Int × List Int)) (v4 : List Int) (v5 : Int) (v6 : Int) (v7 : Int) (v8 : Int) (v9 : List (Int × Int × List Int)) (v10 : Int) (v11 : Int) : Option (Bool) := tOf spec_GoodSink.mk (spec_GoodSink.q6 v0 v1 v2 v3 v4 v5 v6 v7 v8 v9 v10 v11)
noncomputable def spec_GoodSink.t {γ : Type} (ret : (Bool) → Option γ) (lp6 : (List Int) → Int → (List Int) → (List (Int × Int × List Int)) → (List Int) → Int → Int → Int → Int → (List (Int × Int × List Int)) → Int → Int → Option γ) (v0 : List Int) (v1 : Int) (v2 : List Int) (v3 : List (Int × Int × List Int)) (v4 : List Int) (v5 : Int) (v6 : Int) : Option γ :=
 bif decide ((↑v0.length : Int) > (30 : Int)) then
  ret (Bool.false)
 else
  (spec_l1In (v1) ((0 : Int)) ((↑v0.length : Int))).bind fun (r0 : Bool) =>
  bif !r0 then
   ret (Bool.false)
  else
   (spec_l1In (v6) ((0 : Int)) (v1)).bind fun (r1 : Bool) =>
   bif !r1 then
    ret (Bool.false)
   else
    (spec_l1In (v5) ((0 : Int)) ((1000 : Int))).bind fun (r2 : Bool) =>
    bif !r2 then
     ret (Bool.false)
    else
     bif decide ((↑v3.length : Int) > (4 : Int)) then
      ret (Bool.false)
     else
      lp6 (v0) (v1) (v2) (v3) (v4) (v5) (v6) (v6) (v5) (v3) ((↑v3.length : Int)) ((0 : Int))
noncomputable def spec_GoodSink.t6 {γ : Type} (ret : (Bool) → Option γ) (lp6 : (List Int) → Int → (List Int) → (List (Int × Int × List Int)) → (List Int) → Int → Int → Int → Int → (List (Int × Int × List Int)) → Int → Int → Option γ) (v0 : List Int) (v1 : Int) (v2 : List Int) (v3 : List (Int × Int × List Int)) (v4 : List Int) (v5 : Int) (v6 : Int) (v7 : Int) (v8 : Int) (v9 : List (Int × Int × List Int)) (v10 : Int) (v11 : Int) : Option γ :=
 bif decide (v11 < v10) then
  bif decide ((0 : Int) ≤ v11) then
   bif decide (v11.toNat < v9.length) then
    bif (v9.getD v11.toNat ((0 : Int), (0 : Int), [])).fst != IntKind.i64.wrap (v8 + (1 : Int)) then
     ret (Bool.false)
    else
     (spec_l1In ((v9.getD v11.toNat ((0 : Int), (0 : Int), [])).snd.fst) (v7) (v1)).bind fun (r3 : Bool) =>
     bif !r3 then
      ret (Bool.false)
     else
      bif decide ((0 : Int) ≤ (Option.some v7).getD (0 : Int)) then
       bif decide ((Option.some v7).getD (0 : Int) ≤ (v9.getD v11.toNat ((0 : Int), (0 : Int), [])).snd.fst) then
        bif decide ((v9.getD v11.toNat ((0 : Int), (0 : Int), [])).snd.fst ≤ (↑v0.length : Int)) then
         (spec_l16Same ((v9.getD v11.toNat ((0 : Int), (0 : Int), [])).snd.snd) (List.take ((v9.getD v11.toNat ((0 : Int), (0 : Int), [])).snd.fst - (Option.some v7).getD (0 : Int)).toNat   (List.drop ((Option.some v7).getD (0 : Int)).toNat v0))).bind fun (r4 : Bool) =>
         bif !r4 then
          ret (Bool.false)
         else
          bif decide ((v9.getD v11.toNat ((0 : Int), (0 : Int), [])).fst > (1000 : Int)) then
           ret (Bool.false)
          else
           lp6 (v0) (v1) (v2) (v3) (v4) (v5) (v6) ((v9.getD v11.toNat ((0 : Int), (0 : Int), [])).snd.fst) ((v9.getD v11.toNat ((0 : Int), (0 : Int), [])).fst) (v9) (v10) (IntKind.i64.wrap (v11 + (1 : Int)))
        else
         none
       else
        none
      else
       none
   else
    none
  else
   none
 else
  bif decide ((0 : Int) ≤ (Option.some v7).getD (0 : Int)) then
   bif decide ((Option.some v7).getD (0 : Int) ≤ v1) then
    bif decide (v1 ≤ (↑v0.length : Int)) then
     (spec_l16Same (v2) (List.take (v1 - (Option.some v7).getD (0 : Int)).toNat (List.drop ((Option.some v7).getD (0 : Int)).toNat v0))).bind fun (r5 : Bool) =>
     bif r5 then
      bif decide (Option.none.getD (0 : Int) ≤ v6) then
       bif decide (v6 ≤ (↑v0.length : Int)) then
        (spec_l16Same (v4) (List.take (v6 - Option.none.getD (0 : Int)).toNat (List.drop (Option.none.getD (0 : Int)).toNat v0))).bind fun (r6 : Bool) =>
        ret (r6)
       else
        none
      else
       none
     else
      ret (Bool.false)
    else
     none
   else
    none
  else
   none
theorem spec_GoodSink.k (v0 : List Int) (v1 : Int) (v2 : List Int) (v3 : List (Int × Int × List Int)) (v4 : List Int) (v5 : Int) (v6 : Int) : topL E (callT E tab) 20 Try.f20 (spec_GoodSink.c v0 v1 v2 v3 v4 v5 v6) = spec_GoodSink.t (fun b => some (spec_GoodSink.mk b)) spec_GoodSink.q6 v0 v1 v2 v3 v4 v5 v6 := by kernel_rfl
theorem spec_GoodSink.k6 (v0 : List Int) (v1 : Int) (v2 : List Int) (v3 : List (Int × Int × List Int)) (v4 : List Int) (v5 : Int) (v6 : Int) (v7 : Int) (v8 : Int) (v9 : List (Int × Int × List Int)) (v10 : Int) (v11 : Int) : roundL E (callT E tab) 20 Try.f20 1 [.r, .r, .r, .r, .l, .r, .b] (nn 1 (⟨(.box false), [.d .fro (.sl (.int .i64)) v0, iL v1, .d .fro (.sl (.int .i64)) v2, .d .fro (.sl (.pair (.int .i64) (.pair (.int .i64) (.sl (.int .i64))))) v3, .d .fro (.sl (.int .i64)) v4, iL v5, iL v6], false, false, false, 0, 0⟩ :: nn 1 (vc (iL v7) :: vc (iL v8) :: nn 40 (vc (.d .fro (.sl (.pair (.int .i64) (.pair (.int .i64) (.sl (.int .i64))))) v9) :: vc (iL v10) :: vc (iL v11) :: nn 58 ([]))))) = spec_GoodSink.t6 (fun b => some (spec_GoodSink.mk b)) spec_GoodSink.q6 v0 v1 v2 v3 v4 v5 v6 v7 v8 v9 v10 v11 := by kernel_rfl
theorem spec_GoodSink.eq (v0 : List Int) (v1 : Int) (v2 : List Int) (v3 : List (Int × Int × List Int)) (v4 : List Int) (v5 : Int) (v6 : Int) {b : Bool} (h : spec_GoodSink.t some spec_GoodSink.l6 v0 v1 v2 v3 v4 v5 v6 = some b) : spec_GoodSink v0 v1 v2 v3 v4 v5 v6 = some b := tOf_intro spec_GoodSink.un (fun _ => by kernel_rfl) (vlim_fn (callT_le E tab) rfl rfl rfl ((spec_GoodSink.k v0 v1 v2 v3 v4 v5 v6).trans ((by unfold spec_GoodSink.t; repeat' first | exact Sub.ret | exact Sub.none | exact Sub.loop | apply Sub.cond | (apply Sub.bind; intro _) : Sub spec_GoodSink.mk _ _) b h)))
theorem spec_GoodSink.eq6 (v0 : List Int) (v1 : Int) (v2 : List Int) (v3 : List (Int × Int × List Int)) (v4 : List Int) (v5 : Int) (v6 : Int) (v7 : Int) (v8 : Int) (v9 : List (Int × Int × List Int)) (v10 : Int) (v11 : Int) {b : Bool} (h : spec_GoodSink.t6 some spec_GoodSink.l6 v0 v1 v2 v3 v4 v5 v6 v7 v8 v9 v10 v11 = some b) : spec_GoodSink.l6 v0 v1 v2 v3 v4 v5 v6 v7 v8 v9 v10 v11 = some b := tOf_intro spec_GoodSink.un (fun _ => by kernel_rfl) (loopAtL_step ((spec_GoodSink.k6 v0 v1 v2 v3 v4 v5 v6 v7 v8 v9 v10 v11).trans ((by unfold spec_GoodSink.t6; repeat' first | exact Sub.ret | exact Sub.none | exact Sub.loop | apply Sub.cond | (apply Sub.bind; intro _) : Sub spec_GoodSink.mk _ _) b h)))
noncomputable def spec_l1In.t {γ : Type} (ret : (Bool) → Option γ) (v0 : Int) (v1 : Int) (v2 : Int) : Option γ :=
 bif decide (v0 ≥ v1) then
  ret (decide (v0 ≤ v2))
 else
  ret (Bool.false)
theorem spec_l1In.k (v0 : Int) (v1 : Int) (v2 : Int) : topL E (callT E tab) 46 Try.f46 (spec_l1In.c v0 v1 v2) = spec_l1In.t (fun b => some (spec_l1In.mk b)) v0 v1 v2 := by kernel_rfl
theorem spec_l1In.eq (v0 : Int) (v1 : Int) (v2 : Int) {b : Bool} (h : spec_l1In.t some v0 v1 v2 = some b) : spec_l1In v0 v1 v2 = some b := tOf_intro spec_l1In.un (fun _ => by kernel_rfl) (vlim_fn (callT_le E tab) rfl rfl rfl ((spec_l1In.k v0 v1 v2).trans ((by unfold spec_l1In.t; repeat' first | exact Sub.ret | exact Sub.none | exact Sub.loop | apply Sub.cond | (apply Sub.bind; intro _) : Sub spec_l1In.mk _ _) b h)))
noncomputable def spec_l16Same.q4 (v0 : List Int) (v1 : List Int) (v2 : Int) (v3 : Int) : Option R := loopAtL E (callT E tab) 47 Try.f47 2 [.r, .r, .l, .r, .b] (vc (.d .fro (.sl (.int .i64)) v0) :: vc (.d .fro (.sl (.int .i64)) v1) :: nn 10 (vc (iL v2) :: vc (iL v3) :: nn 12 ([])))
noncomputable def spec_l16Same.l4 (v0 : List Int) (v1 : List Int) (v2 : Int) (v3 : Int) : Option (Bool) := tOf spec_l16Same.mk (spec_l16Same.q4 v0 v1 v2 v3)
noncomputable def spec_l16Same.t {γ : Type} (ret : (Bool) → Option γ) (lp4 : (List Int) → (List Int) → Int → Int → Option γ) (v0 : List Int) (v1 : List Int) : Option γ :=
 bif (↑v0.length : Int) != (↑v1.length : Int) then
  ret (Bool.false)
 else
  lp4 (v0) (v1) ((↑v0.length : Int)) ((0 : Int))
noncomputable def spec_l16Same.t4 {γ : Type} (ret : (Bool) → Option γ) (lp4 : (List Int) → (List Int) → Int → Int → Option γ) (v0 : List Int) (v1 : List Int) (v2 : Int) (v3 : Int) : Option γ :=
 bif decide (v3 < v2) then
  bif decide ((0 : Int) ≤ v3) then
   bif decide (v3.toNat < v0.length) then
    bif decide ((0 : Int) ≤ v3) then
     bif decide (v3.toNat < v1.length) then
      bif v0.getD v3.toNat (0 : Int) != v1.getD v3.toNat (0 : Int) then
       ret (Bool.false)
      else
       lp4 (v0) (v1) (v2) (IntKind.i64.wrap (v3 + (1 : Int)))
     else
      none
    else
     none
   else
    none
  else
   none
 else
  ret (Bool.true)
theorem spec_l16Same.k (v0 : List Int) (v1 : List Int) : topL E (callT E tab) 47 Try.f47 (spec_l16Same.c v0 v1) = spec_l16Same.t (fun b => some (spec_l16Same.mk b)) spec_l16Same.q4 v0 v1 := by kernel_rfl
theorem spec_l16Same.k4 (v0 : List Int) (v1 : List Int) (v2 : Int) (v3 : Int) : roundL E (callT E tab) 47 Try.f47 2 [.r, .r, .l, .r, .b] (vc (.d .fro (.sl (.int .i64)) v0) :: vc (.d .fro (.sl (.int .i64)) v1) :: nn 10 (vc (iL v2) :: vc (iL v3) :: nn 12 ([]))) = spec_l16Same.t4 (fun b => some (spec_l16Same.mk b)) spec_l16Same.q4 v0 v1 v2 v3 := by kernel_rfl
theorem spec_l16Same.eq (v0 : List Int) (v1 : List Int) {b : Bool} (h : spec_l16Same.t some spec_l16Same.l4 v0 v1 = some b) : spec_l16Same v0 v1 = some b := tOf_intro spec_l16Same.un (fun _ => by kernel_rfl) (vlim_fn (callT_le E tab) rfl rfl rfl ((spec_l16Same.k v0 v1).trans ((by unfold spec_l16Same.t; repeat' first | exact Sub.ret | exact Sub.none | exact Sub.loop | apply Sub.cond | (apply Sub.bind; intro _) : Sub spec_l16Same.mk _ _) b h)))
theorem spec_l16Same.eq4 (v0 : List Int) (v1 : List Int) (v2 : Int) (v3 : Int) {b : Bool} (h : spec_l16Same.t4 some spec_l16Same.l4 v0 v1 v2 v3 = some b) : spec_l16Same.l4 v0 v1 v2 v3 = some b := tOf_intro spec_l16Same.un (fun _ => by kernel_rfl) (loopAtL_step ((spec_l16Same.k4 v0 v1 v2 v3).trans ((by unfold spec_l16Same.t4; repeat' first | exact Sub.ret | exact Sub.none | exact Sub.loop | apply Sub.cond | (apply Sub.bind; intro _) : Sub spec_l16Same.mk _ _) b h)))
noncomputable def spec_l16Own.q6 (v0 : List Int) (v1 : Int) (v2 : List Int) (v3 : List (Int × Int × List Int)) (v4 : List Int) (v5 : Int) (v6 : Int) (v7 : List Int) (v8 : Int) (v9 : List Int) (v10 : List (Int × Int × List Int)) (v11 : List Int) (v12 : Int) (v13 : Int) (v14 : List (Int × Int × List Int)) (v15 : List (Int × Int × List Int)) (v16 : Int) (v17 : Int) : Option R := loopAtL E (callT E tab) 27 Try.f27 1 [.r, .r, .r, .r, .r, .l, .r, .b] (nn 1 (⟨(.box false), [.d .deep (.sl (.int .i64)) v0, iL v1, .d .deep (.sl (.int .i64)) v2, .d .fro (.sl (.pair (.int .i64) (.pair (.int .i64) (.sl (.int .i64))))) v3, .d .deep (.sl (.int .i64)) v4, iL v5, iL v6], false, false, false, 0, 0⟩ :: ⟨(.box false), [.d .deep (.sl (.int .i64)) v7, iL v8, .d .deep (.sl (.int .i64)) v9, .d .deep (.sl (.pair (.int .i64) (.pair (.int .i64) (.sl (.int .i64))))) v10, .d .deep (.sl (.int .i64)) v11, iL v12, iL v13], false, false, false, 0, 0⟩ :: vc (.d .deep (.sl (.pair (.int .i64) (.pair (.int .i64) (.sl (.int .i64))))) v14) :: nn 18 (vc (.d .fro (.sl (.pair (.int .i64) (.pair (.int .i64) (.sl (.int .i64))))) v15) :: vc (iL v16) :: vc (iL v17) :: nn 19 ([]))))
noncomputable def spec_l16Own.l6 (v0 : List Int) (v1 : Int) (v2 : List Int) (v3 : List (Int × Int × List Int)) (v4 : List Int) (v5 : Int) (v6 : Int) (v7 : List Int) (v8 : Int) (v9 : List Int) (v10 : List (Int × Int × List Int)) (v11 : List Int) (v12 : Int) (v13 : Int) (v14 : List (Int × Int × List Int)) (v15 : List (Int × Int × List Int)) (v16 : Int) (v17 : Int) : Option ((List Int) × Int × (List Int) × (List (Int × Int × List Int)) × (List Int) × Int × Int) := tOf spec_l16Own.mk (spec_l16Own.q6 v0 v1 v2 v3 v4 v5 v6 v7 v8 v9 v10 v11 v12 v13 v14 v15 v16 v17)
noncomputable def spec_l16Own.t {γ : Type} (ret : ((List Int) × Int × (List Int) × (List (Int × Int × List Int)) × (List Int) × Int × Int) → Option γ) (lp6 : (List Int) → Int → (List Int) → (List (Int × Int × List Int)) → (List Int) → Int → Int → (List Int) → Int → (List Int) → (List (Int × Int × List Int)) → (List Int) → Int → Int → (List (Int × Int × List Int)) → (List (Int × Int × List Int)) → Int → Int → Option γ) (v0 : List Int) (v1 : Int) (v2 : List Int) (v3 : List (Int × Int × List Int)) (v4 : List Int) (v5 : Int) (v6 : Int) : Option γ :=
 bif decide (([] : List Int).length + v0.length ≤ (4294967296 : Nat)) then
  bif decide (([] : List Int).length + v2.length ≤ (4294967296 : Nat)) then
   bif decide (([] : List Int).length + v4.length ≤ (4294967296 : Nat)) then
    lp6 ([] ++ v0) (v1) ([] ++ v2) (v3) ([] ++ v4) (v5) (v6) ([]) ((0 : Int)) ([]) ([]) ([]) ((0 : Int)) ((0 : Int)) ([]) (v3) ((↑v3.length : Int)) ((0 : Int))
   else
    none
  else
   none
 else
  none
noncomputable def spec_l16Own.t6 {γ : Type} (ret : ((List Int) × Int × (List Int) × (List (Int × Int × List Int)) × (List Int) × Int × Int) → Option γ) (lp6 : (List Int) → Int → (List Int) → (List (Int × Int × List Int)) → (List Int) → Int → Int → (List Int) → Int → (List Int) → (List (Int × Int × List Int)) → (List Int) → Int → Int → (List (Int × Int × List Int)) → (List (Int × Int × List Int)) → Int → Int → Option γ) (v0 : List Int) (v1 : Int) (v2 : List Int) (v3 : List (Int × Int × List Int)) (v4 : List Int) (v5 : Int) (v6 : Int) (v7 : List Int) (v8 : Int) (v9 : List Int) (v10 : List (Int × Int × List Int)) (v11 : List Int) (v12 : Int) (v13 : Int) (v14 : List (Int × Int × List Int)) (v15 : List (Int × Int × List Int)) (v16 : Int) (v17 : Int) : Option γ :=
 bif decide (v17 < v16) then
  bif decide ((0 : Int) ≤ v17) then
   bif decide (v17.toNat < v15.length) then
    bif decide (([] : List Int).length + (v15.getD v17.toNat ((0 : Int), (0 : Int), [])).snd.snd.length ≤ (4294967296 : Nat)) then
     bif decide   (v14.length +       [((v15.getD v17.toNat ((0 : Int), (0 : Int), [])).fst, (v15.getD v17.toNat ((0 : Int), (0 : Int), [])).snd.fst,             [] ++ (v15.getD v17.toNat ((0 : Int), (0 : Int), [])).snd.snd)].length ≤     (4294967296 : Nat)) then
      lp6 (v0) (v1) (v2) (v3) (v4) (v5) (v6) (v7) (v8) (v9) (v10) (v11) (v12) (v13) (v14 ++   [((v15.getD v17.toNat ((0 : Int), (0 : Int), [])).fst, (v15.getD v17.toNat ((0 : Int), (0 : Int), [])).snd.fst,       [] ++ (v15.getD v17.toNat ((0 : Int), (0 : Int), [])).snd.snd)]) (v15) (v16) (IntKind.i64.wrap (v17 + (1 : Int)))
     else
      none
    else
     none
   else
    none
  else
   none
 else
  ret (v0, v1, v2, v14, v4, v5, v6)
theorem spec_l16Own.k (v0 : List Int) (v1 : Int) (v2 : List Int) (v3 : List (Int × Int × List Int)) (v4 : List Int) (v5 : Int) (v6 : Int) : topL E (callT E tab) 27 Try.f27 (spec_l16Own.c v0 v1 v2 v3 v4 v5 v6) = spec_l16Own.t (fun b => some (spec_l16Own.mk b)) spec_l16Own.q6 v0 v1 v2 v3 v4 v5 v6 := by kernel_rfl
theorem spec_l16Own.k6 (v0 : List Int) (v1 : Int) (v2 : List Int) (v3 : List (Int × Int × List Int)) (v4 : List Int) (v5 : Int) (v6 : Int) (v7 : List Int) (v8 : Int) (v9 : List Int) (v10 : List (Int × Int × List Int)) (v11 : List Int) (v12 : Int) (v13 : Int) (v14 : List (Int × Int × List Int)) (v15 : List (Int × Int × List Int)) (v16 : Int) (v17 : Int) : roundL E (callT E tab) 27 Try.f27 1 [.r, .r, .r, .r, .r, .l, .r, .b] (nn 1 (⟨(.box false), [.d .deep (.sl (.int .i64)) v0, iL v1, .d .deep (.sl (.int .i64)) v2, .d .fro (.sl (.pair (.int .i64) (.pair (.int .i64) (.sl (.int .i64))))) v3, .d .deep (.sl (.int .i64)) v4, iL v5, iL v6], false, false, false, 0, 0⟩ :: ⟨(.box false), [.d .deep (.sl (.int .i64)) v7, iL v8, .d .deep (.sl (.int .i64)) v9, .d .deep (.sl (.pair (.int .i64) (.pair (.int .i64) (.sl (.int .i64))))) v10, .d .deep (.sl (.int .i64)) v11, iL v12, iL v13], false, false, false, 0, 0⟩ :: vc (.d .deep (.sl (.pair (.int .i64) (.pair (.int .i64) (.sl (.int .i64))))) v14) :: nn 18 (vc (.d .fro (.sl (.pair (.int .i64) (.pair (.int .i64) (.sl (.int .i64))))) v15) :: vc (iL v16) :: vc (iL v17) :: nn 19 ([])))) = spec_l16Own.t6 (fun b => some (spec_l16Own.mk b)) spec_l16Own.q6 v0 v1 v2 v3 v4 v5 v6 v7 v8 v9 v10 v11 v12 v13 v14 v15 v16 v17 := by kernel_rfl
theorem spec_l16Own.eq (v0 : List Int) (v1 : Int) (v2 : List Int) (v3 : List (Int × Int × List Int)) (v4 : List Int) (v5 : Int) (v6 : Int) {b : (List Int) × Int × (List Int) × (List (Int × Int × List Int)) × (List Int) × Int × Int} (h : spec_l16Own.t some spec_l16Own.l6 v0 v1 v2 v3 v4 v5 v6 = some b) : spec_l16Own v0 v1 v2 v3 v4 v5 v6 = some b := tOf_intro spec_l16Own.un (fun _ => by kernel_rfl) (vlim_fn (callT_le E tab) rfl rfl rfl ((spec_l16Own.k v0 v1 v2 v3 v4 v5 v6).trans ((by unfold spec_l16Own.t; repeat' first | exact Sub.ret | exact Sub.none | exact Sub.loop | apply Sub.cond | (apply Sub.bind; intro _) : Sub spec_l16Own.mk _ _) b h)))
theorem spec_l16Own.eq6 (v0 : List Int) (v1 : Int) (v2 : List Int) (v3 : List (Int × Int × List Int)) (v4 : List Int) (v5 : Int) (v6 : Int) (v7 : List Int) (v8 : Int) (v9 : List Int) (v10 : List (Int × Int × List Int)) (v11 : List Int) (v12 : Int) (v13 : Int) (v14 : List (Int × Int × List Int)) (v15 : List (Int × Int × List Int)) (v16 : Int) (v17 : Int) {b : (List Int) × Int × (List Int) × (List (Int × Int × List Int)) × (List Int) × Int × Int} (h : spec_l16Own.t6 some spec_l16Own.l6 v0 v1 v2 v3 v4 v5 v6 v7 v8 v9 v10 v11 v12 v13 v14 v15 v16 v17 = some b) : spec_l16Own.l6 v0 v1 v2 v3 v4 v5 v6 v7 v8 v9 v10 v11 v12 v13 v14 v15 v16 v17 = some b := tOf_intro spec_l16Own.un (fun _ => by kernel_rfl) (loopAtL_step ((spec_l16Own.k6 v0 v1 v2 v3 v4 v5 v6 v7 v8 v9 v10 v11 v12 v13 v14 v15 v16 v17).trans ((by unfold spec_l16Own.t6; repeat' first | exact Sub.ret | exact Sub.none | exact Sub.loop | apply Sub.cond | (apply Sub.bind; intro _) : Sub spec_l16Own.mk _ _) b h)))
noncomputable def spec_l16Crash_5b7.t {γ : Type} (ret : ((List Int) × Int × (List Int) × (List (Int × Int × List Int)) × (List Int) × Int × Int) → Option γ) (v0 : List Int) (v1 : Int) (v2 : List Int) (v3 : List (Int × Int × List Int)) (v4 : List Int) (v5 : Int) (v6 : Int) : Option γ :=
 (spec_l16From (v0) (v1) (v2) (v3) (v4) (v5) (v6)).bind fun (r0 : Int) =>
 ret (v0, r0, [], v3, v4, v5, v6)
theorem spec_l16Crash_5b7.k (v0 : List Int) (v1 : Int) (v2 : List Int) (v3 : List (Int × Int × List Int)) (v4 : List Int) (v5 : Int) (v6 : Int) : topL E (callT E tab) 26 Try.f26 (spec_l16Crash_5b7.c v0 v1 v2 v3 v4 v5 v6) = spec_l16Crash_5b7.t (fun b => some (spec_l16Crash_5b7.mk b)) v0 v1 v2 v3 v4 v5 v6 := by kernel_rfl
theorem spec_l16Crash_5b7.eq (v0 : List Int) (v1 : Int) (v2 : List Int) (v3 : List (Int × Int × List Int)) (v4 : List Int) (v5 : Int) (v6 : Int) {b : (List Int) × Int × (List Int) × (List (Int × Int × List Int)) × (List Int) × Int × Int} (h : spec_l16Crash_5b7.t some v0 v1 v2 v3 v4 v5 v6 = some b) : spec_l16Crash_5b7 v0 v1 v2 v3 v4 v5 v6 = some b := tOf_intro spec_l16Crash_5b7.un (fun _ => by kernel_rfl) (vlim_fn (callT_le E tab) rfl rfl rfl ((spec_l16Crash_5b7.k v0 v1 v2 v3 v4 v5 v6).trans ((by unfold spec_l16Crash_5b7.t; repeat' first | exact Sub.ret | exact Sub.none | exact Sub.loop | apply Sub.cond | (apply Sub.bind; intro _) : Sub spec_l16Crash_5b7.mk _ _) b h)))
noncomputable def spec_l16From.t {γ : Type} (ret : (Int) → Option γ) (v0 : List Int) (v1 : Int) (v2 : List Int) (v3 : List (Int × Int × List Int)) (v4 : List Int) (v5 : Int) (v6 : Int) : Option γ :=
 bif decide ((↑v3.length : Int) > (0 : Int)) then
  bif decide ((0 : Int) ≤ IntKind.i64.wrap ((↑v3.length : Int) - (1 : Int))) then
   bif decide ((IntKind.i64.wrap ((↑v3.length : Int) - (1 : Int))).toNat < v3.length) then
    ret ((v3.getD (IntKind.i64.wrap ((↑v3.length : Int) - (1 : Int))).toNat ((0 : Int), (0 : Int), [])).snd.fst)
   else
    none
  else
   none
 else
  ret (v6)
theorem spec_l16From.k (v0 : List Int) (v1 : Int) (v2 : List Int) (v3 : List (Int × Int × List Int)) (v4 : List Int) (v5 : Int) (v6 : Int) : topL E (callT E tab) 50 Try.f50 (spec_l16From.c v0 v1 v2 v3 v4 v5 v6) = spec_l16From.t (fun b => some (spec_l16From.mk b)) v0 v1 v2 v3 v4 v5 v6 := by kernel_rfl
theorem spec_l16From.eq (v0 : List Int) (v1 : Int) (v2 : List Int) (v3 : List (Int × Int × List Int)) (v4 : List Int) (v5 : Int) (v6 : Int) {b : Int} (h : spec_l16From.t some v0 v1 v2 v3 v4 v5 v6 = some b) : spec_l16From v0 v1 v2 v3 v4 v5 v6 = some b := tOf_intro spec_l16From.un (fun _ => by kernel_rfl) (vlim_fn (callT_le E tab) rfl rfl rfl ((spec_l16From.k v0 v1 v2 v3 v4 v5 v6).trans ((by unfold spec_l16From.t; repeat' first | exact Sub.ret | exact Sub.none | exact Sub.loop | apply Sub.cond | (apply Sub.bind; intro _) : Sub spec_l16From.mk _ _) b h)))
noncomputable def spec_l16Commit_5b7.q1002 (v0 : Int) (v1 : Int) (v2 : Int) (v3 : List Int) (v4 : Int) (v5 : List Int) (v6 : List (Int × Int × List Int)) (v7 : List Int) (v8 : Int) (v9 : Int) (v10 : Int) : Option R := loopAtL E (callT E tab) 25 Try.f25 1 [.r, .r, .b] (nn 1 (⟨(.box false), [.dead, iL v0, .dead, .dead, .dead, iL v1, iL v2], false, false, false, 0, 0⟩ :: ⟨(.box false), [.d .deep (.sl (.int .i64)) v3, iL v4, .d .deep (.sl (.int .i64)) v5, .d .deep (.sl (.pair (.int .i64) (.pair (.int .i64) (.sl (.int .i64))))) v6, .d .deep (.sl (.int .i64)) v7, iL v8, iL v9], false, false, false, 0, 0⟩ :: nn 1 (vc (iL v10) :: nn 14 ([]))))
noncomputable def spec_l16Commit_5b7.l1002 (v0 : Int) (v1 : Int) (v2 : Int) (v3 : List Int) (v4 : Int) (v5 : List Int) (v6 : List (Int × Int × List Int)) (v7 : List Int) (v8 : Int) (v9 : Int) (v10 : Int) : Option ((List Int) × Int × (List Int) × (List (Int × Int × List Int)) × (List Int) × Int × Int × Int) := tOf spec_l16Commit_5b7.mk (spec_l16Commit_5b7.q1002 v0 v1 v2 v3 v4 v5 v6 v7 v8 v9 v10)
noncomputable def spec_l16Commit_5b7.q2 (v0 : List Int) (v1 : Int) (v2 : List Int) (v3 : List (Int × Int × List Int)) (v4 : List Int) (v5 : Int) (v6 : Int) (v7 : List Int) (v8 : Int) (v9 : List Int) (v10 : List (Int × Int × List Int)) (v11 : List Int) (v12 : Int) (v13 : Int) (v14 : Int) : Option R := loopAtL E (callT E tab) 25 Try.f25 1 [.r, .r, .b] (nn 1 (⟨(.box false), [.d .deep (.sl (.int .i64)) v0, iL v1, .d .deep (.sl (.int .i64)) v2, .d .deep (.sl (.pair (.int .i64) (.pair (.int .i64) (.sl (.int .i64))))) v3, .d .deep (.sl (.int .i64)) v4, iL v5, iL v6], false, false, false, 0, 0⟩ :: ⟨(.box false), [.d .deep (.sl (.int .i64)) v7, iL v8, .d .deep (.sl (.int .i64)) v9, .d .deep (.sl (.pair (.int .i64) (.pair (.int .i64) (.sl (.int .i64))))) v10, .d .deep (.sl (.int .i64)) v11, iL v12, iL v13], false, false, false, 0, 0⟩ :: nn 1 (vc (iL v14) :: nn 14 ([]))))
noncomputable def spec_l16Commit_5b7.l2 (v0 : List Int) (v1 : Int) (v2 : List Int) (v3 : List (Int × Int × List Int)) (v4 : List Int) (v5 : Int) (v6 : Int) (v7 : List Int) (v8 : Int) (v9 : List Int) (v10 : List (Int × Int × List Int)) (v11 : List Int) (v12 : Int) (v13 : Int) (v14 : Int) : Option ((List Int) × Int × (List Int) × (List (Int × Int × List Int)) × (List Int) × Int × Int × Int) := tOf spec_l16Commit_5b7.mk (spec_l16Commit_5b7.q2 v0 v1 v2 v3 v4 v5 v6 v7 v8 v9 v10 v11 v12 v13 v14)
noncomputable def spec_l16Commit_5b7.t {γ : Type} (ret : ((List Int) × Int × (List Int) × (List (Int × Int × List Int)) × (List Int) × Int × Int × Int) → Option γ) (lp1002 : Int → Int → Int → (List Int) → Int → (List Int) → (List (Int × Int × List Int)) → (List Int) → Int → Int → Int → Option γ) (lp2 : (List Int) → Int → (List Int) → (List (Int × Int × List Int)) → (List Int) → Int → Int → (List Int) → Int → (List Int) → (List (Int × Int × List Int)) → (List Int) → Int → Int → Int → Option γ) (v0 : List Int) (v1 : Int) (v2 : List Int) (v3 : List (Int × Int × List Int)) (v4 : List Int) (v5 : Int) (v6 : Int) : Option γ :=
 lp2 (v0) (v1) (v2) (v3) (v4) (v5) (v6) ([]) ((0 : Int)) ([]) ([]) ([]) ((0 : Int)) ((0 : Int)) ((0 : Int))
noncomputable def spec_l16Commit_5b7.t1002 {γ : Type} (ret : ((List Int) × Int × (List Int) × (List (Int × Int × List Int)) × (List Int) × Int × Int × Int) → Option γ) (lp1002 : Int → Int → Int → (List Int) → Int → (List Int) → (List (Int × Int × List Int)) → (List Int) → Int → Int → Int → Option γ) (lp2 : (List Int) → Int → (List Int) → (List (Int × Int × List Int)) → (List Int) → Int → Int → (List Int) → Int → (List Int) → (List (Int × Int × List Int)) → (List Int) → Int → Int → Int → Option γ) (v0 : Int) (v1 : Int) (v2 : Int) (v3 : List Int) (v4 : Int) (v5 : List Int) (v6 : List (Int × Int × List Int)) (v7 : List Int) (v8 : Int) (v9 : Int) (v10 : Int) : Option γ :=
 none
noncomputable def spec_l16Commit_5b7.t2 {γ : Type} (ret : ((List Int) × Int × (List Int) × (List (Int × Int × List Int)) × (List Int) × Int × Int × Int) → Option γ) (lp1002 : Int → Int → Int → (List Int) → Int → (List Int) → (List (Int × Int × List Int)) → (List Int) → Int → Int → Int → Option γ) (lp2 : (List Int) → Int → (List Int) → (List (Int × Int × List Int)) → (List Int) → Int → Int → (List Int) → Int → (List Int) → (List (Int × Int × List Int)) → (List Int) → Int → Int → Int → Option γ) (v0 : List Int) (v1 : Int) (v2 : List Int) (v3 : List (Int × Int × List Int)) (v4 : List Int) (v5 : Int) (v6 : Int) (v7 : List Int) (v8 : Int) (v9 : List Int) (v10 : List (Int × Int × List Int)) (v11 : List Int) (v12 : Int) (v13 : Int) (v14 : Int) : Option γ :=
 (spec_l16Step_3ad (v0) (v1) (v2) (v3) (v4) (v5) (v6) ((3 : Int))).bind fun (r0 : (Int × Int × Int × Bool × (List Int) × Int × (List Int) × (List (Int × Int × List Int)) × (List Int) × Int × Int) ⊕ ((List Int) × Int × (List Int) × (List (Int × Int × List Int)) × (List Int) × Int × Int × Bool × Int × Int × Int)) =>
 bif r0.isLeft then
  bif !(inL r0 ((0 : Int), (0 : Int), (0 : Int), Bool.false, [], (0 : Int), [], [], [], (0 : Int), (0 : Int))).snd.snd.snd.fst then
   ret ((inL r0 ((0 : Int), (0 : Int), (0 : Int), Bool.false, [], (0 : Int), [], [], [], (0 : Int), (0 : Int))).snd.snd.snd.snd.fst, v1, (inL r0 ((0 : Int), (0 : Int), (0 : Int), Bool.false, [], (0 : Int), [], [], [], (0 : Int), (0 : Int))).snd.snd.snd.snd.snd.snd.fst, (inL r0 ((0 : Int), (0 : Int), (0 : Int), Bool.false, [], (0 : Int), [], [], [], (0 : Int), (0 : Int))).snd.snd.snd.snd.snd.snd.snd.fst, (inL r0 ((0 : Int), (0 : Int), (0 : Int), Bool.false, [], (0 : Int), [], [], [], (0 : Int), (0 : Int))).snd.snd.snd.snd.snd.snd.snd.snd.fst, v5, v6, v14)
  else
   lp1002 ((inL r0 ((0 : Int), (0 : Int), (0 : Int), Bool.false, [], (0 : Int), [], [], [], (0 : Int), (0 : Int))).fst) ((inL r0 ((0 : Int), (0 : Int), (0 : Int), Bool.false, [], (0 : Int), [], [], [], (0 : Int), (0 : Int))).snd.fst) ((inL r0 ((0 : Int), (0 : Int), (0 : Int), Bool.false, [], (0 : Int), [], [], [], (0 : Int), (0 : Int))).snd.snd.fst) (v7) (v8) (v9) (v10) (v11) (v12) (v13) (IntKind.i64.wrap (v14 + (1 : Int)))
 else
  bif !(inR r0 ([], (0 : Int), [], [], [], (0 : Int), (0 : Int), Bool.false, (0 : Int), (0 : Int), (0 : Int))).snd.snd.snd.snd.snd.snd.snd.fst then
   none
  else
   lp2 ((inR r0 ([], (0 : Int), [], [], [], (0 : Int), (0 : Int), Bool.false, (0 : Int), (0 : Int), (0 : Int))).fst) ((inR r0 ([], (0 : Int), [], [], [], (0 : Int), (0 : Int), Bool.false, (0 : Int), (0 : Int), (0 : Int))).snd.fst) ((inR r0 ([], (0 : Int), [], [], [], (0 : Int), (0 : Int), Bool.false, (0 : Int), (0 : Int), (0 : Int))).snd.snd.fst) ((inR r0 ([], (0 : Int), [], [], [], (0 : Int), (0 : Int), Bool.false, (0 : Int), (0 : Int), (0 : Int))).snd.snd.snd.fst) ((inR r0 ([], (0 : Int), [], [], [], (0 : Int), (0 : Int), Bool.false, (0 : Int), (0 : Int), (0 : Int))).snd.snd.snd.snd.fst) ((inR r0 ([], (0 : Int), [], [], [], (0 : Int), (0 : Int), Bool.false, (0 : Int), (0 : Int), (0 : Int))).snd.snd.snd.snd.snd.fst) ((inR r0 ([], (0 : Int), [], [], [], (0 : Int), (0 : Int), Bool.false, (0 : Int), (0 : Int), (0 : Int))).snd.snd.snd.snd.snd.snd.fst) (v7) (v8) (v9) (v10) (v11) (v12) (v13) (IntKind.i64.wrap (v14 + (1 : Int)))
theorem spec_l16Commit_5b7.k (v0 : List Int) (v1 : Int) (v2 : List Int) (v3 : List (Int × Int × List Int)) (v4 : List Int) (v5 : Int) (v6 : Int) : topL E (callT E tab) 25 Try.f25 (spec_l16Commit_5b7.c v0 v1 v2 v3 v4 v5 v6) = spec_l16Commit_5b7.t (fun b => some (spec_l16Commit_5b7.mk b)) spec_l16Commit_5b7.q1002 spec_l16Commit_5b7.q2 v0 v1 v2 v3 v4 v5 v6 := by kernel_rfl
theorem spec_l16Commit_5b7.k1002 (v0 : Int) (v1 : Int) (v2 : Int) (v3 : List Int) (v4 : Int) (v5 : List Int) (v6 : List (Int × Int × List Int)) (v7 : List Int) (v8 : Int) (v9 : Int) (v10 : Int) : roundL E (callT E tab) 25 Try.f25 1 [.r, .r, .b] (nn 1 (⟨(.box false), [.dead, iL v0, .dead, .dead, .dead, iL v1, iL v2], false, false, false, 0, 0⟩ :: ⟨(.box false), [.d .deep (.sl (.int .i64)) v3, iL v4, .d .deep (.sl (.int .i64)) v5, .d .deep (.sl (.pair (.int .i64) (.pair (.int .i64) (.sl (.int .i64))))) v6, .d .deep (.sl (.int .i64)) v7, iL v8, iL v9], false, false, false, 0, 0⟩ :: nn 1 (vc (iL v10) :: nn 14 ([])))) = spec_l16Commit_5b7.t1002 (fun b => some (spec_l16Commit_5b7.mk b)) spec_l16Commit_5b7.q1002 spec_l16Commit_5b7.q2 v0 v1 v2 v3 v4 v5 v6 v7 v8 v9 v10 := by kernel_rfl
theorem spec_l16Commit_5b7.k2 (v0 : List Int) (v1 : Int) (v2 : List Int) (v3 : List (Int × Int × List Int)) (v4 : List Int) (v5 : Int) (v6 : Int) (v7 : List Int) (v8 : Int) (v9 : List Int) (v10 : List (Int × Int × List Int)) (v11 : List Int) (v12 : Int) (v13 : Int) (v14 : Int) : roundL E (callT E tab) 25 Try.f25 1 [.r, .r, .b] (nn 1 (⟨(.box false), [.d .deep (.sl (.int .i64)) v0, iL v1, .d .deep (.sl (.int .i64)) v2, .d .deep (.sl (.pair (.int .i64) (.pair (.int .i64) (.sl (.int .i64))))) v3, .d .deep (.sl (.int .i64)) v4, iL v5, iL v6], false, false, false, 0, 0⟩ :: ⟨(.box false), [.d .deep (.sl (.int .i64)) v7, iL v8, .d .deep (.sl (.int .i64)) v9, .d .deep (.sl (.pair (.int .i64) (.pair (.int .i64) (.sl (.int .i64))))) v10, .d .deep (.sl (.int .i64)) v11, iL v12, iL v13], false, false, false, 0, 0⟩ :: nn 1 (vc (iL v14) :: nn 14 ([])))) = spec_l16Commit_5b7.t2 (fun b => some (spec_l16Commit_5b7.mk b)) spec_l16Commit_5b7.q1002 spec_l16Commit_5b7.q2 v0 v1 v2 v3 v4 v5 v6 v7 v8 v9 v10 v11 v12 v13 v14 := by kernel_rfl
theorem spec_l16Commit_5b7.eq (v0 : List Int) (v1 : Int) (v2 : List Int) (v3 : List (Int × Int × List Int)) (v4 : List Int) (v5 : Int) (v6 : Int) {b : (List Int) × Int × (List Int) × (List (Int × Int × List Int)) × (List Int) × Int × Int × Int} (h : spec_l16Commit_5b7.t some spec_l16Commit_5b7.l1002 spec_l16Commit_5b7.l2 v0 v1 v2 v3 v4 v5 v6 = some b) : spec_l16Commit_5b7 v0 v1 v2 v3 v4 v5 v6 = some b := tOf_intro spec_l16Commit_5b7.un (fun _ => by kernel_rfl) (vlim_fn (callT_le E tab) rfl rfl rfl ((spec_l16Commit_5b7.k v0 v1 v2 v3 v4 v5 v6).trans ((by unfold spec_l16Commit_5b7.t; repeat' first | exact Sub.ret | exact Sub.none | exact Sub.loop | apply Sub.cond | (apply Sub.bind; intro _) : Sub spec_l16Commit_5b7.mk _ _) b h)))
theorem spec_l16Commit_5b7.eq1002 (v0 : Int) (v1 : Int) (v2 : Int) (v3 : List Int) (v4 : Int) (v5 : List Int) (v6 : List (Int × Int × List Int)) (v7 : List Int) (v8 : Int) (v9 : Int) (v10 : Int) {b : (List Int) × Int × (List Int) × (List (Int × Int × List Int)) × (List Int) × Int × Int × Int} (h : spec_l16Commit_5b7.t1002 some spec_l16Commit_5b7.l1002 spec_l16Commit_5b7.l2 v0 v1 v2 v3 v4 v5 v6 v7 v8 v9 v10 = some b) : spec_l16Commit_5b7.l1002 v0 v1 v2 v3 v4 v5 v6 v7 v8 v9 v10 = some b := tOf_intro spec_l16Commit_5b7.un (fun _ => by kernel_rfl) (loopAtL_step ((spec_l16Commit_5b7.k1002 v0 v1 v2 v3 v4 v5 v6 v7 v8 v9 v10).trans ((by unfold spec_l16Commit_5b7.t1002; repeat' first | exact Sub.ret | exact Sub.none | exact Sub.loop | apply Sub.cond | (apply Sub.bind; intro _) : Sub spec_l16Commit_5b7.mk _ _) b h)))
theorem spec_l16Commit_5b7.eq2 (v0 : List Int) (v1 : Int) (v2 : List Int) (v3 : List (Int × Int × List Int)) (v4 : List Int) (v5 : Int) (v6 : Int) (v7 : List Int) (v8 : Int) (v9 : List Int) (v10 : List (Int × Int × List Int)) (v11 : List Int) (v12 : Int) (v13 : Int) (v14 : Int) {b : (List Int) × Int × (List Int) × (List (Int × Int × List Int)) × (List Int) × Int × Int × Int} (h : spec_l16Commit_5b7.t2 some spec_l16Commit_5b7.l1002 spec_l16Commit_5b7.l2 v0 v1 v2 v3 v4 v5 v6 v7 v8 v9 v10 v11 v12 v13 v14 = some b) : spec_l16Commit_5b7.l2 v0 v1 v2 v3 v4 v5 v6 v7 v8 v9 v10 v11 v12 v13 v14 = some b := tOf_intro spec_l16Commit_5b7.un (fun _ => by kernel_rfl) (loopAtL_step ((spec_l16Commit_5b7.k2 v0 v1 v2 v3 v4 v5 v6 v7 v8 v9 v10 v11 v12 v13 v14).trans ((by unfold spec_l16Commit_5b7.t2; repeat' first | exact Sub.ret | exact Sub.none | exact Sub.loop | apply Sub.cond | (apply Sub.bind; intro _) : Sub spec_l16Commit_5b7.mk _ _) b h)))
noncomputable def spec_l16Step_3ad.t {γ : Type} (ret : ((Int × Int × Int × Bool × (List Int) × Int × (List Int) × (List (Int × Int × List Int)) × (List Int) × Int × Int) ⊕ ((List Int) × Int × (List Int) × (List (Int × Int × List Int)) × (List Int) × Int × Int × Bool × Int × Int × Int)) → Option γ) (v0 : List Int) (v1 : Int) (v2 : List Int) (v3 : List (Int × Int × List Int)) (v4 : List Int) (v5 : Int) (v6 : Int) (v7 : Int) : Option γ :=
 bif v7 == (1 : Int) then
  bif v1 == (↑v0.length : Int) then
   ret (.inl (v1, v5, v6, Bool.false, v0, v1, v2, v3, v4, v5, v6))
  else
   bif decide ((0 : Int) ≤ v1) then
    bif decide (v1.toNat < v0.length) then
     bif decide (v1.toNat < v0.length) then
      bif decide (v2.length + [v0.getD v1.toNat (0 : Int)].length ≤ (4294967296 : Nat)) then
       ret (.inr (v0, IntKind.i64.wrap (v1 + (1 : Int)), v2 ++ [v0.getD v1.toNat (0 : Int)], v3, v4, v5, v6, Bool.true, v1, v5, v6))
      else
       none
     else
      none
    else
     none
   else
    none
 else
  bif v7 == (2 : Int) then
   bif (↑v2.length : Int) == (0 : Int) then
    ret (.inl (v1, v5, v6, Bool.false, v0, v1, v2, v3, v4, v5, v6))
   else
    bif decide ((↑v3.length : Int) ≥ (4 : Int)) then
     ret (.inl (v1, v5, v6, Bool.false, v0, v1, v2, v3, v4, v5, v6))
    else
     bif decide (IntKind.i64.wrap (v5 + (↑v3.length : Int)) ≥ (1000 : Int)) then
      ret (.inl (v1, v5, v6, Bool.false, v0, v1, v2, v3, v4, v5, v6))
     else
      bif decide   (v3.length + [(IntKind.i64.wrap (IntKind.i64.wrap (v5 + (↑v3.length : Int)) + (1 : Int)), v1, v2)].length ≤     (4294967296 : Nat)) then
       ret (.inr (v0, v1, [], v3 ++ [(IntKind.i64.wrap (IntKind.i64.wrap (v5 + (↑v3.length : Int)) + (1 : Int)), v1, v2)], v4, v5, v6, Bool.true, v1, v5, v6))
      else
       none
  else
   bif v7 == (3 : Int) then
    bif (↑v3.length : Int) == (0 : Int) then
     ret (.inl (v1, v5, v6, Bool.false, v0, v1, v2, v3, v4, v5, v6))
    else
     bif decide (Int.toNat (0 : Int) < v3.length) then
      bif decide (Int.toNat (0 : Int) < v3.length) then
       bif decide (Int.toNat (0 : Int) < v3.length) then
        bif decide (Int.toNat (0 : Int) < v3.length) then
         bif decide   (v4.length + (v3.getD (Int.toNat (0 : Int)) ((0 : Int), (0 : Int), [])).snd.snd.length ≤ (4294967296 : Nat)) then
          bif decide ((Option.some (1 : Int)).getD (0 : Int) ≤ (↑v3.length : Int)) then
           ret (.inr (v0, v1, v2, List.drop ((Option.some (1 : Int)).getD (0 : Int)).toNat v3, v4 ++ (v3.getD (Int.toNat (0 : Int)) ((0 : Int), (0 : Int), [])).snd.snd, (v3.getD (Int.toNat (0 : Int)) ((0 : Int), (0 : Int), [])).fst, (v3.getD (Int.toNat (0 : Int)) ((0 : Int), (0 : Int), [])).snd.fst, Bool.true, v1, v5, v6))
          else
           none
         else
          none
        else
         none
       else
        none
      else
       none
     else
      none
   else
    bif v7 == (4 : Int) then
     (spec_l16Crash_5b7 (v0) (v1) (v2) (v3) (v4) (v5) (v6)).bind fun (r0 : (List Int) × Int × (List Int) × (List (Int × Int × List Int)) × (List Int) × Int × Int) =>
     ret (.inr (r0.fst, r0.snd.fst, r0.snd.snd.fst, r0.snd.snd.snd.fst, r0.snd.snd.snd.snd.fst, r0.snd.snd.snd.snd.snd.fst, r0.snd.snd.snd.snd.snd.snd, Bool.true, v1, v5, v6))
    else
     bif v7 == (5 : Int) then
      bif decide ((↑v3.length : Int) < (2 : Int)) then
       ret (.inl (v1, v5, v6, Bool.false, v0, v1, v2, v3, v4, v5, v6))
      else
       bif decide (Option.none.getD (0 : Int) ≤ IntKind.i64.wrap ((↑v3.length : Int) - (1 : Int))) then
        bif decide (IntKind.i64.wrap ((↑v3.length : Int) - (1 : Int)) ≤ (↑v3.length : Int)) then
         (spec_l16Crash_5b7 (v0) (v1) (v2) (List.take (IntKind.i64.wrap ((↑v3.length : Int) - (1 : Int)) - Option.none.getD (0 : Int)).toNat   (List.drop (Option.none.getD (0 : Int)).toNat v3)) (v4) (v5) (v6)).bind fun (r1 : (List Int) × Int × (List Int) × (List (Int × Int × List Int)) × (List Int) × Int × Int) =>
         ret (.inr (r1.fst, r1.snd.fst, r1.snd.snd.fst, r1.snd.snd.snd.fst, r1.snd.snd.snd.snd.fst, r1.snd.snd.snd.snd.snd.fst, r1.snd.snd.snd.snd.snd.snd, Bool.true, v1, v5, v6))
        else
         none
       else
        none
     else
      ret (.inl (v1, v5, v6, Bool.false, v0, v1, v2, v3, v4, v5, v6))
theorem spec_l16Step_3ad.k (v0 : List Int) (v1 : Int) (v2 : List Int) (v3 : List (Int × Int × List Int)) (v4 : List Int) (v5 : Int) (v6 : Int) (v7 : Int) : topL E (callT E tab) 39 Try.f39 (spec_l16Step_3ad.c v0 v1 v2 v3 v4 v5 v6 v7) = spec_l16Step_3ad.t (fun b => some (spec_l16Step_3ad.mk b)) v0 v1 v2 v3 v4 v5 v6 v7 := by kernel_rfl
theorem spec_l16Step_3ad.eq (v0 : List Int) (v1 : Int) (v2 : List Int) (v3 : List (Int × Int × List Int)) (v4 : List Int) (v5 : Int) (v6 : Int) (v7 : Int) {b : (Int × Int × Int × Bool × (List Int) × Int × (List Int) × (List (Int × Int × List Int)) × (List Int) × Int × Int) ⊕ ((List Int) × Int × (List Int) × (List (Int × Int × List Int)) × (List Int) × Int × Int × Bool × Int × Int × Int)} (h : spec_l16Step_3ad.t some v0 v1 v2 v3 v4 v5 v6 v7 = some b) : spec_l16Step_3ad v0 v1 v2 v3 v4 v5 v6 v7 = some b := tOf_intro spec_l16Step_3ad.un (fun b => by cases b <;> kernel_rfl) (vlim_fn (callT_le E tab) rfl rfl rfl ((spec_l16Step_3ad.k v0 v1 v2 v3 v4 v5 v6 v7).trans ((by unfold spec_l16Step_3ad.t; repeat' first | exact Sub.ret | exact Sub.none | exact Sub.loop | apply Sub.cond | (apply Sub.bind; intro _) : Sub spec_l16Step_3ad.mk _ _) b h)))
noncomputable def impl_GoodSink.q5 (v0 : List Int) (v1 : Int) (v2 : List Int) (v3 : List (Int × Int × List Int)) (v4 : List Int) (v5 : Int) (v6 : Int) (v7 : Int) (v8 : List (Int × Int × List Int)) (v9 : Int) (v10 : Int) : Option R := loopAtL E (callT E tab) 19 Try.f19 1 [.r, .r, .r, .l, .r, .b] (nn 1 (⟨(.box false), [.d .fro (.sl (.int .i64)) v0, iL v1, .d .fro (.sl (.int .i64)) v2, .d .fro (.sl (.pair (.int .i64) (.pair (.int .i64) (.sl (.int .i64))))) v3, .d .fro (.sl (.int .i64)) v4, iL v5, iL v6], false, false, false, 0, 0⟩ :: nn 1 (vc (iL v7) :: nn 38 (vc (.d .fro (.sl (.pair (.int .i64) (.pair (.int .i64) (.sl (.int .i64))))) v8) :: vc (iL v9) :: vc (iL v10) :: nn 60 ([])))))
noncomputable def impl_GoodSink.l5 (v0 : List Int) (v1 : Int) (v2 : List Int) (v3 : List (Int × Int × List Int)) (v4 : List Int) (v5 : Int) (v6 : Int) (v7 : Int) (v8 : List (Int × Int × List Int)) (v9 : Int) (v10 : Int) : Option (Bool) := tOf impl_GoodSink.mk (impl_GoodSink.q5 v0 v1 v2 v3 v4 v5 v6 v7 v8 v9 v10)
noncomputable def impl_GoodSink.t {γ : Type} (ret : (Bool) → Option γ) (lp5 : (List Int) → Int → (List Int) → (List (Int × Int × List Int)) → (List Int) → Int → Int → Int → (List (Int × Int × List Int)) → Int → Int → Option γ) (v0 : List Int) (v1 : Int) (v2 : List Int) (v3 : List (Int × Int × List Int)) (v4 : List Int) (v5 : Int) (v6 : Int) : Option γ :=
 bif decide ((↑v0.length : Int) > (30 : Int)) then
  ret (Bool.false)
 else
  (impl_within (v1) ((0 : Int)) ((↑v0.length : Int))).bind fun (r0 : Bool) =>
  bif !r0 then
   ret (Bool.false)
  else
   (impl_within (v6) ((0 : Int)) (v1)).bind fun (r1 : Bool) =>
   bif !r1 then
    ret (Bool.false)
   else
    bif decide ((↑v3.length : Int) > (4 : Int)) then
     ret (Bool.false)
    else
     (impl_within (v5) ((0 : Int)) ((1000 : Int))).bind fun (r2 : Bool) =>
     bif !r2 then
      ret (Bool.false)
     else
      lp5 (v0) (v1) (v2) (v3) (v4) (v5) (v6) (v6) (v3) ((↑v3.length : Int)) ((0 : Int))
noncomputable def impl_GoodSink.t5 {γ : Type} (ret : (Bool) → Option γ) (lp5 : (List Int) → Int → (List Int) → (List (Int × Int × List Int)) → (List Int) → Int → Int → Int → (List (Int × Int × List Int)) → Int → Int → Option γ) (v0 : List Int) (v1 : Int) (v2 : List Int) (v3 : List (Int × Int × List Int)) (v4 : List Int) (v5 : Int) (v6 : Int) (v7 : Int) (v8 : List (Int × Int × List Int)) (v9 : Int) (v10 : Int) : Option γ :=
 bif decide (v10 < v9) then
  bif decide ((0 : Int) ≤ v10) then
   bif decide (v10.toNat < v8.length) then
    bif (v8.getD v10.toNat ((0 : Int), (0 : Int), [])).fst != IntKind.i64.wrap (IntKind.i64.wrap (v5 + (1 : Int)) + v10) then
     ret (Bool.false)
    else
     bif decide ((v8.getD v10.toNat ((0 : Int), (0 : Int), [])).fst > (1000 : Int)) then
      ret (Bool.false)
     else
      (impl_within ((v8.getD v10.toNat ((0 : Int), (0 : Int), [])).snd.fst) (v7) (v1)).bind fun (r3 : Bool) =>
      bif !r3 then
       ret (Bool.false)
      else
       bif decide ((0 : Int) ≤ (Option.some v7).getD (0 : Int)) then
        bif decide ((Option.some v7).getD (0 : Int) ≤ (v8.getD v10.toNat ((0 : Int), (0 : Int), [])).snd.fst) then
         bif decide ((v8.getD v10.toNat ((0 : Int), (0 : Int), [])).snd.fst ≤ (↑v0.length : Int)) then
          (xs05 ((v8.getD v10.toNat ((0 : Int), (0 : Int), [])).snd.snd) (List.take ((v8.getD v10.toNat ((0 : Int), (0 : Int), [])).snd.fst - (Option.some v7).getD (0 : Int)).toNat   (List.drop ((Option.some v7).getD (0 : Int)).toNat v0))).bind fun (r4 : Bool) =>
          bif !r4 then
           ret (Bool.false)
          else
           lp5 (v0) (v1) (v2) (v3) (v4) (v5) (v6) ((v8.getD v10.toNat ((0 : Int), (0 : Int), [])).snd.fst) (v8) (v9) (IntKind.i64.wrap (v10 + (1 : Int)))
         else
          none
        else
         none
       else
        none
   else
    none
  else
   none
 else
  bif decide (Option.none.getD (0 : Int) ≤ v6) then
   bif decide (v6 ≤ (↑v0.length : Int)) then
    (xs05 (v4) (List.take (v6 - Option.none.getD (0 : Int)).toNat (List.drop (Option.none.getD (0 : Int)).toNat v0))).bind fun (r5 : Bool) =>
    bif r5 then
     bif decide ((0 : Int) ≤ (Option.some v7).getD (0 : Int)) then
      bif decide ((Option.some v7).getD (0 : Int) ≤ v1) then
       bif decide (v1 ≤ (↑v0.length : Int)) then
        (xs05 (v2) (List.take (v1 - (Option.some v7).getD (0 : Int)).toNat (List.drop ((Option.some v7).getD (0 : Int)).toNat v0))).bind fun (r6 : Bool) =>
        ret (r6)
       else
        none
      else
       none
     else
      none
    else
     ret (Bool.false)
   else
    none
  else
   none
theorem impl_GoodSink.k (v0 : List Int) (v1 : Int) (v2 : List Int) (v3 : List (Int × Int × List Int)) (v4 : List Int) (v5 : Int) (v6 : Int) : topL E (callT E tab) 19 Try.f19 (impl_GoodSink.c v0 v1 v2 v3 v4 v5 v6) = impl_GoodSink.t (fun b => some (impl_GoodSink.mk b)) impl_GoodSink.q5 v0 v1 v2 v3 v4 v5 v6 := by kernel_rfl
theorem impl_GoodSink.k5 (v0 : List Int) (v1 : Int) (v2 : List Int) (v3 : List (Int × Int × List Int)) (v4 : List Int) (v5 : Int) (v6 : Int) (v7 : Int) (v8 : List (Int × Int × List Int)) (v9 : Int) (v10 : Int) : roundL E (callT E tab) 19 Try.f19 1 [.r, .r, .r, .l, .r, .b] (nn 1 (⟨(.box false), [.d .fro (.sl (.int .i64)) v0, iL v1, .d .fro (.sl (.int .i64)) v2, .d .fro (.sl (.pair (.int .i64) (.pair (.int .i64) (.sl (.int .i64))))) v3, .d .fro (.sl (.int .i64)) v4, iL v5, iL v6], false, false, false, 0, 0⟩ :: nn 1 (vc (iL v7) :: nn 38 (vc (.d .fro (.sl (.pair (.int .i64) (.pair (.int .i64) (.sl (.int .i64))))) v8) :: vc (iL v9) :: vc (iL v10) :: nn 60 ([]))))) = impl_GoodSink.t5 (fun b => some (impl_GoodSink.mk b)) impl_GoodSink.q5 v0 v1 v2 v3 v4 v5 v6 v7 v8 v9 v10 := by kernel_rfl
theorem impl_GoodSink.eq (v0 : List Int) (v1 : Int) (v2 : List Int) (v3 : List (Int × Int × List Int)) (v4 : List Int) (v5 : Int) (v6 : Int) {b : Bool} (h : impl_GoodSink.t some impl_GoodSink.l5 v0 v1 v2 v3 v4 v5 v6 = some b) : impl_GoodSink v0 v1 v2 v3 v4 v5 v6 = some b := tOf_intro impl_GoodSink.un (fun _ => by kernel_rfl) (vlim_fn (callT_le E tab) rfl rfl rfl ((impl_GoodSink.k v0 v1 v2 v3 v4 v5 v6).trans ((by unfold impl_GoodSink.t; repeat' first | exact Sub.ret | exact Sub.none | exact Sub.loop | apply Sub.cond | (apply Sub.bind; intro _) : Sub impl_GoodSink.mk _ _) b h)))
theorem impl_GoodSink.eq5 (v0 : List Int) (v1 : Int) (v2 : List Int) (v3 : List (Int × Int × List Int)) (v4 : List Int) (v5 : Int) (v6 : Int) (v7 : Int) (v8 : List (Int × Int × List Int)) (v9 : Int) (v10 : Int) {b : Bool} (h : impl_GoodSink.t5 some impl_GoodSink.l5 v0 v1 v2 v3 v4 v5 v6 v7 v8 v9 v10 = some b) : impl_GoodSink.l5 v0 v1 v2 v3 v4 v5 v6 v7 v8 v9 v10 = some b := tOf_intro impl_GoodSink.un (fun _ => by kernel_rfl) (loopAtL_step ((impl_GoodSink.k5 v0 v1 v2 v3 v4 v5 v6 v7 v8 v9 v10).trans ((by unfold impl_GoodSink.t5; repeat' first | exact Sub.ret | exact Sub.none | exact Sub.loop | apply Sub.cond | (apply Sub.bind; intro _) : Sub impl_GoodSink.mk _ _) b h)))
noncomputable def impl_within.t {γ : Type} (ret : (Bool) → Option γ) (v0 : Int) (v1 : Int) (v2 : Int) : Option γ :=
 bif decide (v1 ≤ v0) then
  ret (decide (v0 ≤ v2))
 else
  ret (Bool.false)
theorem impl_within.k (v0 : Int) (v1 : Int) (v2 : Int) : topL E (callT E tab) 44 Try.f44 (impl_within.c v0 v1 v2) = impl_within.t (fun b => some (impl_within.mk b)) v0 v1 v2 := by kernel_rfl
theorem impl_within.eq (v0 : Int) (v1 : Int) (v2 : Int) {b : Bool} (h : impl_within.t some v0 v1 v2 = some b) : impl_within v0 v1 v2 = some b := tOf_intro impl_within.un (fun _ => by kernel_rfl) (vlim_fn (callT_le E tab) rfl rfl rfl ((impl_within.k v0 v1 v2).trans ((by unfold impl_within.t; repeat' first | exact Sub.ret | exact Sub.none | exact Sub.loop | apply Sub.cond | (apply Sub.bind; intro _) : Sub impl_within.mk _ _) b h)))
noncomputable def xs05.q4 (v0 : List Int) (v1 : List Int) (v2 : Int) (v3 : Int) : Option R := loopAtL E (callT E tab) 45 Try.f45 2 [.r, .r, .l, .r, .b] (vc (.d .fro (.sl (.int .i64)) v0) :: vc (.d .fro (.sl (.int .i64)) v1) :: nn 10 (vc (iL v2) :: vc (iL v3) :: nn 12 ([])))
noncomputable def xs05.l4 (v0 : List Int) (v1 : List Int) (v2 : Int) (v3 : Int) : Option (Bool) := tOf xs05.mk (xs05.q4 v0 v1 v2 v3)
noncomputable def xs05.t {γ : Type} (ret : (Bool) → Option γ) (lp4 : (List Int) → (List Int) → Int → Int → Option γ) (v0 : List Int) (v1 : List Int) : Option γ :=
 bif (↑v0.length : Int) != (↑v1.length : Int) then
  ret (Bool.false)
 else
  lp4 (v0) (v1) ((↑v0.length : Int)) ((0 : Int))
noncomputable def xs05.t4 {γ : Type} (ret : (Bool) → Option γ) (lp4 : (List Int) → (List Int) → Int → Int → Option γ) (v0 : List Int) (v1 : List Int) (v2 : Int) (v3 : Int) : Option γ :=
 bif decide (v3 < v2) then
  bif decide ((0 : Int) ≤ v3) then
   bif decide (v3.toNat < v0.length) then
    bif decide ((0 : Int) ≤ v3) then
     bif decide (v3.toNat < v1.length) then
      bif v0.getD v3.toNat (0 : Int) != v1.getD v3.toNat (0 : Int) then
       ret (Bool.false)
      else
       lp4 (v0) (v1) (v2) (IntKind.i64.wrap (v3 + (1 : Int)))
     else
      none
    else
     none
   else
    none
  else
   none
 else
  ret (Bool.true)
theorem xs05.k (v0 : List Int) (v1 : List Int) : topL E (callT E tab) 45 Try.f45 (xs05.c v0 v1) = xs05.t (fun b => some (xs05.mk b)) xs05.q4 v0 v1 := by kernel_rfl
theorem xs05.k4 (v0 : List Int) (v1 : List Int) (v2 : Int) (v3 : Int) : roundL E (callT E tab) 45 Try.f45 2 [.r, .r, .l, .r, .b] (vc (.d .fro (.sl (.int .i64)) v0) :: vc (.d .fro (.sl (.int .i64)) v1) :: nn 10 (vc (iL v2) :: vc (iL v3) :: nn 12 ([]))) = xs05.t4 (fun b => some (xs05.mk b)) xs05.q4 v0 v1 v2 v3 := by kernel_rfl
theorem xs05.eq (v0 : List Int) (v1 : List Int) {b : Bool} (h : xs05.t some xs05.l4 v0 v1 = some b) : xs05 v0 v1 = some b := tOf_intro xs05.un (fun _ => by kernel_rfl) (vlim_fn (callT_le E tab) rfl rfl rfl ((xs05.k v0 v1).trans ((by unfold xs05.t; repeat' first | exact Sub.ret | exact Sub.none | exact Sub.loop | apply Sub.cond | (apply Sub.bind; intro _) : Sub xs05.mk _ _) b h)))
theorem xs05.eq4 (v0 : List Int) (v1 : List Int) (v2 : Int) (v3 : Int) {b : Bool} (h : xs05.t4 some xs05.l4 v0 v1 v2 v3 = some b) : xs05.l4 v0 v1 v2 v3 = some b := tOf_intro xs05.un (fun _ => by kernel_rfl) (loopAtL_step ((xs05.k4 v0 v1 v2 v3).trans ((by unfold xs05.t4; repeat' first | exact Sub.ret | exact Sub.none | exact Sub.loop | apply Sub.cond | (apply Sub.bind; intro _) : Sub xs05.mk _ _) b h)))
noncomputable def impl_Sink_own.q4 (v0 : List Int) (v1 : Int) (v2 : List Int) (v3 : List (Int × Int × List Int)) (v4 : List Int) (v5 : Int) (v6 : Int) (v7 : List Int) (v8 : Int) (v9 : List Int) (v10 : List (Int × Int × List Int)) (v11 : List Int) (v12 : Int) (v13 : Int) (v14 : List (Int × Int × List Int)) (v15 : List (Int × Int × List Int)) (v16 : Int) (v17 : Int) : Option R := loopAtL E (callT E tab) 30 Try.f30 1 [.r, .r, .r, .l, .r, .b] (nn 1 (⟨(.box false), [.d .deep (.sl (.int .i64)) v0, iL v1, .d .deep (.sl (.int .i64)) v2, .d .fro (.sl (.pair (.int .i64) (.pair (.int .i64) (.sl (.int .i64))))) v3, .d .deep (.sl (.int .i64)) v4, iL v5, iL v6], false, false, false, 0, 0⟩ :: ⟨(.box false), [.d .deep (.sl (.int .i64)) v7, iL v8, .d .deep (.sl (.int .i64)) v9, .d .deep (.sl (.pair (.int .i64) (.pair (.int .i64) (.sl (.int .i64))))) v10, .d .deep (.sl (.int .i64)) v11, iL v12, iL v13], false, false, false, 0, 0⟩ :: vc (.d .deep (.sl (.pair (.int .i64) (.pair (.int .i64) (.sl (.int .i64))))) v14) :: nn 15 (vc (.d .fro (.sl (.pair (.int .i64) (.pair (.int .i64) (.sl (.int .i64))))) v15) :: vc (iL v16) :: vc (iL v17) :: nn 18 ([]))))
noncomputable def impl_Sink_own.l4 (v0 : List Int) (v1 : Int) (v2 : List Int) (v3 : List (Int × Int × List Int)) (v4 : List Int) (v5 : Int) (v6 : Int) (v7 : List Int) (v8 : Int) (v9 : List Int) (v10 : List (Int × Int × List Int)) (v11 : List Int) (v12 : Int) (v13 : Int) (v14 : List (Int × Int × List Int)) (v15 : List (Int × Int × List Int)) (v16 : Int) (v17 : Int) : Option ((List Int) × Int × (List Int) × (List (Int × Int × List Int)) × (List Int) × Int × Int) := tOf impl_Sink_own.mk (impl_Sink_own.q4 v0 v1 v2 v3 v4 v5 v6 v7 v8 v9 v10 v11 v12 v13 v14 v15 v16 v17)
noncomputable def impl_Sink_own.t {γ : Type} (ret : ((List Int) × Int × (List Int) × (List (Int × Int × List Int)) × (List Int) × Int × Int) → Option γ) (lp4 : (List Int) → Int → (List Int) → (List (Int × Int × List Int)) → (List Int) → Int → Int → (List Int) → Int → (List Int) → (List (Int × Int × List Int)) → (List Int) → Int → Int → (List (Int × Int × List Int)) → (List (Int × Int × List Int)) → Int → Int → Option γ) (v0 : List Int) (v1 : Int) (v2 : List Int) (v3 : List (Int × Int × List Int)) (v4 : List Int) (v5 : Int) (v6 : Int) : Option γ :=
 (xs04 (v0)).bind fun (r0 : (List Int)) =>
 (xs04 (v2)).bind fun (r1 : (List Int)) =>
 (xs04 (v4)).bind fun (r2 : (List Int)) =>
 lp4 (r0) (v1) (r1) (v3) (r2) (v5) (v6) ([]) ((0 : Int)) ([]) ([]) ([]) ((0 : Int)) ((0 : Int)) ([]) (v3) ((↑v3.length : Int)) ((0 : Int))
noncomputable def impl_Sink_own.t4 {γ : Type} (ret : ((List Int) × Int × (List Int) × (List (Int × Int × List Int)) × (List Int) × Int × Int) → Option γ) (lp4 : (List Int) → Int → (List Int) → (List (Int × Int × List Int)) → (List Int) → Int → Int → (List Int) → Int → (List Int) → (List (Int × Int × List Int)) → (List Int) → Int → Int → (List (Int × Int × List Int)) → (List (Int × Int × List Int)) → Int → Int → Option γ) (v0 : List Int) (v1 : Int) (v2 : List Int) (v3 : List (Int × Int × List Int)) (v4 : List Int) (v5 : Int) (v6 : Int) (v7 : List Int) (v8 : Int) (v9 : List Int) (v10 : List (Int × Int × List Int)) (v11 : List Int) (v12 : Int) (v13 : Int) (v14 : List (Int × Int × List Int)) (v15 : List (Int × Int × List Int)) (v16 : Int) (v17 : Int) : Option γ :=
 bif decide (v17 < v16) then
  bif decide ((0 : Int) ≤ v17) then
   bif decide (v17.toNat < v15.length) then
    (xs04 ((v15.getD v17.toNat ((0 : Int), (0 : Int), [])).snd.snd)).bind fun (r3 : (List Int)) =>
    bif decide   (v14.length +       [((v15.getD v17.toNat ((0 : Int), (0 : Int), [])).fst, (v15.getD v17.toNat ((0 : Int), (0 : Int), [])).snd.fst,             r3)].length ≤     (4294967296 : Nat)) then
     lp4 (v0) (v1) (v2) (v3) (v4) (v5) (v6) (v7) (v8) (v9) (v10) (v11) (v12) (v13) (v14 ++   [((v15.getD v17.toNat ((0 : Int), (0 : Int), [])).fst, (v15.getD v17.toNat ((0 : Int), (0 : Int), [])).snd.fst, r3)]) (v15) (v16) (IntKind.i64.wrap (v17 + (1 : Int)))
    else
     none
   else
    none
  else
   none
 else
  ret (v0, v1, v2, v14, v4, v5, v6)
theorem impl_Sink_own.k (v0 : List Int) (v1 : Int) (v2 : List Int) (v3 : List (Int × Int × List Int)) (v4 : List Int) (v5 : Int) (v6 : Int) : topL E (callT E tab) 30 Try.f30 (impl_Sink_own.c v0 v1 v2 v3 v4 v5 v6) = impl_Sink_own.t (fun b => some (impl_Sink_own.mk b)) impl_Sink_own.q4 v0 v1 v2 v3 v4 v5 v6 := by kernel_rfl
theorem impl_Sink_own.k4 (v0 : List Int) (v1 : Int) (v2 : List Int) (v3 : List (Int × Int × List Int)) (v4 : List Int) (v5 : Int) (v6 : Int) (v7 : List Int) (v8 : Int) (v9 : List Int) (v10 : List (Int × Int × List Int)) (v11 : List Int) (v12 : Int) (v13 : Int) (v14 : List (Int × Int × List Int)) (v15 : List (Int × Int × List Int)) (v16 : Int) (v17 : Int) : roundL E (callT E tab) 30 Try.f30 1 [.r, .r, .r, .l, .r, .b] (nn 1 (⟨(.box false), [.d .deep (.sl (.int .i64)) v0, iL v1, .d .deep (.sl (.int .i64)) v2, .d .fro (.sl (.pair (.int .i64) (.pair (.int .i64) (.sl (.int .i64))))) v3, .d .deep (.sl (.int .i64)) v4, iL v5, iL v6], false, false, false, 0, 0⟩ :: ⟨(.box false), [.d .deep (.sl (.int .i64)) v7, iL v8, .d .deep (.sl (.int .i64)) v9, .d .deep (.sl (.pair (.int .i64) (.pair (.int .i64) (.sl (.int .i64))))) v10, .d .deep (.sl (.int .i64)) v11, iL v12, iL v13], false, false, false, 0, 0⟩ :: vc (.d .deep (.sl (.pair (.int .i64) (.pair (.int .i64) (.sl (.int .i64))))) v14) :: nn 15 (vc (.d .fro (.sl (.pair (.int .i64) (.pair (.int .i64) (.sl (.int .i64))))) v15) :: vc (iL v16) :: vc (iL v17) :: nn 18 ([])))) = impl_Sink_own.t4 (fun b => some (impl_Sink_own.mk b)) impl_Sink_own.q4 v0 v1 v2 v3 v4 v5 v6 v7 v8 v9 v10 v11 v12 v13 v14 v15 v16 v17 := by kernel_rfl
theorem impl_Sink_own.eq (v0 : List Int) (v1 : Int) (v2 : List Int) (v3 : List (Int × Int × List Int)) (v4 : List Int) (v5 : Int) (v6 : Int) {b : (List Int) × Int × (List Int) × (List (Int × Int × List Int)) × (List Int) × Int × Int} (h : impl_Sink_own.t some impl_Sink_own.l4 v0 v1 v2 v3 v4 v5 v6 = some b) : impl_Sink_own v0 v1 v2 v3 v4 v5 v6 = some b := tOf_intro impl_Sink_own.un (fun _ => by kernel_rfl) (vlim_fn (callT_le E tab) rfl rfl rfl ((impl_Sink_own.k v0 v1 v2 v3 v4 v5 v6).trans ((by unfold impl_Sink_own.t; repeat' first | exact Sub.ret | exact Sub.none | exact Sub.loop | apply Sub.cond | (apply Sub.bind; intro _) : Sub impl_Sink_own.mk _ _) b h)))
theorem impl_Sink_own.eq4 (v0 : List Int) (v1 : Int) (v2 : List Int) (v3 : List (Int × Int × List Int)) (v4 : List Int) (v5 : Int) (v6 : Int) (v7 : List Int) (v8 : Int) (v9 : List Int) (v10 : List (Int × Int × List Int)) (v11 : List Int) (v12 : Int) (v13 : Int) (v14 : List (Int × Int × List Int)) (v15 : List (Int × Int × List Int)) (v16 : Int) (v17 : Int) {b : (List Int) × Int × (List Int) × (List (Int × Int × List Int)) × (List Int) × Int × Int} (h : impl_Sink_own.t4 some impl_Sink_own.l4 v0 v1 v2 v3 v4 v5 v6 v7 v8 v9 v10 v11 v12 v13 v14 v15 v16 v17 = some b) : impl_Sink_own.l4 v0 v1 v2 v3 v4 v5 v6 v7 v8 v9 v10 v11 v12 v13 v14 v15 v16 v17 = some b := tOf_intro impl_Sink_own.un (fun _ => by kernel_rfl) (loopAtL_step ((impl_Sink_own.k4 v0 v1 v2 v3 v4 v5 v6 v7 v8 v9 v10 v11 v12 v13 v14 v15 v16 v17).trans ((by unfold impl_Sink_own.t4; repeat' first | exact Sub.ret | exact Sub.none | exact Sub.loop | apply Sub.cond | (apply Sub.bind; intro _) : Sub impl_Sink_own.mk _ _) b h)))
end GoV

/- Equations of the program's functions (printed by wip/tools/emit.py). -/
namespace GoV
open Go Go.Proofs
set_option maxRecDepth 100000

noncomputable def xs04.t {γ : Type} (ret : ((List Int)) → Option γ) (v0 : List Int) : Option γ :=
 bif decide (v0.length ≤ (4294967296 : Nat)) then
  ret (v0)
 else
  none
theorem xs04.k (v0 : List Int) : extOf 52 (xs04.c v0) = xs04.t (fun b => some (xs04.mk b)) v0 := by kernel_rfl
theorem xs04.eq (v0 : List Int) {b : (List Int)} (h : xs04.t some v0 = some b) : xs04 v0 = some b := tOf_intro xs04.un (fun _ => by kernel_rfl) (vlim_ext (g := extOf 52) rfl ((xs04.k v0).trans ((by unfold xs04.t; repeat' first | exact Sub.ret | exact Sub.none | exact Sub.loop | apply Sub.cond | (apply Sub.bind; intro _) : Sub xs04.mk _ _) b h)))
noncomputable def xi06.t {γ : Type} (ret : (Bool × (List Int) × Int × (List Int) × (List (Int × Int × List Int)) × (List Int) × Int × Int) → Option γ) (v0 : List Int) (v1 : Int) (v2 : List Int) (v3 : List (Int × Int × List Int)) (v4 : List Int) (v5 : Int) (v6 : Int) : Option γ :=
 (impl_Sink_stored (v0) (v1) (v2) (v3) (v4) (v5) (v6)).bind fun (r0 : Int) =>
 ret (Bool.true, v0, r0, [], v3, v4, v5, v6)
theorem xi06.k (v0 : List Int) (v1 : Int) (v2 : List Int) (v3 : List (Int × Int × List Int)) (v4 : List Int) (v5 : Int) (v6 : Int) : topL E (callT E tab) 31 Try.f31 (xi06.c v0 v1 v2 v3 v4 v5 v6) = xi06.t (fun b => some (xi06.mk b)) v0 v1 v2 v3 v4 v5 v6 := by kernel_rfl
theorem xi06.eq (v0 : List Int) (v1 : Int) (v2 : List Int) (v3 : List (Int × Int × List Int)) (v4 : List Int) (v5 : Int) (v6 : Int) {b : Bool × (List Int) × Int × (List Int) × (List (Int × Int × List Int)) × (List Int) × Int × Int} (h : xi06.t some v0 v1 v2 v3 v4 v5 v6 = some b) : xi06 v0 v1 v2 v3 v4 v5 v6 = some b := tOf_intro xi06.un (fun _ => by kernel_rfl) (vlim_fn (callT_le E tab) rfl rfl rfl ((xi06.k v0 v1 v2 v3 v4 v5 v6).trans ((by unfold xi06.t; repeat' first | exact Sub.ret | exact Sub.none | exact Sub.loop | apply Sub.cond | (apply Sub.bind; intro _) : Sub xi06.mk _ _) b h)))
noncomputable def impl_Sink_stored.t {γ : Type} (ret : (Int) → Option γ) (v0 : List Int) (v1 : Int) (v2 : List Int) (v3 : List (Int × Int × List Int)) (v4 : List Int) (v5 : Int) (v6 : Int) : Option γ :=
 bif decide (IntKind.i64.wrap ((↑v3.length : Int) - (1 : Int)) ≥ (0 : Int)) then
  bif decide ((0 : Int) ≤ IntKind.i64.wrap ((↑v3.length : Int) - (1 : Int))) then
   bif decide ((IntKind.i64.wrap ((↑v3.length : Int) - (1 : Int))).toNat < v3.length) then
    ret ((v3.getD (IntKind.i64.wrap ((↑v3.length : Int) - (1 : Int))).toNat ((0 : Int), (0 : Int), [])).snd.fst)
   else
    none
  else
   none
 else
  ret (v6)
theorem impl_Sink_stored.k (v0 : List Int) (v1 : Int) (v2 : List Int) (v3 : List (Int × Int × List Int)) (v4 : List Int) (v5 : Int) (v6 : Int) : topL E (callT E tab) 53 Try.f53 (impl_Sink_stored.c v0 v1 v2 v3 v4 v5 v6) = impl_Sink_stored.t (fun b => some (impl_Sink_stored.mk b)) v0 v1 v2 v3 v4 v5 v6 := by kernel_rfl
theorem impl_Sink_stored.eq (v0 : List Int) (v1 : Int) (v2 : List Int) (v3 : List (Int × Int × List Int)) (v4 : List Int) (v5 : Int) (v6 : Int) {b : Int} (h : impl_Sink_stored.t some v0 v1 v2 v3 v4 v5 v6 = some b) : impl_Sink_stored v0 v1 v2 v3 v4 v5 v6 = some b := tOf_intro impl_Sink_stored.un (fun _ => by kernel_rfl) (vlim_fn (callT_le E tab) rfl rfl rfl ((impl_Sink_stored.k v0 v1 v2 v3 v4 v5 v6).trans ((by unfold impl_Sink_stored.t; repeat' first | exact Sub.ret | exact Sub.none | exact Sub.loop | apply Sub.cond | (apply Sub.bind; intro _) : Sub impl_Sink_stored.mk _ _) b h)))
noncomputable def xi07.q2 (v0 : List Int) (v1 : Int) (v2 : List Int) (v3 : List (Int × Int × List Int)) (v4 : List Int) (v5 : Int) (v6 : Int) (v7 : Int) (v8 : Int) : Option R := loopAtL E (callT E tab) 32 Try.f32 2 [.r, .r, .l, .b] (⟨(.box false), [.d .deep (.sl (.int .i64)) v0, iL v1, .d .deep (.sl (.int .i64)) v2, .d .deep (.sl (.pair (.int .i64) (.pair (.int .i64) (.sl (.int .i64))))) v3, .d .deep (.sl (.int .i64)) v4, iL v5, iL v6], true, false, false, 0, 0⟩ :: vc (iL v7) :: nn 3 (vc (iL v8) :: nn 6 ([])))
noncomputable def xi07.l2 (v0 : List Int) (v1 : Int) (v2 : List Int) (v3 : List (Int × Int × List Int)) (v4 : List Int) (v5 : Int) (v6 : Int) (v7 : Int) (v8 : Int) : Option (Int × (List Int) × Int × (List Int) × (List (Int × Int × List Int)) × (List Int) × Int × Int) := tOf xi07.mk (xi07.q2 v0 v1 v2 v3 v4 v5 v6 v7 v8)
noncomputable def xi07.t {γ : Type} (ret : (Int × (List Int) × Int × (List Int) × (List (Int × Int × List Int)) × (List Int) × Int × Int) → Option γ) (lp2 : (List Int) → Int → (List Int) → (List (Int × Int × List Int)) → (List Int) → Int → Int → Int → Int → Option γ) (v0 : List Int) (v1 : Int) (v2 : List Int) (v3 : List (Int × Int × List Int)) (v4 : List Int) (v5 : Int) (v6 : Int) (v7 : Int) : Option γ :=
 lp2 (v0) (v1) (v2) (v3) (v4) (v5) (v6) (v7) ((0 : Int))
noncomputable def xi07.t2 {γ : Type} (ret : (Int × (List Int) × Int × (List Int) × (List (Int × Int × List Int)) × (List Int) × Int × Int) → Option γ) (lp2 : (List Int) → Int → (List Int) → (List (Int × Int × List Int)) → (List Int) → Int → Int → Int → Int → Option γ) (v0 : List Int) (v1 : Int) (v2 : List Int) (v3 : List (Int × Int × List Int)) (v4 : List Int) (v5 : Int) (v6 : Int) (v7 : Int) (v8 : Int) : Option γ :=
 (impl_Sink_step_1e4 (v0) (v1) (v2) (v3) (v4) (v5) (v6) (v7)).bind fun (r0 : Bool × (List Int) × Int × (List Int) × (List (Int × Int × List Int)) × (List Int) × Int × Int) =>
 bif r0.fst then
  lp2 (r0.snd.fst) (r0.snd.snd.fst) (r0.snd.snd.snd.fst) (r0.snd.snd.snd.snd.fst) (r0.snd.snd.snd.snd.snd.fst) (r0.snd.snd.snd.snd.snd.snd.fst) (r0.snd.snd.snd.snd.snd.snd.snd) (v7) (IntKind.i64.wrap (v8 + (1 : Int)))
 else
  ret (v8, r0.snd.fst, r0.snd.snd.fst, r0.snd.snd.snd.fst, r0.snd.snd.snd.snd.fst, r0.snd.snd.snd.snd.snd.fst, r0.snd.snd.snd.snd.snd.snd.fst, r0.snd.snd.snd.snd.snd.snd.snd)
theorem xi07.k (v0 : List Int) (v1 : Int) (v2 : List Int) (v3 : List (Int × Int × List Int)) (v4 : List Int) (v5 : Int) (v6 : Int) (v7 : Int) : topL E (callT E tab) 32 Try.f32 (xi07.c v0 v1 v2 v3 v4 v5 v6 v7) = xi07.t (fun b => some (xi07.mk b)) xi07.q2 v0 v1 v2 v3 v4 v5 v6 v7 := by kernel_rfl
theorem xi07.k2 (v0 : List Int) (v1 : Int) (v2 : List Int) (v3 : List (Int × Int × List Int)) (v4 : List Int) (v5 : Int) (v6 : Int) (v7 : Int) (v8 : Int) : roundL E (callT E tab) 32 Try.f32 2 [.r, .r, .l, .b] (⟨(.box false), [.d .deep (.sl (.int .i64)) v0, iL v1, .d .deep (.sl (.int .i64)) v2, .d .deep (.sl (.pair (.int .i64) (.pair (.int .i64) (.sl (.int .i64))))) v3, .d .deep (.sl (.int .i64)) v4, iL v5, iL v6], true, false, false, 0, 0⟩ :: vc (iL v7) :: nn 3 (vc (iL v8) :: nn 6 ([]))) = xi07.t2 (fun b => some (xi07.mk b)) xi07.q2 v0 v1 v2 v3 v4 v5 v6 v7 v8 := by kernel_rfl
theorem xi07.eq (v0 : List Int) (v1 : Int) (v2 : List Int) (v3 : List (Int × Int × List Int)) (v4 : List Int) (v5 : Int) (v6 : Int) (v7 : Int) {b : Int × (List Int) × Int × (List Int) × (List (Int × Int × List Int)) × (List Int) × Int × Int} (h : xi07.t some xi07.l2 v0 v1 v2 v3 v4 v5 v6 v7 = some b) : xi07 v0 v1 v2 v3 v4 v5 v6 v7 = some b := tOf_intro xi07.un (fun _ => by kernel_rfl) (vlim_fn (callT_le E tab) rfl rfl rfl ((xi07.k v0 v1 v2 v3 v4 v5 v6 v7).trans ((by unfold xi07.t; repeat' first | exact Sub.ret | exact Sub.none | exact Sub.loop | apply Sub.cond | (apply Sub.bind; intro _) : Sub xi07.mk _ _) b h)))
theorem xi07.eq2 (v0 : List Int) (v1 : Int) (v2 : List Int) (v3 : List (Int × Int × List Int)) (v4 : List Int) (v5 : Int) (v6 : Int) (v7 : Int) (v8 : Int) {b : Int × (List Int) × Int × (List Int) × (List (Int × Int × List Int)) × (List Int) × Int × Int} (h : xi07.t2 some xi07.l2 v0 v1 v2 v3 v4 v5 v6 v7 v8 = some b) : xi07.l2 v0 v1 v2 v3 v4 v5 v6 v7 v8 = some b := tOf_intro xi07.un (fun _ => by kernel_rfl) (loopAtL_step ((xi07.k2 v0 v1 v2 v3 v4 v5 v6 v7 v8).trans ((by unfold xi07.t2; repeat' first | exact Sub.ret | exact Sub.none | exact Sub.loop | apply Sub.cond | (apply Sub.bind; intro _) : Sub xi07.mk _ _) b h)))
noncomputable def impl_Sink_step_1e4.t {γ : Type} (ret : (Bool × (List Int) × Int × (List Int) × (List (Int × Int × List Int)) × (List Int) × Int × Int) → Option γ) (v0 : List Int) (v1 : Int) (v2 : List Int) (v3 : List (Int × Int × List Int)) (v4 : List Int) (v5 : Int) (v6 : Int) (v7 : Int) : Option γ :=
 bif v7 == (1 : Int) then
  (impl_Sink_read_dfc (v0) (v1) (v2) (v3) (v4) (v5) (v6)).bind fun (r0 : Bool × (List Int) × Int × (List Int) × (List (Int × Int × List Int)) × (List Int) × Int × Int) =>
  ret (r0.fst, r0.snd.fst, r0.snd.snd.fst, r0.snd.snd.snd.fst, r0.snd.snd.snd.snd.fst, r0.snd.snd.snd.snd.snd.fst, r0.snd.snd.snd.snd.snd.snd.fst, r0.snd.snd.snd.snd.snd.snd.snd)
 else
  bif v7 == (2 : Int) then
   (xi01 (v0) (v1) (v2) (v3) (v4) (v5) (v6)).bind fun (r1 : Bool × (List Int) × Int × (List Int) × (List (Int × Int × List Int)) × (List Int) × Int × Int) =>
   ret (r1.fst, r1.snd.fst, r1.snd.snd.fst, r1.snd.snd.snd.fst, r1.snd.snd.snd.snd.fst, r1.snd.snd.snd.snd.snd.fst, r1.snd.snd.snd.snd.snd.snd.fst, r1.snd.snd.snd.snd.snd.snd.snd)
  else
   bif v7 == (3 : Int) then
    (xi03 (v0) (v1) (v2) (v3) (v4) (v5) (v6)).bind fun (r2 : Bool × (List Int) × Int × (List Int) × (List (Int × Int × List Int)) × (List Int) × Int × Int) =>
    ret (r2.fst, r2.snd.fst, r2.snd.snd.fst, r2.snd.snd.snd.fst, r2.snd.snd.snd.snd.fst, r2.snd.snd.snd.snd.snd.fst, r2.snd.snd.snd.snd.snd.snd.fst, r2.snd.snd.snd.snd.snd.snd.snd)
   else
    bif v7 == (4 : Int) then
     (xi06 (v0) (v1) (v2) (v3) (v4) (v5) (v6)).bind fun (r3 : Bool × (List Int) × Int × (List Int) × (List (Int × Int × List Int)) × (List Int) × Int × Int) =>
     ret (r3.fst, r3.snd.fst, r3.snd.snd.fst, r3.snd.snd.snd.fst, r3.snd.snd.snd.snd.fst, r3.snd.snd.snd.snd.snd.fst, r3.snd.snd.snd.snd.snd.snd.fst, r3.snd.snd.snd.snd.snd.snd.snd)
    else
     bif v7 == (5 : Int) then
      bif decide ((↑v3.length : Int) < (2 : Int)) then
       ret (Bool.false, v0, v1, v2, v3, v4, v5, v6)
      else
       bif decide (Option.none.getD (0 : Int) ≤ IntKind.i64.wrap ((↑v3.length : Int) - (1 : Int))) then
        bif decide (IntKind.i64.wrap ((↑v3.length : Int) - (1 : Int)) ≤ (↑v3.length : Int)) then
         (xi06 (v0) (v1) (v2) (List.take (IntKind.i64.wrap ((↑v3.length : Int) - (1 : Int)) - Option.none.getD (0 : Int)).toNat   (List.drop (Option.none.getD (0 : Int)).toNat v3)) (v4) (v5) (v6)).bind fun (r4 : Bool × (List Int) × Int × (List Int) × (List (Int × Int × List Int)) × (List Int) × Int × Int) =>
         ret (r4.fst, r4.snd.fst, r4.snd.snd.fst, r4.snd.snd.snd.fst, r4.snd.snd.snd.snd.fst, r4.snd.snd.snd.snd.snd.fst, r4.snd.snd.snd.snd.snd.snd.fst, r4.snd.snd.snd.snd.snd.snd.snd)
        else
         none
       else
        none
     else
      ret (Bool.false, v0, v1, v2, v3, v4, v5, v6)
theorem impl_Sink_step_1e4.k (v0 : List Int) (v1 : Int) (v2 : List Int) (v3 : List (Int × Int × List Int)) (v4 : List Int) (v5 : Int) (v6 : Int) (v7 : Int) : topL E (callT E tab) 43 Try.f43 (impl_Sink_step_1e4.c v0 v1 v2 v3 v4 v5 v6 v7) = impl_Sink_step_1e4.t (fun b => some (impl_Sink_step_1e4.mk b)) v0 v1 v2 v3 v4 v5 v6 v7 := by kernel_rfl
theorem impl_Sink_step_1e4.eq (v0 : List Int) (v1 : Int) (v2 : List Int) (v3 : List (Int × Int × List Int)) (v4 : List Int) (v5 : Int) (v6 : Int) (v7 : Int) {b : Bool × (List Int) × Int × (List Int) × (List (Int × Int × List Int)) × (List Int) × Int × Int} (h : impl_Sink_step_1e4.t some v0 v1 v2 v3 v4 v5 v6 v7 = some b) : impl_Sink_step_1e4 v0 v1 v2 v3 v4 v5 v6 v7 = some b := tOf_intro impl_Sink_step_1e4.un (fun _ => by kernel_rfl) (vlim_fn (callT_le E tab) rfl rfl rfl ((impl_Sink_step_1e4.k v0 v1 v2 v3 v4 v5 v6 v7).trans ((by unfold impl_Sink_step_1e4.t; repeat' first | exact Sub.ret | exact Sub.none | exact Sub.loop | apply Sub.cond | (apply Sub.bind; intro _) : Sub impl_Sink_step_1e4.mk _ _) b h)))
noncomputable def impl_Sink_read_dfc.t {γ : Type} (ret : (Bool × (List Int) × Int × (List Int) × (List (Int × Int × List Int)) × (List Int) × Int × Int) → Option γ) (v0 : List Int) (v1 : Int) (v2 : List Int) (v3 : List (Int × Int × List Int)) (v4 : List Int) (v5 : Int) (v6 : Int) : Option γ :=
 bif v1 == (↑v0.length : Int) then
  ret (Bool.false, v0, v1, v2, v3, v4, v5, v6)
 else
  bif decide ((0 : Int) ≤ v1) then
   bif decide (v1.toNat < v0.length) then
    bif decide (v1.toNat < v0.length) then
     bif decide (v2.length + [v0.getD v1.toNat (0 : Int)].length ≤ (4294967296 : Nat)) then
      ret (Bool.true, v0, IntKind.i64.wrap (v1 + (1 : Int)), v2 ++ [v0.getD v1.toNat (0 : Int)], v3, v4, v5, v6)
     else
      none
    else
     none
   else
    none
  else
   none
theorem impl_Sink_read_dfc.k (v0 : List Int) (v1 : Int) (v2 : List Int) (v3 : List (Int × Int × List Int)) (v4 : List Int) (v5 : Int) (v6 : Int) : topL E (callT E tab) 61 Try.f61 (impl_Sink_read_dfc.c v0 v1 v2 v3 v4 v5 v6) = impl_Sink_read_dfc.t (fun b => some (impl_Sink_read_dfc.mk b)) v0 v1 v2 v3 v4 v5 v6 := by kernel_rfl
theorem impl_Sink_read_dfc.eq (v0 : List Int) (v1 : Int) (v2 : List Int) (v3 : List (Int × Int × List Int)) (v4 : List Int) (v5 : Int) (v6 : Int) {b : Bool × (List Int) × Int × (List Int) × (List (Int × Int × List Int)) × (List Int) × Int × Int} (h : impl_Sink_read_dfc.t some v0 v1 v2 v3 v4 v5 v6 = some b) : impl_Sink_read_dfc v0 v1 v2 v3 v4 v5 v6 = some b := tOf_intro impl_Sink_read_dfc.un (fun _ => by kernel_rfl) (vlim_fn (callT_le E tab) rfl rfl rfl ((impl_Sink_read_dfc.k v0 v1 v2 v3 v4 v5 v6).trans ((by unfold impl_Sink_read_dfc.t; repeat' first | exact Sub.ret | exact Sub.none | exact Sub.loop | apply Sub.cond | (apply Sub.bind; intro _) : Sub impl_Sink_read_dfc.mk _ _) b h)))
noncomputable def xi01.t {γ : Type} (ret : (Bool × (List Int) × Int × (List Int) × (List (Int × Int × List Int)) × (List Int) × Int × Int) → Option γ) (v0 : List Int) (v1 : Int) (v2 : List Int) (v3 : List (Int × Int × List Int)) (v4 : List Int) (v5 : Int) (v6 : Int) : Option γ :=
 bif (↑v2.length : Int) == (0 : Int) then
  ret (Bool.false, v0, v1, v2, v3, v4, v5, v6)
 else
  bif decide ((↑v3.length : Int) ≥ (4 : Int)) then
   ret (Bool.false, v0, v1, v2, v3, v4, v5, v6)
  else
   bif decide (IntKind.i64.wrap (v5 + (↑v3.length : Int)) ≥ (1000 : Int)) then
    ret (Bool.false, v0, v1, v2, v3, v4, v5, v6)
   else
    bif decide   (v3.length + [(IntKind.i64.wrap (IntKind.i64.wrap (v5 + (↑v3.length : Int)) + (1 : Int)), v1, v2)].length ≤     (4294967296 : Nat)) then
     ret (Bool.true, v0, v1, [], v3 ++ [(IntKind.i64.wrap (IntKind.i64.wrap (v5 + (↑v3.length : Int)) + (1 : Int)), v1, v2)], v4, v5, v6)
    else
     none
theorem xi01.k (v0 : List Int) (v1 : Int) (v2 : List Int) (v3 : List (Int × Int × List Int)) (v4 : List Int) (v5 : Int) (v6 : Int) : topL E (callT E tab) 40 Try.f40 (xi01.c v0 v1 v2 v3 v4 v5 v6) = xi01.t (fun b => some (xi01.mk b)) v0 v1 v2 v3 v4 v5 v6 := by kernel_rfl
theorem xi01.eq (v0 : List Int) (v1 : Int) (v2 : List Int) (v3 : List (Int × Int × List Int)) (v4 : List Int) (v5 : Int) (v6 : Int) {b : Bool × (List Int) × Int × (List Int) × (List (Int × Int × List Int)) × (List Int) × Int × Int} (h : xi01.t some v0 v1 v2 v3 v4 v5 v6 = some b) : xi01 v0 v1 v2 v3 v4 v5 v6 = some b := tOf_intro xi01.un (fun _ => by kernel_rfl) (vlim_fn (callT_le E tab) rfl rfl rfl ((xi01.k v0 v1 v2 v3 v4 v5 v6).trans ((by unfold xi01.t; repeat' first | exact Sub.ret | exact Sub.none | exact Sub.loop | apply Sub.cond | (apply Sub.bind; intro _) : Sub xi01.mk _ _) b h)))
noncomputable def xi03.t {γ : Type} (ret : (Bool × (List Int) × Int × (List Int) × (List (Int × Int × List Int)) × (List Int) × Int × Int) → Option γ) (v0 : List Int) (v1 : Int) (v2 : List Int) (v3 : List (Int × Int × List Int)) (v4 : List Int) (v5 : Int) (v6 : Int) : Option γ :=
 bif (↑v3.length : Int) == (0 : Int) then
  ret (Bool.false, v0, v1, v2, v3, v4, v5, v6)
 else
  bif decide (Int.toNat (0 : Int) < v3.length) then
   bif decide (Int.toNat (0 : Int) < v3.length) then
    bif decide (Int.toNat (0 : Int) < v3.length) then
     bif decide (Int.toNat (0 : Int) < v3.length) then
      bif decide   (v4.length + (v3.getD (Int.toNat (0 : Int)) ((0 : Int), (0 : Int), [])).snd.snd.length ≤ (4294967296 : Nat)) then
       bif decide ((Option.some (1 : Int)).getD (0 : Int) ≤ (↑v3.length : Int)) then
        ret (Bool.true, v0, v1, v2, List.drop ((Option.some (1 : Int)).getD (0 : Int)).toNat v3, v4 ++ (v3.getD (Int.toNat (0 : Int)) ((0 : Int), (0 : Int), [])).snd.snd, (v3.getD (Int.toNat (0 : Int)) ((0 : Int), (0 : Int), [])).fst, (v3.getD (Int.toNat (0 : Int)) ((0 : Int), (0 : Int), [])).snd.fst)
       else
        none
      else
       none
     else
      none
    else
     none
   else
    none
  else
   none
theorem xi03.k (v0 : List Int) (v1 : Int) (v2 : List Int) (v3 : List (Int × Int × List Int)) (v4 : List Int) (v5 : Int) (v6 : Int) : topL E (callT E tab) 62 Try.f62 (xi03.c v0 v1 v2 v3 v4 v5 v6) = xi03.t (fun b => some (xi03.mk b)) v0 v1 v2 v3 v4 v5 v6 := by kernel_rfl
theorem xi03.eq (v0 : List Int) (v1 : Int) (v2 : List Int) (v3 : List (Int × Int × List Int)) (v4 : List Int) (v5 : Int) (v6 : Int) {b : Bool × (List Int) × Int × (List Int) × (List (Int × Int × List Int)) × (List Int) × Int × Int} (h : xi03.t some v0 v1 v2 v3 v4 v5 v6 = some b) : xi03 v0 v1 v2 v3 v4 v5 v6 = some b := tOf_intro xi03.un (fun _ => by kernel_rfl) (vlim_fn (callT_le E tab) rfl rfl rfl ((xi03.k v0 v1 v2 v3 v4 v5 v6).trans ((by unfold xi03.t; repeat' first | exact Sub.ret | exact Sub.none | exact Sub.loop | apply Sub.cond | (apply Sub.bind; intro _) : Sub xi03.mk _ _) b h)))
noncomputable def laws_eqSink.t {γ : Type} (ret : (Bool) → Option γ) (v0 : List Int) (v1 : Int) (v2 : List Int) (v3 : List (Int × Int × List Int)) (v4 : List Int) (v5 : Int) (v6 : Int) (v7 : List Int) (v8 : Int) (v9 : List Int) (v10 : List (Int × Int × List Int)) (v11 : List Int) (v12 : Int) (v13 : Int) : Option γ :=
 (laws_eqIntS (v0) (v7)).bind fun (r0 : Bool) =>
 bif !r0 then
  ret (Bool.false)
 else
  bif v1 != v8 then
   ret (Bool.false)
  else
   (laws_eqIntS (v2) (v9)).bind fun (r1 : Bool) =>
   bif !r1 then
    ret (Bool.false)
   else
    (laws_eqPreparedS (v3) (v10)).bind fun (r2 : Bool) =>
    bif !r2 then
     ret (Bool.false)
    else
     (laws_eqIntS (v4) (v11)).bind fun (r3 : Bool) =>
     bif !r3 then
      ret (Bool.false)
     else
      bif v5 != v12 then
       ret (Bool.false)
      else
       bif v6 != v13 then
        ret (Bool.false)
       else
        ret (Bool.true)
theorem laws_eqSink.k (v0 : List Int) (v1 : Int) (v2 : List Int) (v3 : List (Int × Int × List Int)) (v4 : List Int) (v5 : Int) (v6 : Int) (v7 : List Int) (v8 : Int) (v9 : List Int) (v10 : List (Int × Int × List Int)) (v11 : List Int) (v12 : Int) (v13 : Int) : topL E (callT E tab) 10 Try.f10 (laws_eqSink.c v0 v1 v2 v3 v4 v5 v6 v7 v8 v9 v10 v11 v12 v13) = laws_eqSink.t (fun b => some (laws_eqSink.mk b)) v0 v1 v2 v3 v4 v5 v6 v7 v8 v9 v10 v11 v12 v13 := by kernel_rfl
theorem laws_eqSink.eq (v0 : List Int) (v1 : Int) (v2 : List Int) (v3 : List (Int × Int × List Int)) (v4 : List Int) (v5 : Int) (v6 : Int) (v7 : List Int) (v8 : Int) (v9 : List Int) (v10 : List (Int × Int × List Int)) (v11 : List Int) (v12 : Int) (v13 : Int) {b : Bool} (h : laws_eqSink.t some v0 v1 v2 v3 v4 v5 v6 v7 v8 v9 v10 v11 v12 v13 = some b) : laws_eqSink v0 v1 v2 v3 v4 v5 v6 v7 v8 v9 v10 v11 v12 v13 = some b := tOf_intro laws_eqSink.un (fun _ => by kernel_rfl) (vlim_fn (callT_le E tab) rfl rfl rfl ((laws_eqSink.k v0 v1 v2 v3 v4 v5 v6 v7 v8 v9 v10 v11 v12 v13).trans ((by unfold laws_eqSink.t; repeat' first | exact Sub.ret | exact Sub.none | exact Sub.loop | apply Sub.cond | (apply Sub.bind; intro _) : Sub laws_eqSink.mk _ _) b h)))
noncomputable def laws_eqIntS.q4 (v0 : List Int) (v1 : List Int) (v2 : Int) : Option R := loopAtL E (callT E tab) 33 Try.f33 2 [.r, .r, .l, .r, .b] (vc (.d .fro (.sl (.int .i64)) v0) :: vc (.d .fro (.sl (.int .i64)) v1) :: nn 3 (vc (iL v2) :: nn 20 ([])))
noncomputable def laws_eqIntS.l4 (v0 : List Int) (v1 : List Int) (v2 : Int) : Option (Bool) := tOf laws_eqIntS.mk (laws_eqIntS.q4 v0 v1 v2)
noncomputable def laws_eqIntS.t {γ : Type} (ret : (Bool) → Option γ) (lp4 : (List Int) → (List Int) → Int → Option γ) (v0 : List Int) (v1 : List Int) : Option γ :=
 bif (↑v0.length : Int) != (↑v1.length : Int) then
  ret (Bool.false)
 else
  lp4 (v0) (v1) ((0 : Int))
noncomputable def laws_eqIntS.t4 {γ : Type} (ret : (Bool) → Option γ) (lp4 : (List Int) → (List Int) → Int → Option γ) (v0 : List Int) (v1 : List Int) (v2 : Int) : Option γ :=
 bif decide (v2 < (↑v0.length : Int)) then
  bif decide ((0 : Int) ≤ v2) then
   bif decide (v2.toNat < v0.length) then
    bif decide ((0 : Int) ≤ v2) then
     bif decide (v2.toNat < v1.length) then
      bif v0.getD v2.toNat (0 : Int) != v1.getD v2.toNat (0 : Int) then
       ret (Bool.false)
      else
       lp4 (v0) (v1) (IntKind.i64.wrap (v2 + (1 : Int)))
     else
      none
    else
     none
   else
    none
  else
   none
 else
  ret (Bool.true)
theorem laws_eqIntS.k (v0 : List Int) (v1 : List Int) : topL E (callT E tab) 33 Try.f33 (laws_eqIntS.c v0 v1) = laws_eqIntS.t (fun b => some (laws_eqIntS.mk b)) laws_eqIntS.q4 v0 v1 := by kernel_rfl
theorem laws_eqIntS.k4 (v0 : List Int) (v1 : List Int) (v2 : Int) : roundL E (callT E tab) 33 Try.f33 2 [.r, .r, .l, .r, .b] (vc (.d .fro (.sl (.int .i64)) v0) :: vc (.d .fro (.sl (.int .i64)) v1) :: nn 3 (vc (iL v2) :: nn 20 ([]))) = laws_eqIntS.t4 (fun b => some (laws_eqIntS.mk b)) laws_eqIntS.q4 v0 v1 v2 := by kernel_rfl
theorem laws_eqIntS.eq (v0 : List Int) (v1 : List Int) {b : Bool} (h : laws_eqIntS.t some laws_eqIntS.l4 v0 v1 = some b) : laws_eqIntS v0 v1 = some b := tOf_intro laws_eqIntS.un (fun _ => by kernel_rfl) (vlim_fn (callT_le E tab) rfl rfl rfl ((laws_eqIntS.k v0 v1).trans ((by unfold laws_eqIntS.t; repeat' first | exact Sub.ret | exact Sub.none | exact Sub.loop | apply Sub.cond | (apply Sub.bind; intro _) : Sub laws_eqIntS.mk _ _) b h)))
theorem laws_eqIntS.eq4 (v0 : List Int) (v1 : List Int) (v2 : Int) {b : Bool} (h : laws_eqIntS.t4 some laws_eqIntS.l4 v0 v1 v2 = some b) : laws_eqIntS.l4 v0 v1 v2 = some b := tOf_intro laws_eqIntS.un (fun _ => by kernel_rfl) (loopAtL_step ((laws_eqIntS.k4 v0 v1 v2).trans ((by unfold laws_eqIntS.t4; repeat' first | exact Sub.ret | exact Sub.none | exact Sub.loop | apply Sub.cond | (apply Sub.bind; intro _) : Sub laws_eqIntS.mk _ _) b h)))
noncomputable def laws_eqPreparedS.q4 (v0 : List (Int × Int × List Int)) (v1 : List (Int × Int × List Int)) (v2 : Int) : Option R := loopAtL E (callT E tab) 34 Try.f34 2 [.r, .r, .l, .r, .b] (vc (.d .fro (.sl (.pair (.int .i64) (.pair (.int .i64) (.sl (.int .i64))))) v0) :: vc (.d .fro (.sl (.pair (.int .i64) (.pair (.int .i64) (.sl (.int .i64))))) v1) :: nn 3 (vc (iL v2) :: nn 21 ([])))
noncomputable def laws_eqPreparedS.l4 (v0 : List (Int × Int × List Int)) (v1 : List (Int × Int × List Int)) (v2 : Int) : Option (Bool) := tOf laws_eqPreparedS.mk (laws_eqPreparedS.q4 v0 v1 v2)
noncomputable def laws_eqPreparedS.t {γ : Type} (ret : (Bool) → Option γ) (lp4 : (List (Int × Int × List Int)) → (List (Int × Int × List Int)) → Int → Option γ) (v0 : List (Int × Int × List Int)) (v1 : List (Int × Int × List Int)) : Option γ :=
 bif (↑v0.length : Int) != (↑v1.length : Int) then
  ret (Bool.false)
 else
  lp4 (v0) (v1) ((0 : Int))
noncomputable def laws_eqPreparedS.t4 {γ : Type} (ret : (Bool) → Option γ) (lp4 : (List (Int × Int × List Int)) → (List (Int × Int × List Int)) → Int → Option γ) (v0 : List (Int × Int × List Int)) (v1 : List (Int × Int × List Int)) (v2 : Int) : Option γ :=
 bif decide (v2 < (↑v0.length : Int)) then
  bif decide ((0 : Int) ≤ v2) then
   bif decide (v2.toNat < v0.length) then
    bif decide ((0 : Int) ≤ v2) then
     bif decide (v2.toNat < v1.length) then
      (laws_eqPrepared ((v0.getD v2.toNat ((0 : Int), (0 : Int), [])).fst) ((v0.getD v2.toNat ((0 : Int), (0 : Int), [])).snd.fst) ((v0.getD v2.toNat ((0 : Int), (0 : Int), [])).snd.snd) ((v1.getD v2.toNat ((0 : Int), (0 : Int), [])).fst) ((v1.getD v2.toNat ((0 : Int), (0 : Int), [])).snd.fst) ((v1.getD v2.toNat ((0 : Int), (0 : Int), [])).snd.snd)).bind fun (r0 : Bool) =>
      bif !r0 then
       ret (Bool.false)
      else
       lp4 (v0) (v1) (IntKind.i64.wrap (v2 + (1 : Int)))
     else
      none
    else
     none
   else
    none
  else
   none
 else
  ret (Bool.true)
theorem laws_eqPreparedS.k (v0 : List (Int × Int × List Int)) (v1 : List (Int × Int × List Int)) : topL E (callT E tab) 34 Try.f34 (laws_eqPreparedS.c v0 v1) = laws_eqPreparedS.t (fun b => some (laws_eqPreparedS.mk b)) laws_eqPreparedS.q4 v0 v1 := by kernel_rfl
theorem laws_eqPreparedS.k4 (v0 : List (Int × Int × List Int)) (v1 : List (Int × Int × List Int)) (v2 : Int) : roundL E (callT E tab) 34 Try.f34 2 [.r, .r, .l, .r, .b] (vc (.d .fro (.sl (.pair (.int .i64) (.pair (.int .i64) (.sl (.int .i64))))) v0) :: vc (.d .fro (.sl (.pair (.int .i64) (.pair (.int .i64) (.sl (.int .i64))))) v1) :: nn 3 (vc (iL v2) :: nn 21 ([]))) = laws_eqPreparedS.t4 (fun b => some (laws_eqPreparedS.mk b)) laws_eqPreparedS.q4 v0 v1 v2 := by kernel_rfl
theorem laws_eqPreparedS.eq (v0 : List (Int × Int × List Int)) (v1 : List (Int × Int × List Int)) {b : Bool} (h : laws_eqPreparedS.t some laws_eqPreparedS.l4 v0 v1 = some b) : laws_eqPreparedS v0 v1 = some b := tOf_intro laws_eqPreparedS.un (fun _ => by kernel_rfl) (vlim_fn (callT_le E tab) rfl rfl rfl ((laws_eqPreparedS.k v0 v1).trans ((by unfold laws_eqPreparedS.t; repeat' first | exact Sub.ret | exact Sub.none | exact Sub.loop | apply Sub.cond | (apply Sub.bind; intro _) : Sub laws_eqPreparedS.mk _ _) b h)))
theorem laws_eqPreparedS.eq4 (v0 : List (Int × Int × List Int)) (v1 : List (Int × Int × List Int)) (v2 : Int) {b : Bool} (h : laws_eqPreparedS.t4 some laws_eqPreparedS.l4 v0 v1 v2 = some b) : laws_eqPreparedS.l4 v0 v1 v2 = some b := tOf_intro laws_eqPreparedS.un (fun _ => by kernel_rfl) (loopAtL_step ((laws_eqPreparedS.k4 v0 v1 v2).trans ((by unfold laws_eqPreparedS.t4; repeat' first | exact Sub.ret | exact Sub.none | exact Sub.loop | apply Sub.cond | (apply Sub.bind; intro _) : Sub laws_eqPreparedS.mk _ _) b h)))
noncomputable def laws_eqPrepared.t {γ : Type} (ret : (Bool) → Option γ) (v0 : Int) (v1 : Int) (v2 : List Int) (v3 : Int) (v4 : Int) (v5 : List Int) : Option γ :=
 bif v0 != v3 then
  ret (Bool.false)
 else
  bif v1 != v4 then
   ret (Bool.false)
  else
   (laws_eqIntS (v2) (v5)).bind fun (r0 : Bool) =>
   bif !r0 then
    ret (Bool.false)
   else
    ret (Bool.true)
theorem laws_eqPrepared.k (v0 : Int) (v1 : Int) (v2 : List Int) (v3 : Int) (v4 : Int) (v5 : List Int) : topL E (callT E tab) 54 Try.f54 (laws_eqPrepared.c v0 v1 v2 v3 v4 v5) = laws_eqPrepared.t (fun b => some (laws_eqPrepared.mk b)) v0 v1 v2 v3 v4 v5 := by kernel_rfl
theorem laws_eqPrepared.eq (v0 : Int) (v1 : Int) (v2 : List Int) (v3 : Int) (v4 : Int) (v5 : List Int) {b : Bool} (h : laws_eqPrepared.t some v0 v1 v2 v3 v4 v5 = some b) : laws_eqPrepared v0 v1 v2 v3 v4 v5 = some b := tOf_intro laws_eqPrepared.un (fun _ => by kernel_rfl) (vlim_fn (callT_le E tab) rfl rfl rfl ((laws_eqPrepared.k v0 v1 v2 v3 v4 v5).trans ((by unfold laws_eqPrepared.t; repeat' first | exact Sub.ret | exact Sub.none | exact Sub.loop | apply Sub.cond | (apply Sub.bind; intro _) : Sub laws_eqPrepared.mk _ _) b h)))
noncomputable def laws_markSink_3ad.t {γ : Type} (ret : (Int × (List Int) × Int × (List Int) × (List (Int × Int × List Int)) × (List Int) × Int × Int) → Option γ) (v0 : List Int) (v1 : Int) (v2 : List Int) (v3 : List (Int × Int × List Int)) (v4 : List Int) (v5 : Int) (v6 : Int) (v7 : Int) : Option γ :=
 (laws_markIntS_83f (v0) (v7)).bind fun (r0 : Int × (List Int)) =>
 (laws_markIntS_83f (v2) (r0.fst)).bind fun (r1 : Int × (List Int)) =>
 (xl00 (v3) (r1.fst)).bind fun (r2 : Int × (List (Int × Int × List Int))) =>
 (laws_markIntS_83f (v4) (r2.fst)).bind fun (r3 : Int × (List Int)) =>
 ret (r3.fst, r0.snd, v1, r1.snd, r2.snd, r3.snd, v5, v6)
theorem laws_markSink_3ad.k (v0 : List Int) (v1 : Int) (v2 : List Int) (v3 : List (Int × Int × List Int)) (v4 : List Int) (v5 : Int) (v6 : Int) (v7 : Int) : topL E (callT E tab) 11 Try.f11 (laws_markSink_3ad.c v0 v1 v2 v3 v4 v5 v6 v7) = laws_markSink_3ad.t (fun b => some (laws_markSink_3ad.mk b)) v0 v1 v2 v3 v4 v5 v6 v7 := by kernel_rfl
theorem laws_markSink_3ad.eq (v0 : List Int) (v1 : Int) (v2 : List Int) (v3 : List (Int × Int × List Int)) (v4 : List Int) (v5 : Int) (v6 : Int) (v7 : Int) {b : Int × (List Int) × Int × (List Int) × (List (Int × Int × List Int)) × (List Int) × Int × Int} (h : laws_markSink_3ad.t some v0 v1 v2 v3 v4 v5 v6 v7 = some b) : laws_markSink_3ad v0 v1 v2 v3 v4 v5 v6 v7 = some b := tOf_intro laws_markSink_3ad.un (fun _ => by kernel_rfl) (vlim_fn (callT_le E tab) rfl rfl rfl ((laws_markSink_3ad.k v0 v1 v2 v3 v4 v5 v6 v7).trans ((by unfold laws_markSink_3ad.t; repeat' first | exact Sub.ret | exact Sub.none | exact Sub.loop | apply Sub.cond | (apply Sub.bind; intro _) : Sub laws_markSink_3ad.mk _ _) b h)))
noncomputable def laws_markIntS_83f.q2 (v0 : List Int) (v1 : Int) (v2 : Int) : Option R := loopAtL E (callT E tab) 35 Try.f35 2 [.r, .l, .r, .b] (⟨(.val .one), [.d .deep (.sl (.int .i64)) v0], true, false, false, 0, 0⟩ :: vc (iL v1) :: nn 3 (vc (iL v2) :: nn 13 ([])))
noncomputable def laws_markIntS_83f.l2 (v0 : List Int) (v1 : Int) (v2 : Int) : Option (Int × (List Int)) := tOf laws_markIntS_83f.mk (laws_markIntS_83f.q2 v0 v1 v2)
noncomputable def laws_markIntS_83f.t {γ : Type} (ret : (Int × (List Int)) → Option γ) (lp2 : (List Int) → Int → Int → Option γ) (v0 : List Int) (v1 : Int) : Option γ :=
 lp2 (v0) (v1) ((0 : Int))
noncomputable def laws_markIntS_83f.t2 {γ : Type} (ret : (Int × (List Int)) → Option γ) (lp2 : (List Int) → Int → Int → Option γ) (v0 : List Int) (v1 : Int) (v2 : Int) : Option γ :=
 bif decide (v2 < (↑v0.length : Int)) then
  bif decide ((0 : Int) ≤ v2) then
   bif decide (v2.toNat < v0.length) then
    bif decide (v2.toNat < v0.length) then
     lp2 (v0.set v2.toNat v1) (IntKind.i64.wrap (v1 + (1 : Int))) (IntKind.i64.wrap (v2 + (1 : Int)))
    else
     none
   else
    none
  else
   none
 else
  ret (v1, v0)
theorem laws_markIntS_83f.k (v0 : List Int) (v1 : Int) : topL E (callT E tab) 35 Try.f35 (laws_markIntS_83f.c v0 v1) = laws_markIntS_83f.t (fun b => some (laws_markIntS_83f.mk b)) laws_markIntS_83f.q2 v0 v1 := by kernel_rfl
theorem laws_markIntS_83f.k2 (v0 : List Int) (v1 : Int) (v2 : Int) : roundL E (callT E tab) 35 Try.f35 2 [.r, .l, .r, .b] (⟨(.val .one), [.d .deep (.sl (.int .i64)) v0], true, false, false, 0, 0⟩ :: vc (iL v1) :: nn 3 (vc (iL v2) :: nn 13 ([]))) = laws_markIntS_83f.t2 (fun b => some (laws_markIntS_83f.mk b)) laws_markIntS_83f.q2 v0 v1 v2 := by kernel_rfl
theorem laws_markIntS_83f.eq (v0 : List Int) (v1 : Int) {b : Int × (List Int)} (h : laws_markIntS_83f.t some laws_markIntS_83f.l2 v0 v1 = some b) : laws_markIntS_83f v0 v1 = some b := tOf_intro laws_markIntS_83f.un (fun _ => by kernel_rfl) (vlim_fn (callT_le E tab) rfl rfl rfl ((laws_markIntS_83f.k v0 v1).trans ((by unfold laws_markIntS_83f.t; repeat' first | exact Sub.ret | exact Sub.none | exact Sub.loop | apply Sub.cond | (apply Sub.bind; intro _) : Sub laws_markIntS_83f.mk _ _) b h)))
theorem laws_markIntS_83f.eq2 (v0 : List Int) (v1 : Int) (v2 : Int) {b : Int × (List Int)} (h : laws_markIntS_83f.t2 some laws_markIntS_83f.l2 v0 v1 v2 = some b) : laws_markIntS_83f.l2 v0 v1 v2 = some b := tOf_intro laws_markIntS_83f.un (fun _ => by kernel_rfl) (loopAtL_step ((laws_markIntS_83f.k2 v0 v1 v2).trans ((by unfold laws_markIntS_83f.t2; repeat' first | exact Sub.ret | exact Sub.none | exact Sub.loop | apply Sub.cond | (apply Sub.bind; intro _) : Sub laws_markIntS_83f.mk _ _) b h)))
noncomputable def xl00.q2 (v0 : List (Int × Int × List Int)) (v1 : Int) (v2 : Int) : Option R := loopAtL E (callT E tab) 36 Try.f36 2 [.r, .l, .r, .b] (⟨(.val .one), [.d .deep (.sl (.pair (.int .i64) (.pair (.int .i64) (.sl (.int .i64))))) v0], true, false, false, 0, 0⟩ :: vc (iL v1) :: nn 3 (vc (iL v2) :: nn 28 ([])))
noncomputable def xl00.l2 (v0 : List (Int × Int × List Int)) (v1 : Int) (v2 : Int) : Option (Int × (List (Int × Int × List Int))) := tOf xl00.mk (xl00.q2 v0 v1 v2)
noncomputable def xl00.t {γ : Type} (ret : (Int × (List (Int × Int × List Int))) → Option γ) (lp2 : (List (Int × Int × List Int)) → Int → Int → Option γ) (v0 : List (Int × Int × List Int)) (v1 : Int) : Option γ :=
 lp2 (v0) (v1) ((0 : Int))
noncomputable def xl00.t2 {γ : Type} (ret : (Int × (List (Int × Int × List Int))) → Option γ) (lp2 : (List (Int × Int × List Int)) → Int → Int → Option γ) (v0 : List (Int × Int × List Int)) (v1 : Int) (v2 : Int) : Option γ :=
 bif decide (v2 < (↑v0.length : Int)) then
  bif decide ((0 : Int) ≤ v2) then
   bif decide (v2.toNat < v0.length) then
    bif decide (v2.toNat < v0.length) then
     bif decide ((0 : Int) ≤ v2) then
      bif decide (v2.toNat < (v0.set v2.toNat (v1, (v0.getD v2.toNat ((0 : Int), (0 : Int), [])).snd)).length) then
       bif decide (v2.toNat < (v0.set v2.toNat (v1, (v0.getD v2.toNat ((0 : Int), (0 : Int), [])).snd)).length) then
        bif decide ((0 : Int) ≤ v2) then
         bif decide   (v2.toNat <     ((v0.set v2.toNat (v1, (v0.getD v2.toNat ((0 : Int), (0 : Int), [])).snd)).set v2.toNat         (((v0.set v2.toNat (v1, (v0.getD v2.toNat ((0 : Int), (0 : Int), [])).snd)).getD v2.toNat               ((0 : Int), (0 : Int), [])).fst,           IntKind.i64.wrap (v1 + (1 : Int)),           ((v0.set v2.toNat (v1, (v0.getD v2.toNat ((0 : Int), (0 : Int), [])).snd)).getD v2.toNat                 ((0 : Int), (0 : Int), [])).snd.snd)).length) then
          bif decide   (v2.toNat <     ((v0.set v2.toNat (v1, (v0.getD v2.toNat ((0 : Int), (0 : Int), [])).snd)).set v2.toNat         (((v0.set v2.toNat (v1, (v0.getD v2.toNat ((0 : Int), (0 : Int), [])).snd)).getD v2.toNat               ((0 : Int), (0 : Int), [])).fst,           IntKind.i64.wrap (v1 + (1 : Int)),           ((v0.set v2.toNat (v1, (v0.getD v2.toNat ((0 : Int), (0 : Int), [])).snd)).getD v2.toNat                 ((0 : Int), (0 : Int), [])).snd.snd)).length) then
           bif decide   (v2.toNat <     ((v0.set v2.toNat (v1, (v0.getD v2.toNat ((0 : Int), (0 : Int), [])).snd)).set v2.toNat         (((v0.set v2.toNat (v1, (v0.getD v2.toNat ((0 : Int), (0 : Int), [])).snd)).getD v2.toNat               ((0 : Int), (0 : Int), [])).fst,           IntKind.i64.wrap (v1 + (1 : Int)),           ((v0.set v2.toNat (v1, (v0.getD v2.toNat ((0 : Int), (0 : Int), [])).snd)).getD v2.toNat                 ((0 : Int), (0 : Int), [])).snd.snd)).length) then
            (laws_markIntS_83f ((((v0.set v2.toNat (v1, (v0.getD v2.toNat ((0 : Int), (0 : Int), [])).snd)).set v2.toNat           (((v0.set v2.toNat (v1, (v0.getD v2.toNat ((0 : Int), (0 : Int), [])).snd)).getD v2.toNat                 ((0 : Int), (0 : Int), [])).fst,             IntKind.i64.wrap (v1 + (1 : Int)),             ((v0.set v2.toNat (v1, (v0.getD v2.toNat ((0 : Int), (0 : Int), [])).snd)).getD v2.toNat                   ((0 : Int), (0 : Int), [])).snd.snd)).getD       v2.toNat ((0 : Int), (0 : Int), [])).snd.snd) (IntKind.i64.wrap (IntKind.i64.wrap (v1 + (1 : Int)) + (1 : Int)))).bind fun (r0 : Int × (List Int)) =>
            bif decide (v2.toNat = v2.toNat) &&   (decide ((0 : Nat) + (2 : Nat) = (0 : Nat) + (2 : Nat)) &&     decide ((1 : Nat) + ((1 : Nat) + (1 : Nat)) = (1 : Nat) + ((1 : Nat) + (1 : Nat)))) then
             bif decide   (v2.toNat <     ((v0.set v2.toNat (v1, (v0.getD v2.toNat ((0 : Int), (0 : Int), [])).snd)).set v2.toNat         (((v0.set v2.toNat (v1, (v0.getD v2.toNat ((0 : Int), (0 : Int), [])).snd)).getD v2.toNat               ((0 : Int), (0 : Int), [])).fst,           IntKind.i64.wrap (v1 + (1 : Int)),           ((v0.set v2.toNat (v1, (v0.getD v2.toNat ((0 : Int), (0 : Int), [])).snd)).getD v2.toNat                 ((0 : Int), (0 : Int), [])).snd.snd)).length) then
              lp2 (((v0.set v2.toNat (v1, (v0.getD v2.toNat ((0 : Int), (0 : Int), [])).snd)).set v2.toNat       (((v0.set v2.toNat (v1, (v0.getD v2.toNat ((0 : Int), (0 : Int), [])).snd)).getD v2.toNat             ((0 : Int), (0 : Int), [])).fst,         IntKind.i64.wrap (v1 + (1 : Int)),         ((v0.set v2.toNat (v1, (v0.getD v2.toNat ((0 : Int), (0 : Int), [])).snd)).getD v2.toNat               ((0 : Int), (0 : Int), [])).snd.snd)).set   v2.toNat   ((((v0.set v2.toNat (v1, (v0.getD v2.toNat ((0 : Int), (0 : Int), [])).snd)).set v2.toNat             (((v0.set v2.toNat (v1, (v0.getD v2.toNat ((0 : Int), (0 : Int), [])).snd)).getD v2.toNat                   ((0 : Int), (0 : Int), [])).fst,               IntKind.i64.wrap (v1 + (1 : Int)),               ((v0.set v2.toNat (v1, (v0.getD v2.toNat ((0 : Int), (0 : Int), [])).snd)).getD v2.toNat                     ((0 : Int), (0 : Int), [])).snd.snd)).getD         v2.toNat ((0 : Int), (0 : Int), [])).fst,     (((v0.set v2.toNat (v1, (v0.getD v2.toNat ((0 : Int), (0 : Int), [])).snd)).set v2.toNat               (((v0.set v2.toNat (v1, (v0.getD v2.toNat ((0 : Int), (0 : Int), [])).snd)).getD v2.toNat                     ((0 : Int), (0 : Int), [])).fst,                 IntKind.i64.wrap (v1 + (1 : Int)),                 ((v0.set v2.toNat (v1, (v0.getD v2.toNat ((0 : Int), (0 : Int), [])).snd)).getD v2.toNat                       ((0 : Int), (0 : Int), [])).snd.snd)).getD           v2.toNat ((0 : Int), (0 : Int), [])).snd.fst,     r0.snd)) (r0.fst) (IntKind.i64.wrap (v2 + (1 : Int)))
             else
              none
            else
             none
           else
            none
          else
           none
         else
          none
        else
         none
       else
        none
      else
       none
     else
      none
    else
     none
   else
    none
  else
   none
 else
  ret (v1, v0)
theorem xl00.k (v0 : List (Int × Int × List Int)) (v1 : Int) : topL E (callT E tab) 36 Try.f36 (xl00.c v0 v1) = xl00.t (fun b => some (xl00.mk b)) xl00.q2 v0 v1 := by kernel_rfl
theorem xl00.k2 (v0 : List (Int × Int × List Int)) (v1 : Int) (v2 : Int) : roundL E (callT E tab) 36 Try.f36 2 [.r, .l, .r, .b] (⟨(.val .one), [.d .deep (.sl (.pair (.int .i64) (.pair (.int .i64) (.sl (.int .i64))))) v0], true, false, false, 0, 0⟩ :: vc (iL v1) :: nn 3 (vc (iL v2) :: nn 28 ([]))) = xl00.t2 (fun b => some (xl00.mk b)) xl00.q2 v0 v1 v2 := by kernel_rfl
theorem xl00.eq (v0 : List (Int × Int × List Int)) (v1 : Int) {b : Int × (List (Int × Int × List Int))} (h : xl00.t some xl00.l2 v0 v1 = some b) : xl00 v0 v1 = some b := tOf_intro xl00.un (fun _ => by kernel_rfl) (vlim_fn (callT_le E tab) rfl rfl rfl ((xl00.k v0 v1).trans ((by unfold xl00.t; repeat' first | exact Sub.ret | exact Sub.none | exact Sub.loop | apply Sub.cond | (apply Sub.bind; intro _) : Sub xl00.mk _ _) b h)))
theorem xl00.eq2 (v0 : List (Int × Int × List Int)) (v1 : Int) (v2 : Int) {b : Int × (List (Int × Int × List Int))} (h : xl00.t2 some xl00.l2 v0 v1 v2 = some b) : xl00.l2 v0 v1 v2 = some b := tOf_intro xl00.un (fun _ => by kernel_rfl) (loopAtL_step ((xl00.k2 v0 v1 v2).trans ((by unfold xl00.t2; repeat' first | exact Sub.ret | exact Sub.none | exact Sub.loop | apply Sub.cond | (apply Sub.bind; intro _) : Sub xl00.mk _ _) b h)))
noncomputable def laws_heldSink.t {γ : Type} (ret : (Int) → Option γ) (v0 : List Int) (v1 : Int) (v2 : List Int) (v3 : List (Int × Int × List Int)) (v4 : List Int) (v5 : Int) (v6 : Int) (v7 : Int) : Option γ :=
 (laws_heldIntS (v0) (v7)).bind fun (r0 : Int) =>
 bif decide (r0 < (0 : Int)) then
  ret ((-1 : Int))
 else
  (laws_heldIntS (v2) (r0)).bind fun (r1 : Int) =>
  bif decide (r1 < (0 : Int)) then
   ret ((-1 : Int))
  else
   (laws_heldPreparedS (v3) (r1)).bind fun (r2 : Int) =>
   bif decide (r2 < (0 : Int)) then
    ret ((-1 : Int))
   else
    (laws_heldIntS (v4) (r2)).bind fun (r3 : Int) =>
    bif decide (r3 < (0 : Int)) then
     ret ((-1 : Int))
    else
     ret (r3)
theorem laws_heldSink.k (v0 : List Int) (v1 : Int) (v2 : List Int) (v3 : List (Int × Int × List Int)) (v4 : List Int) (v5 : Int) (v6 : Int) (v7 : Int) : topL E (callT E tab) 12 Try.f12 (laws_heldSink.c v0 v1 v2 v3 v4 v5 v6 v7) = laws_heldSink.t (fun b => some (laws_heldSink.mk b)) v0 v1 v2 v3 v4 v5 v6 v7 := by kernel_rfl
theorem laws_heldSink.eq (v0 : List Int) (v1 : Int) (v2 : List Int) (v3 : List (Int × Int × List Int)) (v4 : List Int) (v5 : Int) (v6 : Int) (v7 : Int) {b : Int} (h : laws_heldSink.t some v0 v1 v2 v3 v4 v5 v6 v7 = some b) : laws_heldSink v0 v1 v2 v3 v4 v5 v6 v7 = some b := tOf_intro laws_heldSink.un (fun _ => by kernel_rfl) (vlim_fn (callT_le E tab) rfl rfl rfl ((laws_heldSink.k v0 v1 v2 v3 v4 v5 v6 v7).trans ((by unfold laws_heldSink.t; repeat' first | exact Sub.ret | exact Sub.none | exact Sub.loop | apply Sub.cond | (apply Sub.bind; intro _) : Sub laws_heldSink.mk _ _) b h)))
noncomputable def laws_heldIntS.q2 (v0 : List Int) (v1 : Int) (v2 : Int) : Option R := loopAtL E (callT E tab) 37 Try.f37 2 [.r, .l, .r, .b] (vc (.d .fro (.sl (.int .i64)) v0) :: vc (iL v1) :: nn 3 (vc (iL v2) :: nn 15 ([])))
noncomputable def laws_heldIntS.l2 (v0 : List Int) (v1 : Int) (v2 : Int) : Option (Int) := tOf laws_heldIntS.mk (laws_heldIntS.q2 v0 v1 v2)
noncomputable def laws_heldIntS.t {γ : Type} (ret : (Int) → Option γ) (lp2 : (List Int) → Int → Int → Option γ) (v0 : List Int) (v1 : Int) : Option γ :=
 lp2 (v0) (v1) ((0 : Int))
noncomputable def laws_heldIntS.t2 {γ : Type} (ret : (Int) → Option γ) (lp2 : (List Int) → Int → Int → Option γ) (v0 : List Int) (v1 : Int) (v2 : Int) : Option γ :=
 bif decide (v2 < (↑v0.length : Int)) then
  bif decide ((0 : Int) ≤ v2) then
   bif decide (v2.toNat < v0.length) then
    bif v0.getD v2.toNat (0 : Int) != v1 then
     ret ((-1 : Int))
    else
     lp2 (v0) (IntKind.i64.wrap (v1 + (1 : Int))) (IntKind.i64.wrap (v2 + (1 : Int)))
   else
    none
  else
   none
 else
  ret (v1)
theorem laws_heldIntS.k (v0 : List Int) (v1 : Int) : topL E (callT E tab) 37 Try.f37 (laws_heldIntS.c v0 v1) = laws_heldIntS.t (fun b => some (laws_heldIntS.mk b)) laws_heldIntS.q2 v0 v1 := by kernel_rfl
theorem laws_heldIntS.k2 (v0 : List Int) (v1 : Int) (v2 : Int) : roundL E (callT E tab) 37 Try.f37 2 [.r, .l, .r, .b] (vc (.d .fro (.sl (.int .i64)) v0) :: vc (iL v1) :: nn 3 (vc (iL v2) :: nn 15 ([]))) = laws_heldIntS.t2 (fun b => some (laws_heldIntS.mk b)) laws_heldIntS.q2 v0 v1 v2 := by kernel_rfl
theorem laws_heldIntS.eq (v0 : List Int) (v1 : Int) {b : Int} (h : laws_heldIntS.t some laws_heldIntS.l2 v0 v1 = some b) : laws_heldIntS v0 v1 = some b := tOf_intro laws_heldIntS.un (fun _ => by kernel_rfl) (vlim_fn (callT_le E tab) rfl rfl rfl ((laws_heldIntS.k v0 v1).trans ((by unfold laws_heldIntS.t; repeat' first | exact Sub.ret | exact Sub.none | exact Sub.loop | apply Sub.cond | (apply Sub.bind; intro _) : Sub laws_heldIntS.mk _ _) b h)))
theorem laws_heldIntS.eq2 (v0 : List Int) (v1 : Int) (v2 : Int) {b : Int} (h : laws_heldIntS.t2 some laws_heldIntS.l2 v0 v1 v2 = some b) : laws_heldIntS.l2 v0 v1 v2 = some b := tOf_intro laws_heldIntS.un (fun _ => by kernel_rfl) (loopAtL_step ((laws_heldIntS.k2 v0 v1 v2).trans ((by unfold laws_heldIntS.t2; repeat' first | exact Sub.ret | exact Sub.none | exact Sub.loop | apply Sub.cond | (apply Sub.bind; intro _) : Sub laws_heldIntS.mk _ _) b h)))
noncomputable def laws_heldPreparedS.q2 (v0 : List (Int × Int × List Int)) (v1 : Int) (v2 : Int) : Option R := loopAtL E (callT E tab) 38 Try.f38 2 [.r, .l, .r, .b] (vc (.d .fro (.sl (.pair (.int .i64) (.pair (.int .i64) (.sl (.int .i64))))) v0) :: vc (iL v1) :: nn 3 (vc (iL v2) :: nn 34 ([])))
noncomputable def laws_heldPreparedS.l2 (v0 : List (Int × Int × List Int)) (v1 : Int) (v2 : Int) : Option (Int) := tOf laws_heldPreparedS.mk (laws_heldPreparedS.q2 v0 v1 v2)
noncomputable def laws_heldPreparedS.t {γ : Type} (ret : (Int) → Option γ) (lp2 : (List (Int × Int × List Int)) → Int → Int → Option γ) (v0 : List (Int × Int × List Int)) (v1 : Int) : Option γ :=
 lp2 (v0) (v1) ((0 : Int))
noncomputable def laws_heldPreparedS.t2 {γ : Type} (ret : (Int) → Option γ) (lp2 : (List (Int × Int × List Int)) → Int → Int → Option γ) (v0 : List (Int × Int × List Int)) (v1 : Int) (v2 : Int) : Option γ :=
 bif decide (v2 < (↑v0.length : Int)) then
  bif decide ((0 : Int) ≤ v2) then
   bif decide (v2.toNat < v0.length) then
    bif (v0.getD v2.toNat ((0 : Int), (0 : Int), [])).fst != v1 then
     ret ((-1 : Int))
    else
     bif decide ((0 : Int) ≤ v2) then
      bif decide (v2.toNat < v0.length) then
       bif (v0.getD v2.toNat ((0 : Int), (0 : Int), [])).snd.fst != IntKind.i64.wrap (v1 + (1 : Int)) then
        ret ((-1 : Int))
       else
        bif decide ((0 : Int) ≤ v2) then
         bif decide (v2.toNat < v0.length) then
          (laws_heldIntS ((v0.getD v2.toNat ((0 : Int), (0 : Int), [])).snd.snd) (IntKind.i64.wrap (IntKind.i64.wrap (v1 + (1 : Int)) + (1 : Int)))).bind fun (r0 : Int) =>
          bif decide (r0 < (0 : Int)) then
           ret ((-1 : Int))
          else
           lp2 (v0) (r0) (IntKind.i64.wrap (v2 + (1 : Int)))
         else
          none
        else
         none
      else
       none
     else
      none
   else
    none
  else
   none
 else
  ret (v1)
theorem laws_heldPreparedS.k (v0 : List (Int × Int × List Int)) (v1 : Int) : topL E (callT E tab) 38 Try.f38 (laws_heldPreparedS.c v0 v1) = laws_heldPreparedS.t (fun b => some (laws_heldPreparedS.mk b)) laws_heldPreparedS.q2 v0 v1 := by kernel_rfl
theorem laws_heldPreparedS.k2 (v0 : List (Int × Int × List Int)) (v1 : Int) (v2 : Int) : roundL E (callT E tab) 38 Try.f38 2 [.r, .l, .r, .b] (vc (.d .fro (.sl (.pair (.int .i64) (.pair (.int .i64) (.sl (.int .i64))))) v0) :: vc (iL v1) :: nn 3 (vc (iL v2) :: nn 34 ([]))) = laws_heldPreparedS.t2 (fun b => some (laws_heldPreparedS.mk b)) laws_heldPreparedS.q2 v0 v1 v2 := by kernel_rfl
theorem laws_heldPreparedS.eq (v0 : List (Int × Int × List Int)) (v1 : Int) {b : Int} (h : laws_heldPreparedS.t some laws_heldPreparedS.l2 v0 v1 = some b) : laws_heldPreparedS v0 v1 = some b := tOf_intro laws_heldPreparedS.un (fun _ => by kernel_rfl) (vlim_fn (callT_le E tab) rfl rfl rfl ((laws_heldPreparedS.k v0 v1).trans ((by unfold laws_heldPreparedS.t; repeat' first | exact Sub.ret | exact Sub.none | exact Sub.loop | apply Sub.cond | (apply Sub.bind; intro _) : Sub laws_heldPreparedS.mk _ _) b h)))
theorem laws_heldPreparedS.eq2 (v0 : List (Int × Int × List Int)) (v1 : Int) (v2 : Int) {b : Int} (h : laws_heldPreparedS.t2 some laws_heldPreparedS.l2 v0 v1 v2 = some b) : laws_heldPreparedS.l2 v0 v1 v2 = some b := tOf_intro laws_heldPreparedS.un (fun _ => by kernel_rfl) (loopAtL_step ((laws_heldPreparedS.k2 v0 v1 v2).trans ((by unfold laws_heldPreparedS.t2; repeat' first | exact Sub.ret | exact Sub.none | exact Sub.loop | apply Sub.cond | (apply Sub.bind; intro _) : Sub laws_heldPreparedS.mk _ _) b h)))
noncomputable def xl02.t {γ : Type} (ret : (Bool) → Option γ) (v0 : List Int) (v1 : Int) (v2 : List Int) (v3 : List (Int × Int × List Int)) (v4 : List Int) (v5 : Int) (v6 : Int) : Option γ :=
 (laws_szSink (v0) (v1) (v2) (v3) (v4) (v5) (v6) ((1048576 : Int))).bind fun (r0 : Int) =>
 bif decide (r0 < (0 : Int)) then
  ret (Bool.true)
 else
  (laws_toSink (v0) (v1) (v2) (v3) (v4) (v5) (v6)).bind fun (r1 : (List Int) × Int × (List Int) × (List (Int × Int × List Int)) × (List Int) × Int × Int) =>
  (spec_DrainSink (r1.fst) (r1.snd.fst) (r1.snd.snd.fst) (r1.snd.snd.snd.fst) (r1.snd.snd.snd.snd.fst) (r1.snd.snd.snd.snd.snd.fst) (r1.snd.snd.snd.snd.snd.snd)).bind fun (r2 : (List Int) × Int × (List Int) × (List (Int × Int × List Int)) × (List Int) × Int × Int × Int × Bool) =>
  (laws_toSink (v0) (v1) (v2) (v3) (v4) (v5) (v6)).bind fun (r3 : (List Int) × Int × (List Int) × (List (Int × Int × List Int)) × (List Int) × Int × Int) =>
  (impl_DrainSink (r3.fst) (r3.snd.fst) (r3.snd.snd.fst) (r3.snd.snd.snd.fst) (r3.snd.snd.snd.snd.fst) (r3.snd.snd.snd.snd.snd.fst) (r3.snd.snd.snd.snd.snd.snd)).bind fun (r4 : (List Int) × Int × (List Int) × (List (Int × Int × List Int)) × (List Int) × Int × Int × Int × Bool) =>
  (laws_eqSink (r4.fst) (r4.snd.fst) (r4.snd.snd.fst) (r4.snd.snd.snd.fst) (r4.snd.snd.snd.snd.fst) (r4.snd.snd.snd.snd.snd.fst) (r4.snd.snd.snd.snd.snd.snd.fst) (r2.fst) (r2.snd.fst) (r2.snd.snd.fst) (r2.snd.snd.snd.fst) (r2.snd.snd.snd.snd.fst) (r2.snd.snd.snd.snd.snd.fst) (r2.snd.snd.snd.snd.snd.snd.fst)).bind fun (r5 : Bool) =>
  bif !r5 then
   ret (Bool.false)
  else
   bif r4.snd.snd.snd.snd.snd.snd.snd.fst != r2.snd.snd.snd.snd.snd.snd.snd.fst then
    ret (Bool.false)
   else
    bif !r4.snd.snd.snd.snd.snd.snd.snd.snd == r2.snd.snd.snd.snd.snd.snd.snd.snd then
     ret (Bool.false)
    else
     (laws_toSink (v0) (v1) (v2) (v3) (v4) (v5) (v6)).bind fun (r6 : (List Int) × Int × (List Int) × (List (Int × Int × List Int)) × (List Int) × Int × Int) =>
     (laws_eqSink (r3.fst) (r3.snd.fst) (r3.snd.snd.fst) (r3.snd.snd.snd.fst) (r3.snd.snd.snd.snd.fst) (r3.snd.snd.snd.snd.snd.fst) (r3.snd.snd.snd.snd.snd.snd) (r6.fst) (r6.snd.fst) (r6.snd.snd.fst) (r6.snd.snd.snd.fst) (r6.snd.snd.snd.snd.fst) (r6.snd.snd.snd.snd.snd.fst) (r6.snd.snd.snd.snd.snd.snd)).bind fun (r7 : Bool) =>
     bif !r7 then
      ret (Bool.false)
     else
      (laws_markSink_3ad (r3.fst) (r3.snd.fst) (r3.snd.snd.fst) (r3.snd.snd.snd.fst) (r3.snd.snd.snd.snd.fst) (r3.snd.snd.snd.snd.snd.fst) (r3.snd.snd.snd.snd.snd.snd) ((1 : Int))).bind fun (r8 : Int × (List Int) × Int × (List Int) × (List (Int × Int × List Int)) × (List Int) × Int × Int) =>
      bif decide (r8.fst < (0 : Int)) then
       ret (Bool.false)
      else
       (laws_eqSink (r4.fst) (r4.snd.fst) (r4.snd.snd.fst) (r4.snd.snd.snd.fst) (r4.snd.snd.snd.snd.fst) (r4.snd.snd.snd.snd.snd.fst) (r4.snd.snd.snd.snd.snd.snd.fst) (r2.fst) (r2.snd.fst) (r2.snd.snd.fst) (r2.snd.snd.snd.fst) (r2.snd.snd.snd.snd.fst) (r2.snd.snd.snd.snd.snd.fst) (r2.snd.snd.snd.snd.snd.snd.fst)).bind fun (r9 : Bool) =>
       bif !r9 then
        ret (Bool.false)
       else
        bif r4.snd.snd.snd.snd.snd.snd.snd.fst != r2.snd.snd.snd.snd.snd.snd.snd.fst then
         ret (Bool.false)
        else
         bif !r4.snd.snd.snd.snd.snd.snd.snd.snd == r2.snd.snd.snd.snd.snd.snd.snd.snd then
          ret (Bool.false)
         else
          (laws_markSink_3ad (r4.fst) (r4.snd.fst) (r4.snd.snd.fst) (r4.snd.snd.snd.fst) (r4.snd.snd.snd.snd.fst) (r4.snd.snd.snd.snd.snd.fst) (r4.snd.snd.snd.snd.snd.snd.fst) ((1 : Int))).bind fun (r10 : Int × (List Int) × Int × (List Int) × (List (Int × Int × List Int)) × (List Int) × Int × Int) =>
          (laws_heldSink (r10.snd.fst) (r4.snd.fst) (r10.snd.snd.snd.fst) (r10.snd.snd.snd.snd.fst) (r10.snd.snd.snd.snd.snd.fst) (r4.snd.snd.snd.snd.snd.fst) (r4.snd.snd.snd.snd.snd.snd.fst) ((1 : Int))).bind fun (r11 : Int) =>
          bif decide (r11 < (0 : Int)) then
           ret (Bool.false)
          else
           bif r11 != r10.fst then
            ret (Bool.false)
           else
            (laws_toSink (v0) (v1) (v2) (v3) (v4) (v5) (v6)).bind fun (r12 : (List Int) × Int × (List Int) × (List (Int × Int × List Int)) × (List Int) × Int × Int) =>
            (impl_DrainSink (r12.fst) (r12.snd.fst) (r12.snd.snd.fst) (r12.snd.snd.snd.fst) (r12.snd.snd.snd.snd.fst) (r12.snd.snd.snd.snd.snd.fst) (r12.snd.snd.snd.snd.snd.snd)).bind fun (r13 : (List Int) × Int × (List Int) × (List (Int × Int × List Int)) × (List Int) × Int × Int × Int × Bool) =>
            (laws_eqSink (r13.fst) (r13.snd.fst) (r13.snd.snd.fst) (r13.snd.snd.snd.fst) (r13.snd.snd.snd.snd.fst) (r13.snd.snd.snd.snd.snd.fst) (r13.snd.snd.snd.snd.snd.snd.fst) (r2.fst) (r2.snd.fst) (r2.snd.snd.fst) (r2.snd.snd.snd.fst) (r2.snd.snd.snd.snd.fst) (r2.snd.snd.snd.snd.snd.fst) (r2.snd.snd.snd.snd.snd.snd.fst)).bind fun (r14 : Bool) =>
            bif !r14 then
             ret (Bool.false)
            else
             bif r13.snd.snd.snd.snd.snd.snd.snd.fst != r2.snd.snd.snd.snd.snd.snd.snd.fst then
              ret (Bool.false)
             else
              bif !r13.snd.snd.snd.snd.snd.snd.snd.snd == r2.snd.snd.snd.snd.snd.snd.snd.snd then
               ret (Bool.false)
              else
               (laws_heldSink (r10.snd.fst) (r4.snd.fst) (r10.snd.snd.snd.fst) (r10.snd.snd.snd.snd.fst) (r10.snd.snd.snd.snd.snd.fst) (r4.snd.snd.snd.snd.snd.fst) (r4.snd.snd.snd.snd.snd.snd.fst) ((1 : Int))).bind fun (r15 : Int) =>
               bif decide (r15 < (0 : Int)) then
                ret (Bool.false)
               else
                bif r15 != r10.fst then
                 ret (Bool.false)
                else
                 ret (Bool.true)
theorem xl02.k (v0 : List Int) (v1 : Int) (v2 : List Int) (v3 : List (Int × Int × List Int)) (v4 : List Int) (v5 : Int) (v6 : Int) : topL E (callT E tab) 4 Try.f4 (xl02.c v0 v1 v2 v3 v4 v5 v6) = xl02.t (fun b => some (xl02.mk b)) v0 v1 v2 v3 v4 v5 v6 := by kernel_rfl
theorem xl02.eq (v0 : List Int) (v1 : Int) (v2 : List Int) (v3 : List (Int × Int × List Int)) (v4 : List Int) (v5 : Int) (v6 : Int) {b : Bool} (h : xl02.t some v0 v1 v2 v3 v4 v5 v6 = some b) : xl02 v0 v1 v2 v3 v4 v5 v6 = some b := tOf_intro xl02.un (fun _ => by kernel_rfl) (vlim_fn (callT_le E tab) rfl rfl rfl ((xl02.k v0 v1 v2 v3 v4 v5 v6).trans ((by unfold xl02.t; repeat' first | exact Sub.ret | exact Sub.none | exact Sub.loop | apply Sub.cond | (apply Sub.bind; intro _) : Sub xl02.mk _ _) b h)))
noncomputable def spec_DrainSink.q1006 (v0 : List Int) (v1 : Int) (v2 : List Int) (v3 : List (Int × Int × List Int)) (v4 : List Int) (v5 : Int) (v6 : Int) (v7 : List Int) (v8 : Int) (v9 : List Int) (v10 : List (Int × Int × List Int)) (v11 : List Int) (v12 : Int) (v13 : Int) (v14 : Int) (v15 : Int) (v16 : Int) : Option R := loopAtL E (callT E tab) 13 Try.f13 1 [.r, .r, .r, .r, .l, .b] (nn 1 (⟨(.box false), [.d .fro (.sl (.int .i64)) v0, iL v1, .d .fro (.sl (.int .i64)) v2, .d .fro (.sl (.pair (.int .i64) (.pair (.int .i64) (.sl (.int .i64))))) v3, .d .fro (.sl (.int .i64)) v4, iL v5, iL v6], false, false, false, 0, 0⟩ :: ⟨(.box false), [.d .deep (.sl (.int .i64)) v7, iL v8, .d .deep (.sl (.int .i64)) v9, .d .deep (.sl (.pair (.int .i64) (.pair (.int .i64) (.sl (.int .i64))))) v10, .d .deep (.sl (.int .i64)) v11, iL v12, iL v13], false, false, false, 0, 0⟩ :: nn 2 (⟨(.box false), [.dead, iL v14, .dead, .dead, .dead, iL v15, iL v16], false, false, false, 0, 0⟩ :: nn 48 ([]))))
noncomputable def spec_DrainSink.l1006 (v0 : List Int) (v1 : Int) (v2 : List Int) (v3 : List (Int × Int × List Int)) (v4 : List Int) (v5 : Int) (v6 : Int) (v7 : List Int) (v8 : Int) (v9 : List Int) (v10 : List (Int × Int × List Int)) (v11 : List Int) (v12 : Int) (v13 : Int) (v14 : Int) (v15 : Int) (v16 : Int) : Option ((List Int) × Int × (List Int) × (List (Int × Int × List Int)) × (List Int) × Int × Int × Int × Bool) := tOf spec_DrainSink.mk (spec_DrainSink.q1006 v0 v1 v2 v3 v4 v5 v6 v7 v8 v9 v10 v11 v12 v13 v14 v15 v16)
noncomputable def spec_DrainSink.q6 (v0 : List Int) (v1 : Int) (v2 : List Int) (v3 : List (Int × Int × List Int)) (v4 : List Int) (v5 : Int) (v6 : Int) (v7 : List Int) (v8 : Int) (v9 : List Int) (v10 : List (Int × Int × List Int)) (v11 : List Int) (v12 : Int) (v13 : Int) (v14 : List Int) (v15 : Int) (v16 : List Int) (v17 : List (Int × Int × List Int)) (v18 : List Int) (v19 : Int) (v20 : Int) : Option R := loopAtL E (callT E tab) 13 Try.f13 1 [.r, .r, .r, .r, .l, .b] (nn 1 (⟨(.box false), [.d .fro (.sl (.int .i64)) v0, iL v1, .d .fro (.sl (.int .i64)) v2, .d .fro (.sl (.pair (.int .i64) (.pair (.int .i64) (.sl (.int .i64))))) v3, .d .fro (.sl (.int .i64)) v4, iL v5, iL v6], false, false, false, 0, 0⟩ :: ⟨(.box false), [.d .deep (.sl (.int .i64)) v7, iL v8, .d .deep (.sl (.int .i64)) v9, .d .deep (.sl (.pair (.int .i64) (.pair (.int .i64) (.sl (.int .i64))))) v10, .d .deep (.sl (.int .i64)) v11, iL v12, iL v13], false, false, false, 0, 0⟩ :: nn 2 (⟨(.box false), [.d .deep (.sl (.int .i64)) v14, iL v15, .d .deep (.sl (.int .i64)) v16, .d .deep (.sl (.pair (.int .i64) (.pair (.int .i64) (.sl (.int .i64))))) v17, .d .deep (.sl (.int .i64)) v18, iL v19, iL v20], false, false, false, 0, 0⟩ :: nn 48 ([]))))
noncomputable def spec_DrainSink.l6 (v0 : List Int) (v1 : Int) (v2 : List Int) (v3 : List (Int × Int × List Int)) (v4 : List Int) (v5 : Int) (v6 : Int) (v7 : List Int) (v8 : Int) (v9 : List Int) (v10 : List (Int × Int × List Int)) (v11 : List Int) (v12 : Int) (v13 : Int) (v14 : List Int) (v15 : Int) (v16 : List Int) (v17 : List (Int × Int × List Int)) (v18 : List Int) (v19 : Int) (v20 : Int) : Option ((List Int) × Int × (List Int) × (List (Int × Int × List Int)) × (List Int) × Int × Int × Int × Bool) := tOf spec_DrainSink.mk (spec_DrainSink.q6 v0 v1 v2 v3 v4 v5 v6 v7 v8 v9 v10 v11 v12 v13 v14 v15 v16 v17 v18 v19 v20)
noncomputable def spec_DrainSink.t {γ : Type} (ret : ((List Int) × Int × (List Int) × (List (Int × Int × List Int)) × (List Int) × Int × Int × Int × Bool) → Option γ) (lp1006 : (List Int) → Int → (List Int) → (List (Int × Int × List Int)) → (List Int) → Int → Int → (List Int) → Int → (List Int) → (List (Int × Int × List Int)) → (List Int) → Int → Int → Int → Int → Int → Option γ) (lp6 : (List Int) → Int → (List Int) → (List (Int × Int × List Int)) → (List Int) → Int → Int → (List Int) → Int → (List Int) → (List (Int × Int × List Int)) → (List Int) → Int → Int → (List Int) → Int → (List Int) → (List (Int × Int × List Int)) → (List Int) → Int → Int → Option γ) (v0 : List Int) (v1 : Int) (v2 : List Int) (v3 : List (Int × Int × List Int)) (v4 : List Int) (v5 : Int) (v6 : Int) : Option γ :=
 (spec_GoodSink (v0) (v1) (v2) (v3) (v4) (v5) (v6)).bind fun (r0 : Bool) =>
 bif !r0 then
  ret ([], (0 : Int), [], [], [], (0 : Int), (0 : Int), (0 : Int), Bool.false)
 else
  (spec_l16Own (v0) (v1) (v2) (v3) (v4) (v5) (v6)).bind fun (r1 : (List Int) × Int × (List Int) × (List (Int × Int × List Int)) × (List Int) × Int × Int) =>
  bif (↑r1.snd.snd.snd.fst.length : Int) == (4 : Int) then
   (spec_l16Commit_5b7 (r1.fst) (r1.snd.fst) (r1.snd.snd.fst) (r1.snd.snd.snd.fst) (r1.snd.snd.snd.snd.fst) (r1.snd.snd.snd.snd.snd.fst) (r1.snd.snd.snd.snd.snd.snd)).bind fun (r2 : (List Int) × Int × (List Int) × (List (Int × Int × List Int)) × (List Int) × Int × Int × Int) =>
   lp6 (v0) (v1) (v2) (v3) (v4) (v5) (v6) ([]) ((0 : Int)) ([]) ([]) ([]) ((0 : Int)) ((0 : Int)) (r2.fst) (r2.snd.fst) (r2.snd.snd.fst) (r2.snd.snd.snd.fst) (r2.snd.snd.snd.snd.fst) (r2.snd.snd.snd.snd.snd.fst) (r2.snd.snd.snd.snd.snd.snd.fst)
  else
   lp6 (v0) (v1) (v2) (v3) (v4) (v5) (v6) ([]) ((0 : Int)) ([]) ([]) ([]) ((0 : Int)) ((0 : Int)) (r1.fst) (r1.snd.fst) (r1.snd.snd.fst) (r1.snd.snd.snd.fst) (r1.snd.snd.snd.snd.fst) (r1.snd.snd.snd.snd.snd.fst) (r1.snd.snd.snd.snd.snd.snd)
noncomputable def spec_DrainSink.t1006 {γ : Type} (ret : ((List Int) × Int × (List Int) × (List (Int × Int × List Int)) × (List Int) × Int × Int × Int × Bool) → Option γ) (lp1006 : (List Int) → Int → (List Int) → (List (Int × Int × List Int)) → (List Int) → Int → Int → (List Int) → Int → (List Int) → (List (Int × Int × List Int)) → (List Int) → Int → Int → Int → Int → Int → Option γ) (lp6 : (List Int) → Int → (List Int) → (List (Int × Int × List Int)) → (List Int) → Int → Int → (List Int) → Int → (List Int) → (List (Int × Int × List Int)) → (List Int) → Int → Int → (List Int) → Int → (List Int) → (List (Int × Int × List Int)) → (List Int) → Int → Int → Option γ) (v0 : List Int) (v1 : Int) (v2 : List Int) (v3 : List (Int × Int × List Int)) (v4 : List Int) (v5 : Int) (v6 : Int) (v7 : List Int) (v8 : Int) (v9 : List Int) (v10 : List (Int × Int × List Int)) (v11 : List Int) (v12 : Int) (v13 : Int) (v14 : Int) (v15 : Int) (v16 : Int) : Option γ :=
 none
noncomputable def spec_DrainSink.t6 {γ : Type} (ret : ((List Int) × Int × (List Int) × (List (Int × Int × List Int)) × (List Int) × Int × Int × Int × Bool) → Option γ) (lp1006 : (List Int) → Int → (List Int) → (List (Int × Int × List Int)) → (List Int) → Int → Int → (List Int) → Int → (List Int) → (List (Int × Int × List Int)) → (List Int) → Int → Int → Int → Int → Int → Option γ) (lp6 : (List Int) → Int → (List Int) → (List (Int × Int × List Int)) → (List Int) → Int → Int → (List Int) → Int → (List Int) → (List (Int × Int × List Int)) → (List Int) → Int → Int → (List Int) → Int → (List Int) → (List (Int × Int × List Int)) → (List Int) → Int → Int → Option γ) (v0 : List Int) (v1 : Int) (v2 : List Int) (v3 : List (Int × Int × List Int)) (v4 : List Int) (v5 : Int) (v6 : Int) (v7 : List Int) (v8 : Int) (v9 : List Int) (v10 : List (Int × Int × List Int)) (v11 : List Int) (v12 : Int) (v13 : Int) (v14 : List Int) (v15 : Int) (v16 : List Int) (v17 : List (Int × Int × List Int)) (v18 : List Int) (v19 : Int) (v20 : Int) : Option γ :=
 (spec_l16Step_3ad (v14) (v15) (v16) (v17) (v18) (v19) (v20) ((1 : Int))).bind fun (r3 : (Int × Int × Int × Bool × (List Int) × Int × (List Int) × (List (Int × Int × List Int)) × (List Int) × Int × Int) ⊕ ((List Int) × Int × (List Int) × (List (Int × Int × List Int)) × (List Int) × Int × Int × Bool × Int × Int × Int)) =>
 bif r3.isLeft then
  bif !(inL r3 ((0 : Int), (0 : Int), (0 : Int), Bool.false, [], (0 : Int), [], [], [], (0 : Int), (0 : Int))).snd.snd.snd.fst then
   (spec_l16Step_3ad ((inL r3 ((0 : Int), (0 : Int), (0 : Int), Bool.false, [], (0 : Int), [], [], [], (0 : Int), (0 : Int))).snd.snd.snd.snd.fst) (v15) ((inL r3 ((0 : Int), (0 : Int), (0 : Int), Bool.false, [], (0 : Int), [], [], [], (0 : Int), (0 : Int))).snd.snd.snd.snd.snd.snd.fst) ((inL r3 ((0 : Int), (0 : Int), (0 : Int), Bool.false, [], (0 : Int), [], [], [], (0 : Int), (0 : Int))).snd.snd.snd.snd.snd.snd.snd.fst) ((inL r3 ((0 : Int), (0 : Int), (0 : Int), Bool.false, [], (0 : Int), [], [], [], (0 : Int), (0 : Int))).snd.snd.snd.snd.snd.snd.snd.snd.fst) (v19) (v20) ((2 : Int))).bind fun (r4 : (Int × Int × Int × Bool × (List Int) × Int × (List Int) × (List (Int × Int × List Int)) × (List Int) × Int × Int) ⊕ ((List Int) × Int × (List Int) × (List (Int × Int × List Int)) × (List Int) × Int × Int × Bool × Int × Int × Int)) =>
   bif r4.isLeft then
    bif (inL r4 ((0 : Int), (0 : Int), (0 : Int), Bool.false, [], (0 : Int), [], [], [], (0 : Int), (0 : Int))).snd.snd.snd.fst then
     none
    else
     (spec_l16Commit_5b7 ((inL r4 ((0 : Int), (0 : Int), (0 : Int), Bool.false, [], (0 : Int), [], [], [], (0 : Int), (0 : Int))).snd.snd.snd.snd.fst) (v15) ((inL r4 ((0 : Int), (0 : Int), (0 : Int), Bool.false, [], (0 : Int), [], [], [], (0 : Int), (0 : Int))).snd.snd.snd.snd.snd.snd.fst) ((inL r4 ((0 : Int), (0 : Int), (0 : Int), Bool.false, [], (0 : Int), [], [], [], (0 : Int), (0 : Int))).snd.snd.snd.snd.snd.snd.snd.fst) ((inL r4 ((0 : Int), (0 : Int), (0 : Int), Bool.false, [], (0 : Int), [], [], [], (0 : Int), (0 : Int))).snd.snd.snd.snd.snd.snd.snd.snd.fst) (v19) (v20)).bind fun (r5 : (List Int) × Int × (List Int) × (List (Int × Int × List Int)) × (List Int) × Int × Int × Int) =>
     (spec_l16Own (r5.fst) (r5.snd.fst) (r5.snd.snd.fst) (r5.snd.snd.snd.fst) (r5.snd.snd.snd.snd.fst) (r5.snd.snd.snd.snd.snd.fst) (r5.snd.snd.snd.snd.snd.snd.fst)).bind fun (r6 : (List Int) × Int × (List Int) × (List (Int × Int × List Int)) × (List Int) × Int × Int) =>
     ret (r6.fst, r6.snd.fst, r6.snd.snd.fst, r6.snd.snd.snd.fst, r6.snd.snd.snd.snd.fst, r6.snd.snd.snd.snd.snd.fst, r6.snd.snd.snd.snd.snd.snd, IntKind.i64.wrap ((↑r5.snd.snd.snd.snd.fst.length : Int) - (↑v4.length : Int)), Bool.true)
   else
    bif (inR r4 ([], (0 : Int), [], [], [], (0 : Int), (0 : Int), Bool.false, (0 : Int), (0 : Int), (0 : Int))).snd.snd.snd.snd.snd.snd.snd.fst then
     (spec_l16Commit_5b7 ((inR r4 ([], (0 : Int), [], [], [], (0 : Int), (0 : Int), Bool.false, (0 : Int), (0 : Int), (0 : Int))).fst) ((inR r4 ([], (0 : Int), [], [], [], (0 : Int), (0 : Int), Bool.false, (0 : Int), (0 : Int), (0 : Int))).snd.fst) ((inR r4 ([], (0 : Int), [], [], [], (0 : Int), (0 : Int), Bool.false, (0 : Int), (0 : Int), (0 : Int))).snd.snd.fst) ((inR r4 ([], (0 : Int), [], [], [], (0 : Int), (0 : Int), Bool.false, (0 : Int), (0 : Int), (0 : Int))).snd.snd.snd.fst) ((inR r4 ([], (0 : Int), [], [], [], (0 : Int), (0 : Int), Bool.false, (0 : Int), (0 : Int), (0 : Int))).snd.snd.snd.snd.fst) ((inR r4 ([], (0 : Int), [], [], [], (0 : Int), (0 : Int), Bool.false, (0 : Int), (0 : Int), (0 : Int))).snd.snd.snd.snd.snd.fst) ((inR r4 ([], (0 : Int), [], [], [], (0 : Int), (0 : Int), Bool.false, (0 : Int), (0 : Int), (0 : Int))).snd.snd.snd.snd.snd.snd.fst)).bind fun (r7 : (List Int) × Int × (List Int) × (List (Int × Int × List Int)) × (List Int) × Int × Int × Int) =>
     (spec_l16Own (r7.fst) (r7.snd.fst) (r7.snd.snd.fst) (r7.snd.snd.snd.fst) (r7.snd.snd.snd.snd.fst) (r7.snd.snd.snd.snd.snd.fst) (r7.snd.snd.snd.snd.snd.snd.fst)).bind fun (r8 : (List Int) × Int × (List Int) × (List (Int × Int × List Int)) × (List Int) × Int × Int) =>
     ret (r8.fst, r8.snd.fst, r8.snd.snd.fst, r8.snd.snd.snd.fst, r8.snd.snd.snd.snd.fst, r8.snd.snd.snd.snd.snd.fst, r8.snd.snd.snd.snd.snd.snd, IntKind.i64.wrap ((↑r7.snd.snd.snd.snd.fst.length : Int) - (↑v4.length : Int)), Bool.true)
    else
     none
  else
   lp1006 (v0) (v1) (v2) (v3) (v4) (v5) (v6) (v7) (v8) (v9) (v10) (v11) (v12) (v13) ((inL r3 ((0 : Int), (0 : Int), (0 : Int), Bool.false, [], (0 : Int), [], [], [], (0 : Int), (0 : Int))).fst) ((inL r3 ((0 : Int), (0 : Int), (0 : Int), Bool.false, [], (0 : Int), [], [], [], (0 : Int), (0 : Int))).snd.fst) ((inL r3 ((0 : Int), (0 : Int), (0 : Int), Bool.false, [], (0 : Int), [], [], [], (0 : Int), (0 : Int))).snd.snd.fst)
 else
  bif !(inR r3 ([], (0 : Int), [], [], [], (0 : Int), (0 : Int), Bool.false, (0 : Int), (0 : Int), (0 : Int))).snd.snd.snd.snd.snd.snd.snd.fst then
   none
  else
   lp6 (v0) (v1) (v2) (v3) (v4) (v5) (v6) (v7) (v8) (v9) (v10) (v11) (v12) (v13) ((inR r3 ([], (0 : Int), [], [], [], (0 : Int), (0 : Int), Bool.false, (0 : Int), (0 : Int), (0 : Int))).fst) ((inR r3 ([], (0 : Int), [], [], [], (0 : Int), (0 : Int), Bool.false, (0 : Int), (0 : Int), (0 : Int))).snd.fst) ((inR r3 ([], (0 : Int), [], [], [], (0 : Int), (0 : Int), Bool.false, (0 : Int), (0 : Int), (0 : Int))).snd.snd.fst) ((inR r3 ([], (0 : Int), [], [], [], (0 : Int), (0 : Int), Bool.false, (0 : Int), (0 : Int), (0 : Int))).snd.snd.snd.fst) ((inR r3 ([], (0 : Int), [], [], [], (0 : Int), (0 : Int), Bool.false, (0 : Int), (0 : Int), (0 : Int))).snd.snd.snd.snd.fst) ((inR r3 ([], (0 : Int), [], [], [], (0 : Int), (0 : Int), Bool.false, (0 : Int), (0 : Int), (0 : Int))).snd.snd.snd.snd.snd.fst) ((inR r3 ([], (0 : Int), [], [], [], (0 : Int), (0 : Int), Bool.false, (0 : Int), (0 : Int), (0 : Int))).snd.snd.snd.snd.snd.snd.fst)
theorem spec_DrainSink.k (v0 : List Int) (v1 : Int) (v2 : List Int) (v3 : List (Int × Int × List Int)) (v4 : List Int) (v5 : Int) (v6 : Int) : topL E (callT E tab) 13 Try.f13 (spec_DrainSink.c v0 v1 v2 v3 v4 v5 v6) = spec_DrainSink.t (fun b => some (spec_DrainSink.mk b)) spec_DrainSink.q1006 spec_DrainSink.q6 v0 v1 v2 v3 v4 v5 v6 := by kernel_rfl
theorem spec_DrainSink.k1006 (v0 : List Int) (v1 : Int) (v2 : List Int) (v3 : List (Int × Int × List Int)) (v4 : List Int) (v5 : Int) (v6 : Int) (v7 : List Int) (v8 : Int) (v9 : List Int) (v10 : List (Int × Int × List Int)) (v11 : List Int) (v12 : Int) (v13 : Int) (v14 : Int) (v15 : Int) (v16 : Int) : roundL E (callT E tab) 13 Try.f13 1 [.r, .r, .r, .r, .l, .b] (nn 1 (⟨(.box false), [.d .fro (.sl (.int .i64)) v0, iL v1, .d .fro (.sl (.int .i64)) v2, .d .fro (.sl (.pair (.int .i64) (.pair (.int .i64) (.sl (.int .i64))))) v3, .d .fro (.sl (.int .i64)) v4, iL v5, iL v6], false, false, false, 0, 0⟩ :: ⟨(.box false), [.d .deep (.sl (.int .i64)) v7, iL v8, .d .deep (.sl (.int .i64)) v9, .d .deep (.sl (.pair (.int .i64) (.pair (.int .i64) (.sl (.int .i64))))) v10, .d .deep (.sl (.int .i64)) v11, iL v12, iL v13], false, false, false, 0, 0⟩ :: nn 2 (⟨(.box false), [.dead, iL v14, .dead, .dead, .dead, iL v15, iL v16], false, false, false, 0, 0⟩ :: nn 48 ([])))) = spec_DrainSink.t1006 (fun b => some (spec_DrainSink.mk b)) spec_DrainSink.q1006 spec_DrainSink.q6 v0 v1 v2 v3 v4 v5 v6 v7 v8 v9 v10 v11 v12 v13 v14 v15 v16 := by kernel_rfl
theorem spec_DrainSink.k6 (v0 : List Int) (v1 : Int) (v2 : List Int) (v3 : List (Int × Int × List Int)) (v4 : List Int) (v5 : Int) (v6 : Int) (v7 : List Int) (v8 : Int) (v9 : List Int) (v10 : List (Int × Int × List Int)) (v11 : List Int) (v12 : Int) (v13 : Int) (v14 : List Int) (v15 : Int) (v16 : List Int) (v17 : List (Int × Int × List Int)) (v18 : List Int) (v19 : Int) (v20 : Int) : roundL E (callT E tab) 13 Try.f13 1 [.r, .r, .r, .r, .l, .b] (nn 1 (⟨(.box false), [.d .fro (.sl (.int .i64)) v0, iL v1, .d .fro (.sl (.int .i64)) v2, .d .fro (.sl (.pair (.int .i64) (.pair (.int .i64) (.sl (.int .i64))))) v3, .d .fro (.sl (.int .i64)) v4, iL v5, iL v6], false, false, false, 0, 0⟩ :: ⟨(.box false), [.d .deep (.sl (.int .i64)) v7, iL v8, .d .deep (.sl (.int .i64)) v9, .d .deep (.sl (.pair (.int .i64) (.pair (.int .i64) (.sl (.int .i64))))) v10, .d .deep (.sl (.int .i64)) v11, iL v12, iL v13], false, false, false, 0, 0⟩ :: nn 2 (⟨(.box false), [.d .deep (.sl (.int .i64)) v14, iL v15, .d .deep (.sl (.int .i64)) v16, .d .deep (.sl (.pair (.int .i64) (.pair (.int .i64) (.sl (.int .i64))))) v17, .d .deep (.sl (.int .i64)) v18, iL v19, iL v20], false, false, false, 0, 0⟩ :: nn 48 ([])))) = spec_DrainSink.t6 (fun b => some (spec_DrainSink.mk b)) spec_DrainSink.q1006 spec_DrainSink.q6 v0 v1 v2 v3 v4 v5 v6 v7 v8 v9 v10 v11 v12 v13 v14 v15 v16 v17 v18 v19 v20 := by kernel_rfl
theorem spec_DrainSink.eq (v0 : List Int) (v1 : Int) (v2 : List Int) (v3 : List (Int × Int × List Int)) (v4 : List Int) (v5 : Int) (v6 : Int) {b : (List Int) × Int × (List Int) × (List (Int × Int × List Int)) × (List Int) × Int × Int × Int × Bool} (h : spec_DrainSink.t some spec_DrainSink.l1006 spec_DrainSink.l6 v0 v1 v2 v3 v4 v5 v6 = some b) : spec_DrainSink v0 v1 v2 v3 v4 v5 v6 = some b := tOf_intro spec_DrainSink.un (fun _ => by kernel_rfl) (vlim_fn (callT_le E tab) rfl rfl rfl ((spec_DrainSink.k v0 v1 v2 v3 v4 v5 v6).trans ((by unfold spec_DrainSink.t; repeat' first | exact Sub.ret | exact Sub.none | exact Sub.loop | apply Sub.cond | (apply Sub.bind; intro _) : Sub spec_DrainSink.mk _ _) b h)))
theorem spec_DrainSink.eq1006 (v0 : List Int) (v1 : Int) (v2 : List Int) (v3 : List (Int × Int × List Int)) (v4 : List Int) (v5 : Int) (v6 : Int) (v7 : List Int) (v8 : Int) (v9 : List Int) (v10 : List (Int × Int × List Int)) (v11 : List Int) (v12 : Int) (v13 : Int) (v14 : Int) (v15 : Int) (v16 : Int) {b : (List Int) × Int × (List Int) × (List (Int × Int × List Int)) × (List Int) × Int × Int × Int × Bool} (h : spec_DrainSink.t1006 some spec_DrainSink.l1006 spec_DrainSink.l6 v0 v1 v2 v3 v4 v5 v6 v7 v8 v9 v10 v11 v12 v13 v14 v15 v16 = some b) : spec_DrainSink.l1006 v0 v1 v2 v3 v4 v5 v6 v7 v8 v9 v10 v11 v12 v13 v14 v15 v16 = some b := tOf_intro spec_DrainSink.un (fun _ => by kernel_rfl) (loopAtL_step ((spec_DrainSink.k1006 v0 v1 v2 v3 v4 v5 v6 v7 v8 v9 v10 v11 v12 v13 v14 v15 v16).trans ((by unfold spec_DrainSink.t1006; repeat' first | exact Sub.ret | exact Sub.none | exact Sub.loop | apply Sub.cond | (apply Sub.bind; intro _) : Sub spec_DrainSink.mk _ _) b h)))
theorem spec_DrainSink.eq6 (v0 : List Int) (v1 : Int) (v2 : List Int) (v3 : List (Int × Int × List Int)) (v4 : List Int) (v5 : Int) (v6 : Int) (v7 : List Int) (v8 : Int) (v9 : List Int) (v10 : List (Int × Int × List Int)) (v11 : List Int) (v12 : Int) (v13 : Int) (v14 : List Int) (v15 : Int) (v16 : List Int) (v17 : List (Int × Int × List Int)) (v18 : List Int) (v19 : Int) (v20 : Int) {b : (List Int) × Int × (List Int) × (List (Int × Int × List Int)) × (List Int) × Int × Int × Int × Bool} (h : spec_DrainSink.t6 some spec_DrainSink.l1006 spec_DrainSink.l6 v0 v1 v2 v3 v4 v5 v6 v7 v8 v9 v10 v11 v12 v13 v14 v15 v16 v17 v18 v19 v20 = some b) : spec_DrainSink.l6 v0 v1 v2 v3 v4 v5 v6 v7 v8 v9 v10 v11 v12 v13 v14 v15 v16 v17 v18 v19 v20 = some b := tOf_intro spec_DrainSink.un (fun _ => by kernel_rfl) (loopAtL_step ((spec_DrainSink.k6 v0 v1 v2 v3 v4 v5 v6 v7 v8 v9 v10 v11 v12 v13 v14 v15 v16 v17 v18 v19 v20).trans ((by unfold spec_DrainSink.t6; repeat' first | exact Sub.ret | exact Sub.none | exact Sub.loop | apply Sub.cond | (apply Sub.bind; intro _) : Sub spec_DrainSink.mk _ _) b h)))
end GoV

/- Equations of the program's functions (printed by wip/tools/emit.py). -/
namespace GoV
open Go Go.Proofs
set_option maxRecDepth 100000

noncomputable def impl_DrainSink.t {γ : Type} (ret : ((List Int) × Int × (List Int) × (List (Int × Int × List Int)) × (List Int) × Int × Int × Int × Bool) → Option γ) (v0 : List Int) (v1 : Int) (v2 : List Int) (v3 : List (Int × Int × List Int)) (v4 : List Int) (v5 : Int) (v6 : Int) : Option γ :=
 (impl_GoodSink (v0) (v1) (v2) (v3) (v4) (v5) (v6)).bind fun (r0 : Bool) =>
 bif !r0 then
  ret ([], (0 : Int), [], [], [], (0 : Int), (0 : Int), (0 : Int), Bool.false)
 else
  (impl_Sink_own (v0) (v1) (v2) (v3) (v4) (v5) (v6)).bind fun (r1 : (List Int) × Int × (List Int) × (List (Int × Int × List Int)) × (List Int) × Int × Int) =>
  bif (↑r1.snd.snd.snd.fst.length : Int) == (4 : Int) then
   (xi07 (r1.fst) (r1.snd.fst) (r1.snd.snd.fst) (r1.snd.snd.snd.fst) (r1.snd.snd.snd.snd.fst) (r1.snd.snd.snd.snd.snd.fst) (r1.snd.snd.snd.snd.snd.snd) ((3 : Int))).bind fun (r2 : Int × (List Int) × Int × (List Int) × (List (Int × Int × List Int)) × (List Int) × Int × Int) =>
   (xi07 (r2.snd.fst) (r2.snd.snd.fst) (r2.snd.snd.snd.fst) (r2.snd.snd.snd.snd.fst) (r2.snd.snd.snd.snd.snd.fst) (r2.snd.snd.snd.snd.snd.snd.fst) (r2.snd.snd.snd.snd.snd.snd.snd) ((1 : Int))).bind fun (r3 : Int × (List Int) × Int × (List Int) × (List (Int × Int × List Int)) × (List Int) × Int × Int) =>
   (xi01 (r3.snd.fst) (r3.snd.snd.fst) (r3.snd.snd.snd.fst) (r3.snd.snd.snd.snd.fst) (r3.snd.snd.snd.snd.snd.fst) (r3.snd.snd.snd.snd.snd.snd.fst) (r3.snd.snd.snd.snd.snd.snd.snd)).bind fun (r4 : Bool × (List Int) × Int × (List Int) × (List (Int × Int × List Int)) × (List Int) × Int × Int) =>
   (xi07 (r4.snd.fst) (r4.snd.snd.fst) (r4.snd.snd.snd.fst) (r4.snd.snd.snd.snd.fst) (r4.snd.snd.snd.snd.snd.fst) (r4.snd.snd.snd.snd.snd.snd.fst) (r4.snd.snd.snd.snd.snd.snd.snd) ((3 : Int))).bind fun (r5 : Int × (List Int) × Int × (List Int) × (List (Int × Int × List Int)) × (List Int) × Int × Int) =>
   (impl_Sink_own (r5.snd.fst) (r5.snd.snd.fst) (r5.snd.snd.snd.fst) (r5.snd.snd.snd.snd.fst) (r5.snd.snd.snd.snd.snd.fst) (r5.snd.snd.snd.snd.snd.snd.fst) (r5.snd.snd.snd.snd.snd.snd.snd)).bind fun (r6 : (List Int) × Int × (List Int) × (List (Int × Int × List Int)) × (List Int) × Int × Int) =>
   ret (r6.fst, r6.snd.fst, r6.snd.snd.fst, r6.snd.snd.snd.fst, r6.snd.snd.snd.snd.fst, r6.snd.snd.snd.snd.snd.fst, r6.snd.snd.snd.snd.snd.snd, IntKind.i64.wrap ((↑r5.snd.snd.snd.snd.snd.fst.length : Int) - (↑v4.length : Int)), Bool.true)
  else
   (xi07 (r1.fst) (r1.snd.fst) (r1.snd.snd.fst) (r1.snd.snd.snd.fst) (r1.snd.snd.snd.snd.fst) (r1.snd.snd.snd.snd.snd.fst) (r1.snd.snd.snd.snd.snd.snd) ((1 : Int))).bind fun (r7 : Int × (List Int) × Int × (List Int) × (List (Int × Int × List Int)) × (List Int) × Int × Int) =>
   (xi01 (r7.snd.fst) (r7.snd.snd.fst) (r7.snd.snd.snd.fst) (r7.snd.snd.snd.snd.fst) (r7.snd.snd.snd.snd.snd.fst) (r7.snd.snd.snd.snd.snd.snd.fst) (r7.snd.snd.snd.snd.snd.snd.snd)).bind fun (r8 : Bool × (List Int) × Int × (List Int) × (List (Int × Int × List Int)) × (List Int) × Int × Int) =>
   (xi07 (r8.snd.fst) (r8.snd.snd.fst) (r8.snd.snd.snd.fst) (r8.snd.snd.snd.snd.fst) (r8.snd.snd.snd.snd.snd.fst) (r8.snd.snd.snd.snd.snd.snd.fst) (r8.snd.snd.snd.snd.snd.snd.snd) ((3 : Int))).bind fun (r9 : Int × (List Int) × Int × (List Int) × (List (Int × Int × List Int)) × (List Int) × Int × Int) =>
   (impl_Sink_own (r9.snd.fst) (r9.snd.snd.fst) (r9.snd.snd.snd.fst) (r9.snd.snd.snd.snd.fst) (r9.snd.snd.snd.snd.snd.fst) (r9.snd.snd.snd.snd.snd.snd.fst) (r9.snd.snd.snd.snd.snd.snd.snd)).bind fun (r10 : (List Int) × Int × (List Int) × (List (Int × Int × List Int)) × (List Int) × Int × Int) =>
   ret (r10.fst, r10.snd.fst, r10.snd.snd.fst, r10.snd.snd.snd.fst, r10.snd.snd.snd.snd.fst, r10.snd.snd.snd.snd.snd.fst, r10.snd.snd.snd.snd.snd.snd, IntKind.i64.wrap ((↑r9.snd.snd.snd.snd.snd.fst.length : Int) - (↑v4.length : Int)), Bool.true)
theorem impl_DrainSink.k (v0 : List Int) (v1 : Int) (v2 : List Int) (v3 : List (Int × Int × List Int)) (v4 : List Int) (v5 : Int) (v6 : Int) : topL E (callT E tab) 14 Try.f14 (impl_DrainSink.c v0 v1 v2 v3 v4 v5 v6) = impl_DrainSink.t (fun b => some (impl_DrainSink.mk b)) v0 v1 v2 v3 v4 v5 v6 := by kernel_rfl
theorem impl_DrainSink.eq (v0 : List Int) (v1 : Int) (v2 : List Int) (v3 : List (Int × Int × List Int)) (v4 : List Int) (v5 : Int) (v6 : Int) {b : (List Int) × Int × (List Int) × (List (Int × Int × List Int)) × (List Int) × Int × Int × Int × Bool} (h : impl_DrainSink.t some v0 v1 v2 v3 v4 v5 v6 = some b) : impl_DrainSink v0 v1 v2 v3 v4 v5 v6 = some b := tOf_intro impl_DrainSink.un (fun _ => by kernel_rfl) (vlim_fn (callT_le E tab) rfl rfl rfl ((impl_DrainSink.k v0 v1 v2 v3 v4 v5 v6).trans ((by unfold impl_DrainSink.t; repeat' first | exact Sub.ret | exact Sub.none | exact Sub.loop | apply Sub.cond | (apply Sub.bind; intro _) : Sub impl_DrainSink.mk _ _) b h)))
end GoV
