/- A part of the proof of FnSinkSteps: an interpreter of the model over plain data, its soundness, and what it makes of the functions that the statement reaches. Conditions: none beyond what the given statement itself says. -/
import Derived.Test.YthecmihppeckhaaTH
set_option linter.unusedVariables false
set_option linter.unusedSimpArgs false
set_option linter.unnecessarySimpa false
set_option linter.unusedSectionVars false
/- The functions of the program, each told by what it answers in the end (printed by wip/tools/emit.py). -/
/-! Names of functions here: xs00 = spec_l1Cur_sinkSteps_fee, xi01 = impl_Sink_prepare_dfc, xs02 = spec_l1Cur_source_fee, xi03 = impl_Sink_commit_dfc, xs04 = slices_Clone_int_int, xs05 = slices_Equal_int_int, xs06 = spec_l1Cur_among_a22, xi07 = impl_Sink_crash_dfc, xi08 = impl_Sink_often_1e4, xs09 = spec_l1Cur_next_fee, xs0a = spec_l1Cur_pick_e61, xs0b = spec_l1Cur_sink_fee -/
namespace GoV
open Go Go.Proofs
set_option maxRecDepth 100000

def spec_GoodSink.c (v0 : List Int) (v1 : Int) (v2 : List Int) (v3 : List (Int × Int × List Int)) (v4 : List Int) (v5 : Int) (v6 : Int) : List Cell := ac [.d .fro (.sl (.int .i64)) v0, iL v1, .d .fro (.sl (.int .i64)) v2, .d .fro (.sl (.pair (.int .i64) (.pair (.int .i64) (.sl (.int .i64))))) v3, .d .fro (.sl (.int .i64)) v4, iL v5, iL v6] :: []
def spec_GoodSink.mk (b : Bool) : R := (⟨.one, [bL b]⟩, nn 1 ([]))
def spec_GoodSink.un (r : R) : Bool := ((leafR r 0).dat .bool)
noncomputable def spec_GoodSink (v0 : List Int) (v1 : Int) (v2 : List Int) (v3 : List (Int × Int × List Int)) (v4 : List Int) (v5 : Int) (v6 : Int) : Option (Bool) := tOf spec_GoodSink.mk (vlim E 20 (spec_GoodSink.c v0 v1 v2 v3 v4 v5 v6))
def spec_l1In.c (v0 : Int) (v1 : Int) (v2 : Int) : List Cell := vc (iL v0) :: vc (iL v1) :: vc (iL v2) :: []
def spec_l1In.mk (b : Bool) : R := (⟨.one, [bL b]⟩, nn 3 ([]))
def spec_l1In.un (r : R) : Bool := ((leafR r 0).dat .bool)
noncomputable def spec_l1In (v0 : Int) (v1 : Int) (v2 : Int) : Option (Bool) := tOf spec_l1In.mk (vlim E 46 (spec_l1In.c v0 v1 v2))
def spec_l16Same.c (v0 : List Int) (v1 : List Int) : List Cell := vc (.d .fro (.sl (.int .i64)) v0) :: vc (.d .fro (.sl (.int .i64)) v1) :: []
def spec_l16Same.mk (b : Bool) : R := (⟨.one, [bL b]⟩, nn 2 ([]))
def spec_l16Same.un (r : R) : Bool := ((leafR r 0).dat .bool)
noncomputable def spec_l16Same (v0 : List Int) (v1 : List Int) : Option (Bool) := tOf spec_l16Same.mk (vlim E 47 (spec_l16Same.c v0 v1))
def spec_l16Own.c (v0 : List Int) (v1 : Int) (v2 : List Int) (v3 : List (Int × Int × List Int)) (v4 : List Int) (v5 : Int) (v6 : Int) : List Cell := ac [.d .fro (.sl (.int .i64)) v0, iL v1, .d .fro (.sl (.int .i64)) v2, .d .fro (.sl (.pair (.int .i64) (.pair (.int .i64) (.sl (.int .i64))))) v3, .d .fro (.sl (.int .i64)) v4, iL v5, iL v6] :: []
def spec_l16Own.mk (b : (List Int) × Int × (List Int) × (List (Int × Int × List Int)) × (List Int) × Int × Int) : R := (⟨.agg, [.d .deep (.sl (.int .i64)) b.1, iL b.2.1, .d .deep (.sl (.int .i64)) b.2.2.1, .d .deep (.sl (.pair (.int .i64) (.pair (.int .i64) (.sl (.int .i64))))) b.2.2.2.1, .d .deep (.sl (.int .i64)) b.2.2.2.2.1, iL b.2.2.2.2.2.1, iL b.2.2.2.2.2.2]⟩, nn 1 ([]))
def spec_l16Own.un (r : R) : (List Int) × Int × (List Int) × (List (Int × Int × List Int)) × (List Int) × Int × Int := ((leafR r 0).dat (.sl (.int .i64)), (leafR r 1).dat (.int .i64), (leafR r 2).dat (.sl (.int .i64)), (leafR r 3).dat (.sl (.pair (.int .i64) (.pair (.int .i64) (.sl (.int .i64))))), (leafR r 4).dat (.sl (.int .i64)), (leafR r 5).dat (.int .i64), (leafR r 6).dat (.int .i64))
noncomputable def spec_l16Own (v0 : List Int) (v1 : Int) (v2 : List Int) (v3 : List (Int × Int × List Int)) (v4 : List Int) (v5 : Int) (v6 : Int) : Option ((List Int) × Int × (List Int) × (List (Int × Int × List Int)) × (List Int) × Int × Int) := tOf spec_l16Own.mk (vlim E 27 (spec_l16Own.c v0 v1 v2 v3 v4 v5 v6))
def spec_l16Crash_5b7.c (v0 : List Int) (v1 : Int) (v2 : List Int) (v3 : List (Int × Int × List Int)) (v4 : List Int) (v5 : Int) (v6 : Int) : List Cell := ac [.d .deep (.sl (.int .i64)) v0, iL v1, .d .deep (.sl (.int .i64)) v2, .d .deep (.sl (.pair (.int .i64) (.pair (.int .i64) (.sl (.int .i64))))) v3, .d .deep (.sl (.int .i64)) v4, iL v5, iL v6] :: []
def spec_l16Crash_5b7.mk (b : (List Int) × Int × (List Int) × (List (Int × Int × List Int)) × (List Int) × Int × Int) : R := (⟨.agg, [.d .deep (.sl (.int .i64)) b.1, iL b.2.1, .d .deep (.sl (.int .i64)) b.2.2.1, .d .deep (.sl (.pair (.int .i64) (.pair (.int .i64) (.sl (.int .i64))))) b.2.2.2.1, .d .deep (.sl (.int .i64)) b.2.2.2.2.1, iL b.2.2.2.2.2.1, iL b.2.2.2.2.2.2]⟩, nn 1 ([]))
def spec_l16Crash_5b7.un (r : R) : (List Int) × Int × (List Int) × (List (Int × Int × List Int)) × (List Int) × Int × Int := ((leafR r 0).dat (.sl (.int .i64)), (leafR r 1).dat (.int .i64), (leafR r 2).dat (.sl (.int .i64)), (leafR r 3).dat (.sl (.pair (.int .i64) (.pair (.int .i64) (.sl (.int .i64))))), (leafR r 4).dat (.sl (.int .i64)), (leafR r 5).dat (.int .i64), (leafR r 6).dat (.int .i64))
noncomputable def spec_l16Crash_5b7 (v0 : List Int) (v1 : Int) (v2 : List Int) (v3 : List (Int × Int × List Int)) (v4 : List Int) (v5 : Int) (v6 : Int) : Option ((List Int) × Int × (List Int) × (List (Int × Int × List Int)) × (List Int) × Int × Int) := tOf spec_l16Crash_5b7.mk (vlim E 26 (spec_l16Crash_5b7.c v0 v1 v2 v3 v4 v5 v6))
def spec_l16From.c (v0 : List Int) (v1 : Int) (v2 : List Int) (v3 : List (Int × Int × List Int)) (v4 : List Int) (v5 : Int) (v6 : Int) : List Cell := ac [.d .fro (.sl (.int .i64)) v0, iL v1, .d .fro (.sl (.int .i64)) v2, .d .fro (.sl (.pair (.int .i64) (.pair (.int .i64) (.sl (.int .i64))))) v3, .d .fro (.sl (.int .i64)) v4, iL v5, iL v6] :: []
def spec_l16From.mk (b : Int) : R := (⟨.one, [iL b]⟩, nn 1 ([]))
def spec_l16From.un (r : R) : Int := ((leafR r 0).dat (.int .i64))
noncomputable def spec_l16From (v0 : List Int) (v1 : Int) (v2 : List Int) (v3 : List (Int × Int × List Int)) (v4 : List Int) (v5 : Int) (v6 : Int) : Option (Int) := tOf spec_l16From.mk (vlim E 50 (spec_l16From.c v0 v1 v2 v3 v4 v5 v6))
def spec_l16Commit_5b7.c (v0 : List Int) (v1 : Int) (v2 : List Int) (v3 : List (Int × Int × List Int)) (v4 : List Int) (v5 : Int) (v6 : Int) : List Cell := ac [.d .deep (.sl (.int .i64)) v0, iL v1, .d .deep (.sl (.int .i64)) v2, .d .deep (.sl (.pair (.int .i64) (.pair (.int .i64) (.sl (.int .i64))))) v3, .d .deep (.sl (.int .i64)) v4, iL v5, iL v6] :: []
def spec_l16Commit_5b7.mk (b : (List Int) × Int × (List Int) × (List (Int × Int × List Int)) × (List Int) × Int × Int × Int) : R := (⟨(.tup [some 7, none]), [.d .deep (.sl (.int .i64)) b.1, iL b.2.1, .d .deep (.sl (.int .i64)) b.2.2.1, .d .deep (.sl (.pair (.int .i64) (.pair (.int .i64) (.sl (.int .i64))))) b.2.2.2.1, .d .deep (.sl (.int .i64)) b.2.2.2.2.1, iL b.2.2.2.2.2.1, iL b.2.2.2.2.2.2.1, iL b.2.2.2.2.2.2.2]⟩, nn 1 ([]))
def spec_l16Commit_5b7.un (r : R) : (List Int) × Int × (List Int) × (List (Int × Int × List Int)) × (List Int) × Int × Int × Int := ((leafR r 0).dat (.sl (.int .i64)), (leafR r 1).dat (.int .i64), (leafR r 2).dat (.sl (.int .i64)), (leafR r 3).dat (.sl (.pair (.int .i64) (.pair (.int .i64) (.sl (.int .i64))))), (leafR r 4).dat (.sl (.int .i64)), (leafR r 5).dat (.int .i64), (leafR r 6).dat (.int .i64), (leafR r 7).dat (.int .i64))
noncomputable def spec_l16Commit_5b7 (v0 : List Int) (v1 : Int) (v2 : List Int) (v3 : List (Int × Int × List Int)) (v4 : List Int) (v5 : Int) (v6 : Int) : Option ((List Int) × Int × (List Int) × (List (Int × Int × List Int)) × (List Int) × Int × Int × Int) := tOf spec_l16Commit_5b7.mk (vlim E 25 (spec_l16Commit_5b7.c v0 v1 v2 v3 v4 v5 v6))
def spec_l16Step_3ad.c (v0 : List Int) (v1 : Int) (v2 : List Int) (v3 : List (Int × Int × List Int)) (v4 : List Int) (v5 : Int) (v6 : Int) (v7 : Int) : List Cell := ⟨(.val .agg), [.d .deep (.sl (.int .i64)) v0, iL v1, .d .deep (.sl (.int .i64)) v2, .d .deep (.sl (.pair (.int .i64) (.pair (.int .i64) (.sl (.int .i64))))) v3, .d .deep (.sl (.int .i64)) v4, iL v5, iL v6], true, false, false, 0, 0⟩ :: vc (iL v7) :: []
def spec_l16Step_3ad.mk1 (b : Int × Int × Int × Bool × (List Int) × Int × (List Int) × (List (Int × Int × List Int)) × (List Int) × Int × Int) : R := (⟨(.tup [some 7, none]), [.dead, iL b.1, .dead, .dead, .dead, iL b.2.1, iL b.2.2.1, bL b.2.2.2.1]⟩, ⟨(.val .agg), [.d .deep (.sl (.int .i64)) b.2.2.2.2.1, iL b.2.2.2.2.2.1, .d .deep (.sl (.int .i64)) b.2.2.2.2.2.2.1, .d .deep (.sl (.pair (.int .i64) (.pair (.int .i64) (.sl (.int .i64))))) b.2.2.2.2.2.2.2.1, .d .deep (.sl (.int .i64)) b.2.2.2.2.2.2.2.2.1, iL b.2.2.2.2.2.2.2.2.2.1, iL b.2.2.2.2.2.2.2.2.2.2], true, false, false, 0, 0⟩ :: nn 1 ([]))
def spec_l16Step_3ad.mk2 (b : (List Int) × Int × (List Int) × (List (Int × Int × List Int)) × (List Int) × Int × Int × Bool × Int × Int × Int) : R := (⟨(.tup [some 7, none]), [.d .deep (.sl (.int .i64)) b.1, iL b.2.1, .d .deep (.sl (.int .i64)) b.2.2.1, .d .deep (.sl (.pair (.int .i64) (.pair (.int .i64) (.sl (.int .i64))))) b.2.2.2.1, .d .deep (.sl (.int .i64)) b.2.2.2.2.1, iL b.2.2.2.2.2.1, iL b.2.2.2.2.2.2.1, bL b.2.2.2.2.2.2.2.1]⟩, ⟨(.val .agg), [.dead, iL b.2.2.2.2.2.2.2.2.1, .dead, .dead, .dead, iL b.2.2.2.2.2.2.2.2.2.1, iL b.2.2.2.2.2.2.2.2.2.2], true, false, false, 0, 0⟩ :: nn 1 ([]))
def spec_l16Step_3ad.f (b : (Int × Int × Int × Bool × (List Int) × Int × (List Int) × (List (Int × Int × List Int)) × (List Int) × Int × Int) ⊕ ((List Int) × Int × (List Int) × (List (Int × Int × List Int)) × (List Int) × Int × Int × Bool × Int × Int × Int)) : R := spec_l16Step_3ad.mk1 (inL b (0, 0, 0, false, [], 0, [], [], [], 0, 0))
def spec_l16Step_3ad.g (b : (Int × Int × Int × Bool × (List Int) × Int × (List Int) × (List (Int × Int × List Int)) × (List Int) × Int × Int) ⊕ ((List Int) × Int × (List Int) × (List (Int × Int × List Int)) × (List Int) × Int × Int × Bool × Int × Int × Int)) : R := spec_l16Step_3ad.mk2 (inR b ([], 0, [], [], [], 0, 0, false, 0, 0, 0))
def spec_l16Step_3ad.mk (b : (Int × Int × Int × Bool × (List Int) × Int × (List Int) × (List (Int × Int × List Int)) × (List Int) × Int × Int) ⊕ ((List Int) × Int × (List Int) × (List (Int × Int × List Int)) × (List Int) × Int × Int × Bool × Int × Int × Int)) : R := bif Sum.isLeft b then spec_l16Step_3ad.f b else spec_l16Step_3ad.g b
def spec_l16Step_3ad.un (r : R) : (Int × Int × Int × Bool × (List Int) × Int × (List Int) × (List (Int × Int × List Int)) × (List Int) × Int × Int) ⊕ ((List Int) × Int × (List Int) × (List (Int × Int × List Int)) × (List Int) × Int × Int × Bool × Int × Int × Int) := bif (leafR r 0).isDead then .inl ((leafR r 1).dat (.int .i64), (leafR r 5).dat (.int .i64), (leafR r 6).dat (.int .i64), (leafR r 7).dat .bool, (leafF r 0 0).dat (.sl (.int .i64)), (leafF r 0 1).dat (.int .i64), (leafF r 0 2).dat (.sl (.int .i64)), (leafF r 0 3).dat (.sl (.pair (.int .i64) (.pair (.int .i64) (.sl (.int .i64))))), (leafF r 0 4).dat (.sl (.int .i64)), (leafF r 0 5).dat (.int .i64), (leafF r 0 6).dat (.int .i64)) else .inr ((leafR r 0).dat (.sl (.int .i64)), (leafR r 1).dat (.int .i64), (leafR r 2).dat (.sl (.int .i64)), (leafR r 3).dat (.sl (.pair (.int .i64) (.pair (.int .i64) (.sl (.int .i64))))), (leafR r 4).dat (.sl (.int .i64)), (leafR r 5).dat (.int .i64), (leafR r 6).dat (.int .i64), (leafR r 7).dat .bool, (leafF r 0 1).dat (.int .i64), (leafF r 0 5).dat (.int .i64), (leafF r 0 6).dat (.int .i64))
noncomputable def spec_l16Step_3ad (v0 : List Int) (v1 : Int) (v2 : List Int) (v3 : List (Int × Int × List Int)) (v4 : List Int) (v5 : Int) (v6 : Int) (v7 : Int) : Option ((Int × Int × Int × Bool × (List Int) × Int × (List Int) × (List (Int × Int × List Int)) × (List Int) × Int × Int) ⊕ ((List Int) × Int × (List Int) × (List (Int × Int × List Int)) × (List Int) × Int × Int × Bool × Int × Int × Int)) := tOf spec_l16Step_3ad.mk (vlim E 39 (spec_l16Step_3ad.c v0 v1 v2 v3 v4 v5 v6 v7))
def impl_GoodSink.c (v0 : List Int) (v1 : Int) (v2 : List Int) (v3 : List (Int × Int × List Int)) (v4 : List Int) (v5 : Int) (v6 : Int) : List Cell := ac [.d .fro (.sl (.int .i64)) v0, iL v1, .d .fro (.sl (.int .i64)) v2, .d .fro (.sl (.pair (.int .i64) (.pair (.int .i64) (.sl (.int .i64))))) v3, .d .fro (.sl (.int .i64)) v4, iL v5, iL v6] :: []
def impl_GoodSink.mk (b : Bool) : R := (⟨.one, [bL b]⟩, nn 1 ([]))
def impl_GoodSink.un (r : R) : Bool := ((leafR r 0).dat .bool)
noncomputable def impl_GoodSink (v0 : List Int) (v1 : Int) (v2 : List Int) (v3 : List (Int × Int × List Int)) (v4 : List Int) (v5 : Int) (v6 : Int) : Option (Bool) := tOf impl_GoodSink.mk (vlim E 19 (impl_GoodSink.c v0 v1 v2 v3 v4 v5 v6))
def impl_within.c (v0 : Int) (v1 : Int) (v2 : Int) : List Cell := vc (iL v0) :: vc (iL v1) :: vc (iL v2) :: []
def impl_within.mk (b : Bool) : R := (⟨.one, [bL b]⟩, nn 3 ([]))
def impl_within.un (r : R) : Bool := ((leafR r 0).dat .bool)
noncomputable def impl_within (v0 : Int) (v1 : Int) (v2 : Int) : Option (Bool) := tOf impl_within.mk (vlim E 44 (impl_within.c v0 v1 v2))
def xs05.c (v0 : List Int) (v1 : List Int) : List Cell := vc (.d .fro (.sl (.int .i64)) v0) :: vc (.d .fro (.sl (.int .i64)) v1) :: []
def xs05.mk (b : Bool) : R := (⟨.one, [bL b]⟩, nn 2 ([]))
def xs05.un (r : R) : Bool := ((leafR r 0).dat .bool)
noncomputable def xs05 (v0 : List Int) (v1 : List Int) : Option (Bool) := tOf xs05.mk (vlim E 45 (xs05.c v0 v1))
def impl_Sink_own.c (v0 : List Int) (v1 : Int) (v2 : List Int) (v3 : List (Int × Int × List Int)) (v4 : List Int) (v5 : Int) (v6 : Int) : List Cell := ac [.d .fro (.sl (.int .i64)) v0, iL v1, .d .fro (.sl (.int .i64)) v2, .d .fro (.sl (.pair (.int .i64) (.pair (.int .i64) (.sl (.int .i64))))) v3, .d .fro (.sl (.int .i64)) v4, iL v5, iL v6] :: []
def impl_Sink_own.mk (b : (List Int) × Int × (List Int) × (List (Int × Int × List Int)) × (List Int) × Int × Int) : R := (⟨.agg, [.d .deep (.sl (.int .i64)) b.1, iL b.2.1, .d .deep (.sl (.int .i64)) b.2.2.1, .d .deep (.sl (.pair (.int .i64) (.pair (.int .i64) (.sl (.int .i64))))) b.2.2.2.1, .d .deep (.sl (.int .i64)) b.2.2.2.2.1, iL b.2.2.2.2.2.1, iL b.2.2.2.2.2.2]⟩, nn 1 ([]))
def impl_Sink_own.un (r : R) : (List Int) × Int × (List Int) × (List (Int × Int × List Int)) × (List Int) × Int × Int := ((leafR r 0).dat (.sl (.int .i64)), (leafR r 1).dat (.int .i64), (leafR r 2).dat (.sl (.int .i64)), (leafR r 3).dat (.sl (.pair (.int .i64) (.pair (.int .i64) (.sl (.int .i64))))), (leafR r 4).dat (.sl (.int .i64)), (leafR r 5).dat (.int .i64), (leafR r 6).dat (.int .i64))
noncomputable def impl_Sink_own (v0 : List Int) (v1 : Int) (v2 : List Int) (v3 : List (Int × Int × List Int)) (v4 : List Int) (v5 : Int) (v6 : Int) : Option ((List Int) × Int × (List Int) × (List (Int × Int × List Int)) × (List Int) × Int × Int) := tOf impl_Sink_own.mk (vlim E 30 (impl_Sink_own.c v0 v1 v2 v3 v4 v5 v6))
def xs04.c (v0 : List Int) : List Cell := vc (.d .fro (.sl (.int .i64)) v0) :: []
def xs04.mk (b : (List Int)) : R := (⟨.one, [.d .deep (.sl (.int .i64)) b]⟩, nn 1 ([]))
def xs04.un (r : R) : (List Int) := ((leafR r 0).dat (.sl (.int .i64)))
noncomputable def xs04 (v0 : List Int) : Option ((List Int)) := tOf xs04.mk (vlim E 52 (xs04.c v0))
def xi07.c (v0 : List Int) (v1 : Int) (v2 : List Int) (v3 : List (Int × Int × List Int)) (v4 : List Int) (v5 : Int) (v6 : Int) : List Cell := ⟨(.box false), [.d .deep (.sl (.int .i64)) v0, iL v1, .d .deep (.sl (.int .i64)) v2, .d .deep (.sl (.pair (.int .i64) (.pair (.int .i64) (.sl (.int .i64))))) v3, .d .deep (.sl (.int .i64)) v4, iL v5, iL v6], true, false, false, 0, 0⟩ :: []
def xi07.mk (b : Bool × (List Int) × Int × (List Int) × (List (Int × Int × List Int)) × (List Int) × Int × Int) : R := (⟨.one, [bL b.1]⟩, ⟨(.box false), [.d .deep (.sl (.int .i64)) b.2.1, iL b.2.2.1, .d .deep (.sl (.int .i64)) b.2.2.2.1, .d .deep (.sl (.pair (.int .i64) (.pair (.int .i64) (.sl (.int .i64))))) b.2.2.2.2.1, .d .deep (.sl (.int .i64)) b.2.2.2.2.2.1, iL b.2.2.2.2.2.2.1, iL b.2.2.2.2.2.2.2], true, false, false, 0, 0⟩ :: [])
def xi07.un (r : R) : Bool × (List Int) × Int × (List Int) × (List (Int × Int × List Int)) × (List Int) × Int × Int := ((leafR r 0).dat .bool, (leafF r 0 0).dat (.sl (.int .i64)), (leafF r 0 1).dat (.int .i64), (leafF r 0 2).dat (.sl (.int .i64)), (leafF r 0 3).dat (.sl (.pair (.int .i64) (.pair (.int .i64) (.sl (.int .i64))))), (leafF r 0 4).dat (.sl (.int .i64)), (leafF r 0 5).dat (.int .i64), (leafF r 0 6).dat (.int .i64))
noncomputable def xi07 (v0 : List Int) (v1 : Int) (v2 : List Int) (v3 : List (Int × Int × List Int)) (v4 : List Int) (v5 : Int) (v6 : Int) : Option (Bool × (List Int) × Int × (List Int) × (List (Int × Int × List Int)) × (List Int) × Int × Int) := tOf xi07.mk (vlim E 31 (xi07.c v0 v1 v2 v3 v4 v5 v6))
def impl_Sink_stored.c (v0 : List Int) (v1 : Int) (v2 : List Int) (v3 : List (Int × Int × List Int)) (v4 : List Int) (v5 : Int) (v6 : Int) : List Cell := ac [.d .fro (.sl (.int .i64)) v0, iL v1, .d .fro (.sl (.int .i64)) v2, .d .fro (.sl (.pair (.int .i64) (.pair (.int .i64) (.sl (.int .i64))))) v3, .d .fro (.sl (.int .i64)) v4, iL v5, iL v6] :: []
def impl_Sink_stored.mk (b : Int) : R := (⟨.one, [iL b]⟩, nn 1 ([]))
def impl_Sink_stored.un (r : R) : Int := ((leafR r 0).dat (.int .i64))
noncomputable def impl_Sink_stored (v0 : List Int) (v1 : Int) (v2 : List Int) (v3 : List (Int × Int × List Int)) (v4 : List Int) (v5 : Int) (v6 : Int) : Option (Int) := tOf impl_Sink_stored.mk (vlim E 53 (impl_Sink_stored.c v0 v1 v2 v3 v4 v5 v6))
def xi08.c (v0 : List Int) (v1 : Int) (v2 : List Int) (v3 : List (Int × Int × List Int)) (v4 : List Int) (v5 : Int) (v6 : Int) (v7 : Int) : List Cell := ⟨(.box false), [.d .deep (.sl (.int .i64)) v0, iL v1, .d .deep (.sl (.int .i64)) v2, .d .deep (.sl (.pair (.int .i64) (.pair (.int .i64) (.sl (.int .i64))))) v3, .d .deep (.sl (.int .i64)) v4, iL v5, iL v6], true, false, false, 0, 0⟩ :: vc (iL v7) :: []
def xi08.mk (b : Int × (List Int) × Int × (List Int) × (List (Int × Int × List Int)) × (List Int) × Int × Int) : R := (⟨.one, [iL b.1]⟩, ⟨(.box false), [.d .deep (.sl (.int .i64)) b.2.1, iL b.2.2.1, .d .deep (.sl (.int .i64)) b.2.2.2.1, .d .deep (.sl (.pair (.int .i64) (.pair (.int .i64) (.sl (.int .i64))))) b.2.2.2.2.1, .d .deep (.sl (.int .i64)) b.2.2.2.2.2.1, iL b.2.2.2.2.2.2.1, iL b.2.2.2.2.2.2.2], true, false, false, 0, 0⟩ :: nn 1 ([]))
def xi08.un (r : R) : Int × (List Int) × Int × (List Int) × (List (Int × Int × List Int)) × (List Int) × Int × Int := ((leafR r 0).dat (.int .i64), (leafF r 0 0).dat (.sl (.int .i64)), (leafF r 0 1).dat (.int .i64), (leafF r 0 2).dat (.sl (.int .i64)), (leafF r 0 3).dat (.sl (.pair (.int .i64) (.pair (.int .i64) (.sl (.int .i64))))), (leafF r 0 4).dat (.sl (.int .i64)), (leafF r 0 5).dat (.int .i64), (leafF r 0 6).dat (.int .i64))
noncomputable def xi08 (v0 : List Int) (v1 : Int) (v2 : List Int) (v3 : List (Int × Int × List Int)) (v4 : List Int) (v5 : Int) (v6 : Int) (v7 : Int) : Option (Int × (List Int) × Int × (List Int) × (List (Int × Int × List Int)) × (List Int) × Int × Int) := tOf xi08.mk (vlim E 32 (xi08.c v0 v1 v2 v3 v4 v5 v6 v7))
def impl_Sink_step_1e4.c (v0 : List Int) (v1 : Int) (v2 : List Int) (v3 : List (Int × Int × List Int)) (v4 : List Int) (v5 : Int) (v6 : Int) (v7 : Int) : List Cell := ⟨(.box false), [.d .deep (.sl (.int .i64)) v0, iL v1, .d .deep (.sl (.int .i64)) v2, .d .deep (.sl (.pair (.int .i64) (.pair (.int .i64) (.sl (.int .i64))))) v3, .d .deep (.sl (.int .i64)) v4, iL v5, iL v6], true, false, false, 0, 0⟩ :: vc (iL v7) :: []
def impl_Sink_step_1e4.mk (b : Bool × (List Int) × Int × (List Int) × (List (Int × Int × List Int)) × (List Int) × Int × Int) : R := (⟨.one, [bL b.1]⟩, ⟨(.box false), [.d .deep (.sl (.int .i64)) b.2.1, iL b.2.2.1, .d .deep (.sl (.int .i64)) b.2.2.2.1, .d .deep (.sl (.pair (.int .i64) (.pair (.int .i64) (.sl (.int .i64))))) b.2.2.2.2.1, .d .deep (.sl (.int .i64)) b.2.2.2.2.2.1, iL b.2.2.2.2.2.2.1, iL b.2.2.2.2.2.2.2], true, false, false, 0, 0⟩ :: nn 1 ([]))
def impl_Sink_step_1e4.un (r : R) : Bool × (List Int) × Int × (List Int) × (List (Int × Int × List Int)) × (List Int) × Int × Int := ((leafR r 0).dat .bool, (leafF r 0 0).dat (.sl (.int .i64)), (leafF r 0 1).dat (.int .i64), (leafF r 0 2).dat (.sl (.int .i64)), (leafF r 0 3).dat (.sl (.pair (.int .i64) (.pair (.int .i64) (.sl (.int .i64))))), (leafF r 0 4).dat (.sl (.int .i64)), (leafF r 0 5).dat (.int .i64), (leafF r 0 6).dat (.int .i64))
noncomputable def impl_Sink_step_1e4 (v0 : List Int) (v1 : Int) (v2 : List Int) (v3 : List (Int × Int × List Int)) (v4 : List Int) (v5 : Int) (v6 : Int) (v7 : Int) : Option (Bool × (List Int) × Int × (List Int) × (List (Int × Int × List Int)) × (List Int) × Int × Int) := tOf impl_Sink_step_1e4.mk (vlim E 43 (impl_Sink_step_1e4.c v0 v1 v2 v3 v4 v5 v6 v7))
def impl_Sink_read_dfc.c (v0 : List Int) (v1 : Int) (v2 : List Int) (v3 : List (Int × Int × List Int)) (v4 : List Int) (v5 : Int) (v6 : Int) : List Cell := ⟨(.box false), [.d .deep (.sl (.int .i64)) v0, iL v1, .d .deep (.sl (.int .i64)) v2, .d .deep (.sl (.pair (.int .i64) (.pair (.int .i64) (.sl (.int .i64))))) v3, .d .deep (.sl (.int .i64)) v4, iL v5, iL v6], true, false, false, 0, 0⟩ :: []
def impl_Sink_read_dfc.mk (b : Bool × (List Int) × Int × (List Int) × (List (Int × Int × List Int)) × (List Int) × Int × Int) : R := (⟨.one, [bL b.1]⟩, ⟨(.box false), [.d .deep (.sl (.int .i64)) b.2.1, iL b.2.2.1, .d .deep (.sl (.int .i64)) b.2.2.2.1, .d .deep (.sl (.pair (.int .i64) (.pair (.int .i64) (.sl (.int .i64))))) b.2.2.2.2.1, .d .deep (.sl (.int .i64)) b.2.2.2.2.2.1, iL b.2.2.2.2.2.2.1, iL b.2.2.2.2.2.2.2], true, false, false, 0, 0⟩ :: [])
def impl_Sink_read_dfc.un (r : R) : Bool × (List Int) × Int × (List Int) × (List (Int × Int × List Int)) × (List Int) × Int × Int := ((leafR r 0).dat .bool, (leafF r 0 0).dat (.sl (.int .i64)), (leafF r 0 1).dat (.int .i64), (leafF r 0 2).dat (.sl (.int .i64)), (leafF r 0 3).dat (.sl (.pair (.int .i64) (.pair (.int .i64) (.sl (.int .i64))))), (leafF r 0 4).dat (.sl (.int .i64)), (leafF r 0 5).dat (.int .i64), (leafF r 0 6).dat (.int .i64))
noncomputable def impl_Sink_read_dfc (v0 : List Int) (v1 : Int) (v2 : List Int) (v3 : List (Int × Int × List Int)) (v4 : List Int) (v5 : Int) (v6 : Int) : Option (Bool × (List Int) × Int × (List Int) × (List (Int × Int × List Int)) × (List Int) × Int × Int) := tOf impl_Sink_read_dfc.mk (vlim E 61 (impl_Sink_read_dfc.c v0 v1 v2 v3 v4 v5 v6))
def xi01.c (v0 : List Int) (v1 : Int) (v2 : List Int) (v3 : List (Int × Int × List Int)) (v4 : List Int) (v5 : Int) (v6 : Int) : List Cell := ⟨(.box false), [.d .deep (.sl (.int .i64)) v0, iL v1, .d .deep (.sl (.int .i64)) v2, .d .deep (.sl (.pair (.int .i64) (.pair (.int .i64) (.sl (.int .i64))))) v3, .d .deep (.sl (.int .i64)) v4, iL v5, iL v6], true, false, false, 0, 0⟩ :: []
def xi01.mk (b : Bool × (List Int) × Int × (List Int) × (List (Int × Int × List Int)) × (List Int) × Int × Int) : R := (⟨.one, [bL b.1]⟩, ⟨(.box false), [.d .deep (.sl (.int .i64)) b.2.1, iL b.2.2.1, .d .deep (.sl (.int .i64)) b.2.2.2.1, .d .deep (.sl (.pair (.int .i64) (.pair (.int .i64) (.sl (.int .i64))))) b.2.2.2.2.1, .d .deep (.sl (.int .i64)) b.2.2.2.2.2.1, iL b.2.2.2.2.2.2.1, iL b.2.2.2.2.2.2.2], true, false, false, 0, 0⟩ :: [])
def xi01.un (r : R) : Bool × (List Int) × Int × (List Int) × (List (Int × Int × List Int)) × (List Int) × Int × Int := ((leafR r 0).dat .bool, (leafF r 0 0).dat (.sl (.int .i64)), (leafF r 0 1).dat (.int .i64), (leafF r 0 2).dat (.sl (.int .i64)), (leafF r 0 3).dat (.sl (.pair (.int .i64) (.pair (.int .i64) (.sl (.int .i64))))), (leafF r 0 4).dat (.sl (.int .i64)), (leafF r 0 5).dat (.int .i64), (leafF r 0 6).dat (.int .i64))
noncomputable def xi01 (v0 : List Int) (v1 : Int) (v2 : List Int) (v3 : List (Int × Int × List Int)) (v4 : List Int) (v5 : Int) (v6 : Int) : Option (Bool × (List Int) × Int × (List Int) × (List (Int × Int × List Int)) × (List Int) × Int × Int) := tOf xi01.mk (vlim E 40 (xi01.c v0 v1 v2 v3 v4 v5 v6))
def xi03.c (v0 : List Int) (v1 : Int) (v2 : List Int) (v3 : List (Int × Int × List Int)) (v4 : List Int) (v5 : Int) (v6 : Int) : List Cell := ⟨(.box false), [.d .deep (.sl (.int .i64)) v0, iL v1, .d .deep (.sl (.int .i64)) v2, .d .deep (.sl (.pair (.int .i64) (.pair (.int .i64) (.sl (.int .i64))))) v3, .d .deep (.sl (.int .i64)) v4, iL v5, iL v6], true, false, false, 0, 0⟩ :: []
def xi03.mk (b : Bool × (List Int) × Int × (List Int) × (List (Int × Int × List Int)) × (List Int) × Int × Int) : R := (⟨.one, [bL b.1]⟩, ⟨(.box false), [.d .deep (.sl (.int .i64)) b.2.1, iL b.2.2.1, .d .deep (.sl (.int .i64)) b.2.2.2.1, .d .deep (.sl (.pair (.int .i64) (.pair (.int .i64) (.sl (.int .i64))))) b.2.2.2.2.1, .d .deep (.sl (.int .i64)) b.2.2.2.2.2.1, iL b.2.2.2.2.2.2.1, iL b.2.2.2.2.2.2.2], true, false, false, 0, 0⟩ :: [])
def xi03.un (r : R) : Bool × (List Int) × Int × (List Int) × (List (Int × Int × List Int)) × (List Int) × Int × Int := ((leafR r 0).dat .bool, (leafF r 0 0).dat (.sl (.int .i64)), (leafF r 0 1).dat (.int .i64), (leafF r 0 2).dat (.sl (.int .i64)), (leafF r 0 3).dat (.sl (.pair (.int .i64) (.pair (.int .i64) (.sl (.int .i64))))), (leafF r 0 4).dat (.sl (.int .i64)), (leafF r 0 5).dat (.int .i64), (leafF r 0 6).dat (.int .i64))
noncomputable def xi03 (v0 : List Int) (v1 : Int) (v2 : List Int) (v3 : List (Int × Int × List Int)) (v4 : List Int) (v5 : Int) (v6 : Int) : Option (Bool × (List Int) × Int × (List Int) × (List (Int × Int × List Int)) × (List Int) × Int × Int) := tOf xi03.mk (vlim E 62 (xi03.c v0 v1 v2 v3 v4 v5 v6))
def spec_DrainSink.c (v0 : List Int) (v1 : Int) (v2 : List Int) (v3 : List (Int × Int × List Int)) (v4 : List Int) (v5 : Int) (v6 : Int) : List Cell := ac [.d .fro (.sl (.int .i64)) v0, iL v1, .d .fro (.sl (.int .i64)) v2, .d .fro (.sl (.pair (.int .i64) (.pair (.int .i64) (.sl (.int .i64))))) v3, .d .fro (.sl (.int .i64)) v4, iL v5, iL v6] :: []
def spec_DrainSink.mk (b : (List Int) × Int × (List Int) × (List (Int × Int × List Int)) × (List Int) × Int × Int × Int × Bool) : R := (⟨(.tup [some 7, none, none]), [.d .deep (.sl (.int .i64)) b.1, iL b.2.1, .d .deep (.sl (.int .i64)) b.2.2.1, .d .deep (.sl (.pair (.int .i64) (.pair (.int .i64) (.sl (.int .i64))))) b.2.2.2.1, .d .deep (.sl (.int .i64)) b.2.2.2.2.1, iL b.2.2.2.2.2.1, iL b.2.2.2.2.2.2.1, iL b.2.2.2.2.2.2.2.1, bL b.2.2.2.2.2.2.2.2]⟩, nn 1 ([]))
def spec_DrainSink.un (r : R) : (List Int) × Int × (List Int) × (List (Int × Int × List Int)) × (List Int) × Int × Int × Int × Bool := ((leafR r 0).dat (.sl (.int .i64)), (leafR r 1).dat (.int .i64), (leafR r 2).dat (.sl (.int .i64)), (leafR r 3).dat (.sl (.pair (.int .i64) (.pair (.int .i64) (.sl (.int .i64))))), (leafR r 4).dat (.sl (.int .i64)), (leafR r 5).dat (.int .i64), (leafR r 6).dat (.int .i64), (leafR r 7).dat (.int .i64), (leafR r 8).dat .bool)
noncomputable def spec_DrainSink (v0 : List Int) (v1 : Int) (v2 : List Int) (v3 : List (Int × Int × List Int)) (v4 : List Int) (v5 : Int) (v6 : Int) : Option ((List Int) × Int × (List Int) × (List (Int × Int × List Int)) × (List Int) × Int × Int × Int × Bool) := tOf spec_DrainSink.mk (vlim E 13 (spec_DrainSink.c v0 v1 v2 v3 v4 v5 v6))
def impl_DrainSink.c (v0 : List Int) (v1 : Int) (v2 : List Int) (v3 : List (Int × Int × List Int)) (v4 : List Int) (v5 : Int) (v6 : Int) : List Cell := ac [.d .fro (.sl (.int .i64)) v0, iL v1, .d .fro (.sl (.int .i64)) v2, .d .fro (.sl (.pair (.int .i64) (.pair (.int .i64) (.sl (.int .i64))))) v3, .d .fro (.sl (.int .i64)) v4, iL v5, iL v6] :: []
def impl_DrainSink.mk (b : (List Int) × Int × (List Int) × (List (Int × Int × List Int)) × (List Int) × Int × Int × Int × Bool) : R := (⟨(.tup [some 7, none, none]), [.d .deep (.sl (.int .i64)) b.1, iL b.2.1, .d .deep (.sl (.int .i64)) b.2.2.1, .d .deep (.sl (.pair (.int .i64) (.pair (.int .i64) (.sl (.int .i64))))) b.2.2.2.1, .d .deep (.sl (.int .i64)) b.2.2.2.2.1, iL b.2.2.2.2.2.1, iL b.2.2.2.2.2.2.1, iL b.2.2.2.2.2.2.2.1, bL b.2.2.2.2.2.2.2.2]⟩, nn 1 ([]))
def impl_DrainSink.un (r : R) : (List Int) × Int × (List Int) × (List (Int × Int × List Int)) × (List Int) × Int × Int × Int × Bool := ((leafR r 0).dat (.sl (.int .i64)), (leafR r 1).dat (.int .i64), (leafR r 2).dat (.sl (.int .i64)), (leafR r 3).dat (.sl (.pair (.int .i64) (.pair (.int .i64) (.sl (.int .i64))))), (leafR r 4).dat (.sl (.int .i64)), (leafR r 5).dat (.int .i64), (leafR r 6).dat (.int .i64), (leafR r 7).dat (.int .i64), (leafR r 8).dat .bool)
noncomputable def impl_DrainSink (v0 : List Int) (v1 : Int) (v2 : List Int) (v3 : List (Int × Int × List Int)) (v4 : List Int) (v5 : Int) (v6 : Int) : Option ((List Int) × Int × (List Int) × (List (Int × Int × List Int)) × (List Int) × Int × Int × Int × Bool) := tOf impl_DrainSink.mk (vlim E 14 (impl_DrainSink.c v0 v1 v2 v3 v4 v5 v6))
def laws_FnSinkSteps.c (v0 : List Int) (v1 : List Int) : List Cell := vc (.d .fro (.sl (.int .u8)) v0) :: vc (.d .fro (.sl (.int .u8)) v1) :: []
def laws_FnSinkSteps.mk (b : Bool) : R := (⟨.one, [bL b]⟩, nn 2 ([]))
def laws_FnSinkSteps.un (r : R) : Bool := ((leafR r 0).dat .bool)
noncomputable def laws_FnSinkSteps (v0 : List Int) (v1 : List Int) : Option (Bool) := tOf laws_FnSinkSteps.mk (vlim E 5 (laws_FnSinkSteps.c v0 v1))
def spec_DrawStepSink.c (v0 : List Int) : List Cell := vc (.d .fro (.sl (.int .u8)) v0) :: []
def spec_DrawStepSink.mk (b : (List Int) × Int × (List Int) × (List (Int × Int × List Int)) × (List Int) × Int × Int × Int) : R := (⟨(.tup [some 7, none]), [.d .deep (.sl (.int .i64)) b.1, iL b.2.1, .d .deep (.sl (.int .i64)) b.2.2.1, .d .deep (.sl (.pair (.int .i64) (.pair (.int .i64) (.sl (.int .i64))))) b.2.2.2.1, .d .deep (.sl (.int .i64)) b.2.2.2.2.1, iL b.2.2.2.2.2.1, iL b.2.2.2.2.2.2.1, iL b.2.2.2.2.2.2.2]⟩, nn 1 ([]))
def spec_DrawStepSink.un (r : R) : (List Int) × Int × (List Int) × (List (Int × Int × List Int)) × (List Int) × Int × Int × Int := ((leafR r 0).dat (.sl (.int .i64)), (leafR r 1).dat (.int .i64), (leafR r 2).dat (.sl (.int .i64)), (leafR r 3).dat (.sl (.pair (.int .i64) (.pair (.int .i64) (.sl (.int .i64))))), (leafR r 4).dat (.sl (.int .i64)), (leafR r 5).dat (.int .i64), (leafR r 6).dat (.int .i64), (leafR r 7).dat (.int .i64))
noncomputable def spec_DrawStepSink (v0 : List Int) : Option ((List Int) × Int × (List Int) × (List (Int × Int × List Int)) × (List Int) × Int × Int × Int) := tOf spec_DrawStepSink.mk (vlim E 15 (spec_DrawStepSink.c v0))
def xs0b.c (v0 : List Int) (v1 : Int) (v2 : Int) : List Cell := ⟨(.box false), [.d .fro (.sl (.int .u8)) v0, iL v1, .d .fro (.int .u64) v2], true, false, false, 0, 0⟩ :: []
def xs0b.mk (b : (List Int) × Int × (List Int) × (List (Int × Int × List Int)) × (List Int) × Int × Int × (List Int) × Int × Int) : R := (⟨.agg, [.d .deep (.sl (.int .i64)) b.1, iL b.2.1, .d .deep (.sl (.int .i64)) b.2.2.1, .d .deep (.sl (.pair (.int .i64) (.pair (.int .i64) (.sl (.int .i64))))) b.2.2.2.1, .d .deep (.sl (.int .i64)) b.2.2.2.2.1, iL b.2.2.2.2.2.1, iL b.2.2.2.2.2.2.1]⟩, ⟨(.box false), [.d .fro (.sl (.int .u8)) b.2.2.2.2.2.2.2.1, iL b.2.2.2.2.2.2.2.2.1, .d .fro (.int .u64) b.2.2.2.2.2.2.2.2.2], true, false, false, 0, 0⟩ :: [])
def xs0b.un (r : R) : (List Int) × Int × (List Int) × (List (Int × Int × List Int)) × (List Int) × Int × Int × (List Int) × Int × Int := ((leafR r 0).dat (.sl (.int .i64)), (leafR r 1).dat (.int .i64), (leafR r 2).dat (.sl (.int .i64)), (leafR r 3).dat (.sl (.pair (.int .i64) (.pair (.int .i64) (.sl (.int .i64))))), (leafR r 4).dat (.sl (.int .i64)), (leafR r 5).dat (.int .i64), (leafR r 6).dat (.int .i64), (leafF r 0 0).dat (.sl (.int .u8)), (leafF r 0 1).dat (.int .i64), (leafF r 0 2).dat (.int .u64))
noncomputable def xs0b (v0 : List Int) (v1 : Int) (v2 : Int) : Option ((List Int) × Int × (List Int) × (List (Int × Int × List Int)) × (List Int) × Int × Int × (List Int) × Int × Int) := tOf xs0b.mk (vlim E 41 (xs0b.c v0 v1 v2))
def xs00.c (v0 : List Int) (v1 : Int) (v2 : Int) : List Cell := ⟨(.box false), [.d .fro (.sl (.int .u8)) v0, iL v1, .d .fro (.int .u64) v2], true, false, false, 0, 0⟩ :: []
def xs00.mk (b : (List Int) × (List Int) × Int × Int) : R := (⟨.one, [.d .deep (.sl (.int .i64)) b.1]⟩, ⟨(.box false), [.d .fro (.sl (.int .u8)) b.2.1, iL b.2.2.1, .d .fro (.int .u64) b.2.2.2], true, false, false, 0, 0⟩ :: [])
def xs00.un (r : R) : (List Int) × (List Int) × Int × Int := ((leafR r 0).dat (.sl (.int .i64)), (leafF r 0 0).dat (.sl (.int .u8)), (leafF r 0 1).dat (.int .i64), (leafF r 0 2).dat (.int .u64))
noncomputable def xs00 (v0 : List Int) (v1 : Int) (v2 : Int) : Option ((List Int) × (List Int) × Int × Int) := tOf xs00.mk (vlim E 55 (xs00.c v0 v1 v2))
def xs0a.c (v0 : List Int) (v1 : Int) (v2 : Int) (v3 : Int) : List Cell := ⟨(.box false), [.d .fro (.sl (.int .u8)) v0, iL v1, .d .fro (.int .u64) v2], true, false, false, 0, 0⟩ :: vc (iL v3) :: []
def xs0a.mk (b : Int × (List Int) × Int × Int) : R := (⟨.one, [iL b.1]⟩, ⟨(.box false), [.d .fro (.sl (.int .u8)) b.2.1, iL b.2.2.1, .d .fro (.int .u64) b.2.2.2], true, false, false, 0, 0⟩ :: nn 1 ([]))
def xs0a.un (r : R) : Int × (List Int) × Int × Int := ((leafR r 0).dat (.int .i64), (leafF r 0 0).dat (.sl (.int .u8)), (leafF r 0 1).dat (.int .i64), (leafF r 0 2).dat (.int .u64))
noncomputable def xs0a (v0 : List Int) (v1 : Int) (v2 : Int) (v3 : Int) : Option (Int × (List Int) × Int × Int) := tOf xs0a.mk (vlim E 42 (xs0a.c v0 v1 v2 v3))
def xs09.c (v0 : List Int) (v1 : Int) (v2 : Int) : List Cell := ⟨(.box false), [.d .fro (.sl (.int .u8)) v0, iL v1, .d .fro (.int .u64) v2], true, false, false, 0, 0⟩ :: []
def xs09.mk (b : Int × (List Int) × Int × Int) : R := (⟨.one, [iL b.1]⟩, ⟨(.box false), [.d .fro (.sl (.int .u8)) b.2.1, iL b.2.2.1, .d .fro (.int .u64) b.2.2.2], true, false, false, 0, 0⟩ :: [])
def xs09.un (r : R) : Int × (List Int) × Int × Int := ((leafR r 0).dat (.int .i64), (leafF r 0 0).dat (.sl (.int .u8)), (leafF r 0 1).dat (.int .i64), (leafF r 0 2).dat (.int .u64))
noncomputable def xs09 (v0 : List Int) (v1 : Int) (v2 : Int) : Option (Int × (List Int) × Int × Int) := tOf xs09.mk (vlim E 60 (xs09.c v0 v1 v2))
def spec_l1Cur_one_e61.c (v0 : List Int) (v1 : Int) (v2 : Int) (v3 : Int) : List Cell := ⟨(.box false), [.d .fro (.sl (.int .u8)) v0, iL v1, .d .fro (.int .u64) v2], true, false, false, 0, 0⟩ :: vc (iL v3) :: []
def spec_l1Cur_one_e61.mk (b : Bool × (List Int) × Int × Int) : R := (⟨.one, [bL b.1]⟩, ⟨(.box false), [.d .fro (.sl (.int .u8)) b.2.1, iL b.2.2.1, .d .fro (.int .u64) b.2.2.2], true, false, false, 0, 0⟩ :: nn 1 ([]))
def spec_l1Cur_one_e61.un (r : R) : Bool × (List Int) × Int × Int := ((leafR r 0).dat .bool, (leafF r 0 0).dat (.sl (.int .u8)), (leafF r 0 1).dat (.int .i64), (leafF r 0 2).dat (.int .u64))
noncomputable def spec_l1Cur_one_e61 (v0 : List Int) (v1 : Int) (v2 : Int) (v3 : Int) : Option (Bool × (List Int) × Int × Int) := tOf spec_l1Cur_one_e61.mk (vlim E 63 (spec_l1Cur_one_e61.c v0 v1 v2 v3))
def xs06.c (v0 : List Int) (v1 : Int) (v2 : Int) (v3 : List Int) : List Cell := ⟨(.box false), [.d .fro (.sl (.int .u8)) v0, iL v1, .d .fro (.int .u64) v2], true, false, false, 0, 0⟩ :: vc (.d .fro (.sl (.int .i64)) v3) :: []
def xs06.mk (b : Int × (List Int) × Int × Int) : R := (⟨.one, [iL b.1]⟩, ⟨(.box false), [.d .fro (.sl (.int .u8)) b.2.1, iL b.2.2.1, .d .fro (.int .u64) b.2.2.2], true, false, false, 0, 0⟩ :: nn 1 ([]))
def xs06.un (r : R) : Int × (List Int) × Int × Int := ((leafR r 0).dat (.int .i64), (leafF r 0 0).dat (.sl (.int .u8)), (leafF r 0 1).dat (.int .i64), (leafF r 0 2).dat (.int .u64))
noncomputable def xs06 (v0 : List Int) (v1 : Int) (v2 : Int) (v3 : List Int) : Option (Int × (List Int) × Int × Int) := tOf xs06.mk (vlim E 59 (xs06.c v0 v1 v2 v3))
def xs02.c (v0 : List Int) (v1 : Int) (v2 : Int) : List Cell := ⟨(.box false), [.d .fro (.sl (.int .u8)) v0, iL v1, .d .fro (.int .u64) v2], true, false, false, 0, 0⟩ :: []
def xs02.mk (b : (List Int) × (List Int) × Int × Int) : R := (⟨.one, [.d .deep (.sl (.int .i64)) b.1]⟩, ⟨(.box false), [.d .fro (.sl (.int .u8)) b.2.1, iL b.2.2.1, .d .fro (.int .u64) b.2.2.2], true, false, false, 0, 0⟩ :: [])
def xs02.un (r : R) : (List Int) × (List Int) × Int × Int := ((leafR r 0).dat (.sl (.int .i64)), (leafF r 0 0).dat (.sl (.int .u8)), (leafF r 0 1).dat (.int .i64), (leafF r 0 2).dat (.int .u64))
noncomputable def xs02 (v0 : List Int) (v1 : Int) (v2 : Int) : Option ((List Int) × (List Int) × Int × Int) := tOf xs02.mk (vlim E 57 (xs02.c v0 v1 v2))
def spec_PlaySink.c (v0 : List Int) (v1 : List Int) : List Cell := vc (.d .fro (.sl (.int .i64)) v0) :: vc (.d .fro (.sl (.int .i64)) v1) :: []
def spec_PlaySink.mk (b : (List Int) × Int × (List Int) × (List (Int × Int × List Int)) × (List Int) × Int × Int × (List Bool) × Bool) : R := (⟨(.tup [some 7, none, none]), [.d .deep (.sl (.int .i64)) b.1, iL b.2.1, .d .deep (.sl (.int .i64)) b.2.2.1, .d .deep (.sl (.pair (.int .i64) (.pair (.int .i64) (.sl (.int .i64))))) b.2.2.2.1, .d .deep (.sl (.int .i64)) b.2.2.2.2.1, iL b.2.2.2.2.2.1, iL b.2.2.2.2.2.2.1, .d .deep (.sl .bool) b.2.2.2.2.2.2.2.1, bL b.2.2.2.2.2.2.2.2]⟩, nn 2 ([]))
def spec_PlaySink.un (r : R) : (List Int) × Int × (List Int) × (List (Int × Int × List Int)) × (List Int) × Int × Int × (List Bool) × Bool := ((leafR r 0).dat (.sl (.int .i64)), (leafR r 1).dat (.int .i64), (leafR r 2).dat (.sl (.int .i64)), (leafR r 3).dat (.sl (.pair (.int .i64) (.pair (.int .i64) (.sl (.int .i64))))), (leafR r 4).dat (.sl (.int .i64)), (leafR r 5).dat (.int .i64), (leafR r 6).dat (.int .i64), (leafR r 7).dat (.sl .bool), (leafR r 8).dat .bool)
noncomputable def spec_PlaySink (v0 : List Int) (v1 : List Int) : Option ((List Int) × Int × (List Int) × (List (Int × Int × List Int)) × (List Int) × Int × Int × (List Bool) × Bool) := tOf spec_PlaySink.mk (vlim E 56 (spec_PlaySink.c v0 v1))
def spec_NewSink.c (v0 : List Int) : List Cell := vc (.d .fro (.sl (.int .i64)) v0) :: []
def spec_NewSink.mk (b : (List Int) × Int × (List Int) × (List (Int × Int × List Int)) × (List Int) × Int × Int × Bool) : R := (⟨(.tup [some 7, none]), [.d .deep (.sl (.int .i64)) b.1, iL b.2.1, .d .deep (.sl (.int .i64)) b.2.2.1, .d .deep (.sl (.pair (.int .i64) (.pair (.int .i64) (.sl (.int .i64))))) b.2.2.2.1, .d .deep (.sl (.int .i64)) b.2.2.2.2.1, iL b.2.2.2.2.2.1, iL b.2.2.2.2.2.2.1, bL b.2.2.2.2.2.2.2]⟩, nn 1 ([]))
def spec_NewSink.un (r : R) : (List Int) × Int × (List Int) × (List (Int × Int × List Int)) × (List Int) × Int × Int × Bool := ((leafR r 0).dat (.sl (.int .i64)), (leafR r 1).dat (.int .i64), (leafR r 2).dat (.sl (.int .i64)), (leafR r 3).dat (.sl (.pair (.int .i64) (.pair (.int .i64) (.sl (.int .i64))))), (leafR r 4).dat (.sl (.int .i64)), (leafR r 5).dat (.int .i64), (leafR r 6).dat (.int .i64), (leafR r 7).dat .bool)
noncomputable def spec_NewSink (v0 : List Int) : Option ((List Int) × Int × (List Int) × (List (Int × Int × List Int)) × (List Int) × Int × Int × Bool) := tOf spec_NewSink.mk (vlim E 58 (spec_NewSink.c v0))
def impl_StepSink.c (v0 : List Int) (v1 : Int) (v2 : List Int) (v3 : List (Int × Int × List Int)) (v4 : List Int) (v5 : Int) (v6 : Int) (v7 : Int) : List Cell := ac [.d .fro (.sl (.int .i64)) v0, iL v1, .d .fro (.sl (.int .i64)) v2, .d .fro (.sl (.pair (.int .i64) (.pair (.int .i64) (.sl (.int .i64))))) v3, .d .fro (.sl (.int .i64)) v4, iL v5, iL v6] :: vc (iL v7) :: []
def impl_StepSink.mk (b : (List Int) × Int × (List Int) × (List (Int × Int × List Int)) × (List Int) × Int × Int × Bool) : R := (⟨(.tup [some 7, none]), [.d .deep (.sl (.int .i64)) b.1, iL b.2.1, .d .deep (.sl (.int .i64)) b.2.2.1, .d .deep (.sl (.pair (.int .i64) (.pair (.int .i64) (.sl (.int .i64))))) b.2.2.2.1, .d .deep (.sl (.int .i64)) b.2.2.2.2.1, iL b.2.2.2.2.2.1, iL b.2.2.2.2.2.2.1, bL b.2.2.2.2.2.2.2]⟩, nn 2 ([]))
def impl_StepSink.un (r : R) : (List Int) × Int × (List Int) × (List (Int × Int × List Int)) × (List Int) × Int × Int × Bool := ((leafR r 0).dat (.sl (.int .i64)), (leafR r 1).dat (.int .i64), (leafR r 2).dat (.sl (.int .i64)), (leafR r 3).dat (.sl (.pair (.int .i64) (.pair (.int .i64) (.sl (.int .i64))))), (leafR r 4).dat (.sl (.int .i64)), (leafR r 5).dat (.int .i64), (leafR r 6).dat (.int .i64), (leafR r 7).dat .bool)
noncomputable def impl_StepSink (v0 : List Int) (v1 : Int) (v2 : List Int) (v3 : List (Int × Int × List Int)) (v4 : List Int) (v5 : Int) (v6 : Int) (v7 : Int) : Option ((List Int) × Int × (List Int) × (List (Int × Int × List Int)) × (List Int) × Int × Int × Bool) := tOf impl_StepSink.mk (vlim E 16 (impl_StepSink.c v0 v1 v2 v3 v4 v5 v6 v7))
def spec_StepSink.c (v0 : List Int) (v1 : Int) (v2 : List Int) (v3 : List (Int × Int × List Int)) (v4 : List Int) (v5 : Int) (v6 : Int) (v7 : Int) : List Cell := ac [.d .fro (.sl (.int .i64)) v0, iL v1, .d .fro (.sl (.int .i64)) v2, .d .fro (.sl (.pair (.int .i64) (.pair (.int .i64) (.sl (.int .i64))))) v3, .d .fro (.sl (.int .i64)) v4, iL v5, iL v6] :: vc (iL v7) :: []
def spec_StepSink.mk (b : (List Int) × Int × (List Int) × (List (Int × Int × List Int)) × (List Int) × Int × Int × Bool) : R := (⟨(.tup [some 7, none]), [.d .deep (.sl (.int .i64)) b.1, iL b.2.1, .d .deep (.sl (.int .i64)) b.2.2.1, .d .deep (.sl (.pair (.int .i64) (.pair (.int .i64) (.sl (.int .i64))))) b.2.2.2.1, .d .deep (.sl (.int .i64)) b.2.2.2.2.1, iL b.2.2.2.2.2.1, iL b.2.2.2.2.2.2.1, bL b.2.2.2.2.2.2.2]⟩, nn 2 ([]))
def spec_StepSink.un (r : R) : (List Int) × Int × (List Int) × (List (Int × Int × List Int)) × (List Int) × Int × Int × Bool := ((leafR r 0).dat (.sl (.int .i64)), (leafR r 1).dat (.int .i64), (leafR r 2).dat (.sl (.int .i64)), (leafR r 3).dat (.sl (.pair (.int .i64) (.pair (.int .i64) (.sl (.int .i64))))), (leafR r 4).dat (.sl (.int .i64)), (leafR r 5).dat (.int .i64), (leafR r 6).dat (.int .i64), (leafR r 7).dat .bool)
noncomputable def spec_StepSink (v0 : List Int) (v1 : Int) (v2 : List Int) (v3 : List (Int × Int × List Int)) (v4 : List Int) (v5 : Int) (v6 : Int) (v7 : Int) : Option ((List Int) × Int × (List Int) × (List (Int × Int × List Int)) × (List Int) × Int × Int × Bool) := tOf spec_StepSink.mk (vlim E 17 (spec_StepSink.c v0 v1 v2 v3 v4 v5 v6 v7))
def laws_sameSinks.c (v0 : List Int) (v1 : Int) (v2 : List Int) (v3 : List (Int × Int × List Int)) (v4 : List Int) (v5 : Int) (v6 : Int) (v7 : List Int) (v8 : Int) (v9 : List Int) (v10 : List (Int × Int × List Int)) (v11 : List Int) (v12 : Int) (v13 : Int) : List Cell := ac [.d .fro (.sl (.int .i64)) v0, iL v1, .d .fro (.sl (.int .i64)) v2, .d .fro (.sl (.pair (.int .i64) (.pair (.int .i64) (.sl (.int .i64))))) v3, .d .fro (.sl (.int .i64)) v4, iL v5, iL v6] :: ac [.d .fro (.sl (.int .i64)) v7, iL v8, .d .fro (.sl (.int .i64)) v9, .d .fro (.sl (.pair (.int .i64) (.pair (.int .i64) (.sl (.int .i64))))) v10, .d .fro (.sl (.int .i64)) v11, iL v12, iL v13] :: []
def laws_sameSinks.mk (b : Bool) : R := (⟨.one, [bL b]⟩, nn 2 ([]))
def laws_sameSinks.un (r : R) : Bool := ((leafR r 0).dat .bool)
noncomputable def laws_sameSinks (v0 : List Int) (v1 : Int) (v2 : List Int) (v3 : List (Int × Int × List Int)) (v4 : List Int) (v5 : Int) (v6 : Int) (v7 : List Int) (v8 : Int) (v9 : List Int) (v10 : List (Int × Int × List Int)) (v11 : List Int) (v12 : Int) (v13 : Int) : Option (Bool) := tOf laws_sameSinks.mk (vlim E 18 (laws_sameSinks.c v0 v1 v2 v3 v4 v5 v6 v7 v8 v9 v10 v11 v12 v13))
def laws_sameInts.c (v0 : List Int) (v1 : List Int) : List Cell := vc (.d .fro (.sl (.int .i64)) v0) :: vc (.d .fro (.sl (.int .i64)) v1) :: []
def laws_sameInts.mk (b : Bool) : R := (⟨.one, [bL b]⟩, nn 2 ([]))
def laws_sameInts.un (r : R) : Bool := ((leafR r 0).dat .bool)
noncomputable def laws_sameInts (v0 : List Int) (v1 : List Int) : Option (Bool) := tOf laws_sameInts.mk (vlim E 21 (laws_sameInts.c v0 v1))
def spec_DrawDrainSink.c (v0 : List Int) : List Cell := vc (.d .fro (.sl (.int .u8)) v0) :: []
def spec_DrawDrainSink.mk (b : (List Int) × Int × (List Int) × (List (Int × Int × List Int)) × (List Int) × Int × Int) : R := (⟨.agg, [.d .deep (.sl (.int .i64)) b.1, iL b.2.1, .d .deep (.sl (.int .i64)) b.2.2.1, .d .deep (.sl (.pair (.int .i64) (.pair (.int .i64) (.sl (.int .i64))))) b.2.2.2.1, .d .deep (.sl (.int .i64)) b.2.2.2.2.1, iL b.2.2.2.2.2.1, iL b.2.2.2.2.2.2]⟩, nn 1 ([]))
def spec_DrawDrainSink.un (r : R) : (List Int) × Int × (List Int) × (List (Int × Int × List Int)) × (List Int) × Int × Int := ((leafR r 0).dat (.sl (.int .i64)), (leafR r 1).dat (.int .i64), (leafR r 2).dat (.sl (.int .i64)), (leafR r 3).dat (.sl (.pair (.int .i64) (.pair (.int .i64) (.sl (.int .i64))))), (leafR r 4).dat (.sl (.int .i64)), (leafR r 5).dat (.int .i64), (leafR r 6).dat (.int .i64))
noncomputable def spec_DrawDrainSink (v0 : List Int) : Option ((List Int) × Int × (List Int) × (List (Int × Int × List Int)) × (List Int) × Int × Int) := tOf spec_DrawDrainSink.mk (vlim E 22 (spec_DrawDrainSink.c v0))
def spec_DrawGoodSink.c (v0 : List Int) : List Cell := vc (.d .fro (.sl (.int .u8)) v0) :: []
def spec_DrawGoodSink.mk (b : (List Int) × Int × (List Int) × (List (Int × Int × List Int)) × (List Int) × Int × Int) : R := (⟨.agg, [.d .deep (.sl (.int .i64)) b.1, iL b.2.1, .d .deep (.sl (.int .i64)) b.2.2.1, .d .deep (.sl (.pair (.int .i64) (.pair (.int .i64) (.sl (.int .i64))))) b.2.2.2.1, .d .deep (.sl (.int .i64)) b.2.2.2.2.1, iL b.2.2.2.2.2.1, iL b.2.2.2.2.2.2]⟩, nn 1 ([]))
def spec_DrawGoodSink.un (r : R) : (List Int) × Int × (List Int) × (List (Int × Int × List Int)) × (List Int) × Int × Int := ((leafR r 0).dat (.sl (.int .i64)), (leafR r 1).dat (.int .i64), (leafR r 2).dat (.sl (.int .i64)), (leafR r 3).dat (.sl (.pair (.int .i64) (.pair (.int .i64) (.sl (.int .i64))))), (leafR r 4).dat (.sl (.int .i64)), (leafR r 5).dat (.int .i64), (leafR r 6).dat (.int .i64))
noncomputable def spec_DrawGoodSink (v0 : List Int) : Option ((List Int) × Int × (List Int) × (List (Int × Int × List Int)) × (List Int) × Int × Int) := tOf spec_DrawGoodSink.mk (vlim E 48 (spec_DrawGoodSink.c v0))
def tabT : List (Nat × List (List Cell × Tb)) := [
 (5, [(laws_FnSinkSteps.c [] [], .one (Bool) laws_FnSinkSteps.mk)]),
 (13, [(spec_DrainSink.c [] 0 [] [] [] 0 0, .one ((List Int) × Int × (List Int) × (List (Int × Int × List Int)) × (List Int) × Int × Int × Int × Bool) spec_DrainSink.mk)]),
 (14, [(impl_DrainSink.c [] 0 [] [] [] 0 0, .one ((List Int) × Int × (List Int) × (List (Int × Int × List Int)) × (List Int) × Int × Int × Int × Bool) impl_DrainSink.mk)]),
 (15, [(spec_DrawStepSink.c [], .one ((List Int) × Int × (List Int) × (List (Int × Int × List Int)) × (List Int) × Int × Int × Int) spec_DrawStepSink.mk)]),
 (16, [(impl_StepSink.c [] 0 [] [] [] 0 0 0, .one ((List Int) × Int × (List Int) × (List (Int × Int × List Int)) × (List Int) × Int × Int × Bool) impl_StepSink.mk)]),
 (17, [(spec_StepSink.c [] 0 [] [] [] 0 0 0, .one ((List Int) × Int × (List Int) × (List (Int × Int × List Int)) × (List Int) × Int × Int × Bool) spec_StepSink.mk)]),
 (18, [(laws_sameSinks.c [] 0 [] [] [] 0 0 [] 0 [] [] [] 0 0, .one (Bool) laws_sameSinks.mk)]),
 (19, [(impl_GoodSink.c [] 0 [] [] [] 0 0, .one (Bool) impl_GoodSink.mk)]),
 (20, [(spec_GoodSink.c [] 0 [] [] [] 0 0, .one (Bool) spec_GoodSink.mk)]),
 (21, [(laws_sameInts.c [] [], .one (Bool) laws_sameInts.mk)]),
 (22, [(spec_DrawDrainSink.c [], .one ((List Int) × Int × (List Int) × (List (Int × Int × List Int)) × (List Int) × Int × Int) spec_DrawDrainSink.mk)]),
 (25, [(spec_l16Commit_5b7.c [] 0 [] [] [] 0 0, .one ((List Int) × Int × (List Int) × (List (Int × Int × List Int)) × (List Int) × Int × Int × Int) spec_l16Commit_5b7.mk)]),
 (26, [(spec_l16Crash_5b7.c [] 0 [] [] [] 0 0, .one ((List Int) × Int × (List Int) × (List (Int × Int × List Int)) × (List Int) × Int × Int) spec_l16Crash_5b7.mk)]),
 (27, [(spec_l16Own.c [] 0 [] [] [] 0 0, .one ((List Int) × Int × (List Int) × (List (Int × Int × List Int)) × (List Int) × Int × Int) spec_l16Own.mk)]),
 (30, [(impl_Sink_own.c [] 0 [] [] [] 0 0, .one ((List Int) × Int × (List Int) × (List (Int × Int × List Int)) × (List Int) × Int × Int) impl_Sink_own.mk)]),
 (31, [(xi07.c [] 0 [] [] [] 0 0, .one (Bool × (List Int) × Int × (List Int) × (List (Int × Int × List Int)) × (List Int) × Int × Int) xi07.mk)]),
 (32, [(xi08.c [] 0 [] [] [] 0 0 0, .one (Int × (List Int) × Int × (List Int) × (List (Int × Int × List Int)) × (List Int) × Int × Int) xi08.mk)]),
 (39, [(spec_l16Step_3ad.c [] 0 [] [] [] 0 0 0, ⟨(Int × Int × Int × Bool × (List Int) × Int × (List Int) × (List (Int × Int × List Int)) × (List Int) × Int × Int) ⊕ ((List Int) × Int × (List Int) × (List (Int × Int × List Int)) × (List Int) × Int × Int × Bool × Int × Int × Int), Sum.isLeft, spec_l16Step_3ad.f, spec_l16Step_3ad.g⟩)]),
 (40, [(xi01.c [] 0 [] [] [] 0 0, .one (Bool × (List Int) × Int × (List Int) × (List (Int × Int × List Int)) × (List Int) × Int × Int) xi01.mk)]),
 (41, [(xs0b.c [] 0 0, .one ((List Int) × Int × (List Int) × (List (Int × Int × List Int)) × (List Int) × Int × Int × (List Int) × Int × Int) xs0b.mk)]),
 (42, [(xs0a.c [] 0 0 0, .one (Int × (List Int) × Int × Int) xs0a.mk)]),
 (43, [(impl_Sink_step_1e4.c [] 0 [] [] [] 0 0 0, .one (Bool × (List Int) × Int × (List Int) × (List (Int × Int × List Int)) × (List Int) × Int × Int) impl_Sink_step_1e4.mk)]),
 (44, [(impl_within.c 0 0 0, .one (Bool) impl_within.mk)]),
 (45, [(xs05.c [] [], .one (Bool) xs05.mk)]),
 (46, [(spec_l1In.c 0 0 0, .one (Bool) spec_l1In.mk)]),
 (47, [(spec_l16Same.c [] [], .one (Bool) spec_l16Same.mk)]),
 (48, [(spec_DrawGoodSink.c [], .one ((List Int) × Int × (List Int) × (List (Int × Int × List Int)) × (List Int) × Int × Int) spec_DrawGoodSink.mk)]),
 (50, [(spec_l16From.c [] 0 [] [] [] 0 0, .one (Int) spec_l16From.mk)]),
 (52, [(xs04.c [], .one ((List Int)) xs04.mk)]),
 (53, [(impl_Sink_stored.c [] 0 [] [] [] 0 0, .one (Int) impl_Sink_stored.mk)]),
 (55, [(xs00.c [] 0 0, .one ((List Int) × (List Int) × Int × Int) xs00.mk)]),
 (56, [(spec_PlaySink.c [] [], .one ((List Int) × Int × (List Int) × (List (Int × Int × List Int)) × (List Int) × Int × Int × (List Bool) × Bool) spec_PlaySink.mk)]),
 (57, [(xs02.c [] 0 0, .one ((List Int) × (List Int) × Int × Int) xs02.mk)]),
 (58, [(spec_NewSink.c [], .one ((List Int) × Int × (List Int) × (List (Int × Int × List Int)) × (List Int) × Int × Int × Bool) spec_NewSink.mk)]),
 (59, [(xs06.c [] 0 0 [], .one (Int × (List Int) × Int × Int) xs06.mk)]),
 (60, [(xs09.c [] 0 0, .one (Int × (List Int) × Int × Int) xs09.mk)]),
 (61, [(impl_Sink_read_dfc.c [] 0 [] [] [] 0 0, .one (Bool × (List Int) × Int × (List Int) × (List (Int × Int × List Int)) × (List Int) × Int × Int) impl_Sink_read_dfc.mk)]),
 (62, [(xi03.c [] 0 [] [] [] 0 0, .one (Bool × (List Int) × Int × (List Int) × (List (Int × Int × List Int)) × (List Int) × Int × Int) xi03.mk)]),
 (63, [(spec_l1Cur_one_e61.c [] 0 0 0, .one (Bool × (List Int) × Int × Int) spec_l1Cur_one_e61.mk)])]
def tab : FuncId → List Cell → Tb := fun g cs => match assoc tabT g with | some l => pickT l cs | none => .no
end GoV

/- Equations of the program's functions (printed by wip/tools/emit.py). -/
namespace GoV
open Go Go.Proofs
set_option maxRecDepth 100000

noncomputable def spec_GoodSink.q6 (v0 : List Int) (v1 : Int) (v2 : List Int) (v3 : List (Int × Int × List Int)) (v4 : List Int) (v5 : Int) (v6 : Int) (v7 : Int) (v8 : Int) (v9 : List (Int × Int × List Int)) (v10 : Int) (v11 : Int) : Option R := loopAtL E (callT E tab) 20 Try.f20 1 [.r, .r, .r, .r, .l, .r, .b] (nn 1 (⟨(.box false), [.d .fro (.sl (.int .i64)) v0, iL v1, .d .fro (.sl (.int .i64)) v2, .d .fro (.sl (.pair (.int .i64) (.pair (.int .i64) (.sl (.int .i64))))) v3, .d .fro (.sl (.int .i64)) v4, iL v5, iL v6], false, false, false, 0, 0⟩ :: nn 1 (vc (iL v7) :: vc (iL v8) :: nn 40 (vc (.d .fro (.sl (.pair (.int .i64) (.pair (.int .i64) (.sl (.int .i64))))) v9) :: vc (iL v10) :: vc (iL v11) :: nn 58 ([])))))
noncomputable def spec_GoodSink.l6 (v0 : List Int) (v1 : Int) (v2 : List Int) (v3 : List (Int × Int × List Int)) (v4 : List Int) (v5 : Int) (v6 : Int) (v7 : Int) (v8 : Int) (v9 : List (Int × Int × List Int)) (v10 : Int) (v11 : Int) : Option (Bool) := tOf spec_GoodSink.mk (spec_GoodSink.q6 v0 v1 v2 v3 v4 v5 v6 v7 v8 v9 v10 v11)
noncomputable def spec_GoodSink.t {γ : Type} (ret : (Bool) → Option γ) (lp6 : (List Int) → Int → (List Int) → (List (Int × Int × List Int)) → (List Int) → Int → Int → Int → Int → (List (Int × Int × List Int)) → Int → Int → Option γ) (v0 : List Int) (v1 : Int) (v2 : List Int) (v3 : List (Int × Int × List Int)) (v4 : List Int) (v5 : Int) (v6 : Int) : Option γ :=
 bif decide ((↑v0.length : Int) > (30 : Int)) then
  ret (Bool.false)
 else
  (spec_l1In (v1) ((0 : Int)) ((↑v0.length : Int))).bind fun (r0 : Bool) =>
  bif !r0 then
   ret (Bool.false)
  else
   (spec_l1In (v6) ((0 : Int)) (v1)).bind fun (r1 : Bool) =>
   bif !r1 then
    ret (Bool.false)
   else
    (spec_l1In (v5) ((0 : Int)) ((1000 : Int))).bind fun (r2 : Bool) =>
    bif !r2 then
     ret (Bool.false)
    else
     bif decide ((↑v3.length : Int) > (4 : Int)) then
      ret (Bool.false)
     else
      lp6 (v0) (v1) (v2) (v3) (v4) (v5) (v6) (v6) (v5) (v3) ((↑v3.length : Int)) ((0 : Int))
noncomputable def spec_GoodSink.t6 {γ : Type} (ret : (Bool) → Option γ) (lp6 : (List Int) → Int → (List Int) → (List (Int × Int × List Int)) → (List Int) → Int → Int → Int → Int → (List (Int × Int × List Int)) → Int → Int → Option γ) (v0 : List Int) (v1 : Int) (v2 : List Int) (v3 : List (Int × Int × List Int)) (v4 : List Int) (v5 : Int) (v6 : Int) (v7 : Int) (v8 : Int) (v9 : List (Int × Int × List Int)) (v10 : Int) (v11 : Int) : Option γ :=
 bif decide (v11 < v10) then
  bif decide ((0 : Int) ≤ v11) then
   bif decide (v11.toNat < v9.length) then
    bif (v9.getD v11.toNat ((0 : Int), (0 : Int), [])).fst != IntKind.i64.wrap (v8 + (1 : Int)) then
     ret (Bool.false)
    else
     (spec_l1In ((v9.getD v11.toNat ((0 : Int), (0 : Int), [])).snd.fst) (v7) (v1)).bind fun (r3 : Bool) =>
     bif !r3 then
      ret (Bool.false)
     else
      bif decide ((0 : Int) ≤ (Option.some v7).getD (0 : Int)) then
       bif decide ((Option.some v7).getD (0 : Int) ≤ (v9.getD v11.toNat ((0 : Int), (0 : Int), [])).snd.fst) then
        bif decide ((v9.getD v11.toNat ((0 : Int), (0 : Int), [])).snd.fst ≤ (↑v0.length : Int)) then
         (spec_l16Same ((v9.getD v11.toNat ((0 : Int), (0 : Int), [])).snd.snd) (List.take ((v9.getD v11.toNat ((0 : Int), (0 : Int), [])).snd.fst - (Option.some v7).getD (0 : Int)).toNat   (List.drop ((Option.some v7).getD (0 : Int)).toNat v0))).bind fun (r4 : Bool) =>
         bif !r4 then
          ret (Bool.false)
         else
          bif decide ((v9.getD v11.toNat ((0 : Int), (0 : Int), [])).fst > (1000 : Int)) then
           ret (Bool.false)
          else
           lp6 (v0) (v1) (v2) (v3) (v4) (v5) (v6) ((v9.getD v11.toNat ((0 : Int), (0 : Int), [])).snd.fst) ((v9.getD v11.toNat ((0 : Int), (0 : Int), [])).fst) (v9) (v10) (IntKind.i64.wrap (v11 + (1 : Int)))
        else
         none
       else
        none
      else
       none
   else
    none
  else
   none
 else
  bif decide ((0 : Int) ≤ (Option.some v7).getD (0 : Int)) then
   bif decide ((Option.some v7).getD (0 : Int) ≤ v1) then
    bif decide (v1 ≤ (↑v0.length : Int)) then
     (spec_l16Same (v2) (List.take (v1 - (Option.some v7).getD (0 : Int)).toNat (List.drop ((Option.some v7).getD (0 : Int)).toNat v0))).bind fun (r5 : Bool) =>
     bif r5 then
      bif decide (Option.none.getD (0 : Int) ≤ v6) then
       bif decide (v6 ≤ (↑v0.length : Int)) then
        (spec_l16Same (v4) (List.take (v6 - Option.none.getD (0 : Int)).toNat (List.drop (Option.none.getD (0 : Int)).toNat v0))).bind fun (r6 : Bool) =>
        ret (r6)
       else
        none
      else
       none
     else
      ret (Bool.false)
    else
     none
   else
    none
  else
   none
theorem spec_GoodSink.k (v0 : List Int) (v1 : Int) (v2 : List Int) (v3 : List (Int × Int × List Int)) (v4 : List Int) (v5 : Int) (v6 : Int) : topL E (callT E tab) 20 Try.f20 (spec_GoodSink.c v0 v1 v2 v3 v4 v5 v6) = spec_GoodSink.t (fun b => some (spec_GoodSink.mk b)) spec_GoodSink.q6 v0 v1 v2 v3 v4 v5 v6 := by kernel_rfl
theorem spec_GoodSink.k6 (v0 : List Int) (v1 : Int) (v2 : List Int) (v3 : List (Int × Int × List Int)) (v4 : List Int) (v5 : Int) (v6 : Int) (v7 : Int) (v8 : Int) (v9 : List (Int × Int × List Int)) (v10 : Int) (v11 : Int) : roundL E (callT E tab) 20 Try.f20 1 [.r, .r, .r, .r, .l, .r, .b] (nn 1 (⟨(.box false), [.d .fro (.sl (.int .i64)) v0, iL v1, .d .fro (.sl (.int .i64)) v2, .d .fro (.sl (.pair (.int .i64) (.pair (.int .i64) (.sl (.int .i64))))) v3, .d .fro (.sl (.int .i64)) v4, iL v5, iL v6], false, false, false, 0, 0⟩ :: nn 1 (vc (iL v7) :: vc (iL v8) :: nn 40 (vc (.d .fro (.sl (.pair (.int .i64) (.pair (.int .i64) (.sl (.int .i64))))) v9) :: vc (iL v10) :: vc (iL v11) :: nn 58 ([]))))) = spec_GoodSink.t6 (fun b => some (spec_GoodSink.mk b)) spec_GoodSink.q6 v0 v1 v2 v3 v4 v5 v6 v7 v8 v9 v10 v11 := by kernel_rfl
theorem spec_GoodSink.eq (v0 : List Int) (v1 : Int) (v2 : List Int) (v3 : List (Int × Int × List Int)) (v4 : List Int) (v5 : Int) (v6 : Int) {b : Bool} (h : spec_GoodSink.t some spec_GoodSink.l6 v0 v1 v2 v3 v4 v5 v6 = some b) : spec_GoodSink v0 v1 v2 v3 v4 v5 v6 = some b := tOf_intro spec_GoodSink.un (fun _ => by kernel_rfl) (vlim_fn (callT_le E tab) rfl rfl rfl ((spec_GoodSink.k v0 v1 v2 v3 v4 v5 v6).trans ((by unfold spec_GoodSink.t; repeat' first | exact Sub.ret | exact Sub.none | exact Sub.loop | apply Sub.cond | (apply Sub.bind; intro _) : Sub spec_GoodSink.mk _ _) b h)))
theorem spec_GoodSink.eq6 (v0 : List Int) (v1 : Int) (v2 : List Int) (v3 : List (Int × Int × List Int)) (v4 : List Int) (v5 : Int) (v6 : Int) (v7 : Int) (v8 : Int) (v9 : List (Int × Int × List Int)) (v10 : Int) (v11 : Int) {b : Bool} (h : spec_GoodSink.t6 some spec_GoodSink.l6 v0 v1 v2 v3 v4 v5 v6 v7 v8 v9 v10 v11 = some b) : spec_GoodSink.l6 v0 v1 v2 v3 v4 v5 v6 v7 v8 v9 v10 v11 = some b := tOf_intro spec_GoodSink.un (fun _ => by kernel_rfl) (loopAtL_step ((spec_GoodSink.k6 v0 v1 v2 v3 v4 v5 v6 v7 v8 v9 v10 v11).trans ((by unfold spec_GoodSink.t6; repeat' first | exact Sub.ret | exact Sub.none | exact Sub.loop | apply Sub.cond | (apply Sub.bind; intro _) : Sub spec_GoodSink.mk _ _) b h)))
noncomputable def spec_l1In.t {γ : Type} (ret : (Bool) → Option γ) (v0 : Int) (v1 : Int) (v2 : Int) : Option γ :=
 bif decide (v0 ≥ v1) then
  ret (decide (v0 ≤ v2))
 else
  ret (Bool.false)
theorem spec_l1In.k (v0 : Int) (v1 : Int) (v2 : Int) : topL E (callT E tab) 46 Try.f46 (spec_l1In.c v0 v1 v2) = spec_l1In.t (fun b => some (spec_l1In.mk b)) v0 v1 v2 := by kernel_rfl
theorem spec_l1In.eq (v0 : Int) (v1 : Int) (v2 : Int) {b : Bool} (h : spec_l1In.t some v0 v1 v2 = some b) : spec_l1In v0 v1 v2 = some b := tOf_intro spec_l1In.un (fun _ => by kernel_rfl) (vlim_fn (callT_le E tab) rfl rfl rfl ((spec_l1In.k v0 v1 v2).trans ((by unfold spec_l1In.t; repeat' first | exact Sub.ret | exact Sub.none | exact Sub.loop | apply Sub.cond | (apply Sub.bind; intro _) : Sub spec_l1In.mk _ _) b h)))
noncomputable def spec_l16Same.q4 (v0 : List Int) (v1 : List Int) (v2 : Int) (v3 : Int) : Option R := loopAtL E (callT E tab) 47 Try.f47 2 [.r, .r, .l, .r, .b] (vc (.d .fro (.sl (.int .i64)) v0) :: vc (.d .fro (.sl (.int .i64)) v1) :: nn 10 (vc (iL v2) :: vc (iL v3) :: nn 12 ([])))
noncomputable def spec_l16Same.l4 (v0 : List Int) (v1 : List Int) (v2 : Int) (v3 : Int) : Option (Bool) := tOf spec_l16Same.mk (spec_l16Same.q4 v0 v1 v2 v3)
noncomputable def spec_l16Same.t {γ : Type} (ret : (Bool) → Option γ) (lp4 : (List Int) → (List Int) → Int → Int → Option γ) (v0 : List Int) (v1 : List Int) : Option γ :=
 bif (↑v0.length : Int) != (↑v1.length : Int) then
  ret (Bool.false)
 else
  lp4 (v0) (v1) ((↑v0.length : Int)) ((0 : Int))
noncomputable def spec_l16Same.t4 {γ : Type} (ret : (Bool) → Option γ) (lp4 : (List Int) → (List Int) → Int → Int → Option γ) (v0 : List Int) (v1 : List Int) (v2 : Int) (v3 : Int) : Option γ :=
 bif decide (v3 < v2) then
  bif decide ((0 : Int) ≤ v3) then
   bif decide (v3.toNat < v0.length) then
    bif decide ((0 : Int) ≤ v3) then
     bif decide (v3.toNat < v1.length) then
      bif v0.getD v3.toNat (0 : Int) != v1.getD v3.toNat (0 : Int) then
       ret (Bool.false)
      else
       lp4 (v0) (v1) (v2) (IntKind.i64.wrap (v3 + (1 : Int)))
     else
      none
    else
     none
   else
    none
  else
   none
 else
  ret (Bool.true)
theorem spec_l16Same.k (v0 : List Int) (v1 : List Int) : topL E (callT E tab) 47 Try.f47 (spec_l16Same.c v0 v1) = spec_l16Same.t (fun b => some (spec_l16Same.mk b)) spec_l16Same.q4 v0 v1 := by kernel_rfl
theorem spec_l16Same.k4 (v0 : List Int) (v1 : List Int) (v2 : Int) (v3 : Int) : roundL E (callT E tab) 47 Try.f47 2 [.r, .r, .l, .r, .b] (vc (.d .fro (.sl (.int .i64)) v0) :: vc (.d .fro (.sl (.int .i64)) v1) :: nn 10 (vc (iL v2) :: vc (iL v3) :: nn 12 ([]))) = spec_l16Same.t4 (fun b => some (spec_l16Same.mk b)) spec_l16Same.q4 v0 v1 v2 v3 := by kernel_rfl
theorem spec_l16Same.eq (v0 : List Int) (v1 : List Int) {b : Bool} (h : spec_l16Same.t some spec_l16Same.l4 v0 v1 = some b) : spec_l16Same v0 v1 = some b := tOf_intro spec_l16Same.un (fun _ => by kernel_rfl) (vlim_fn (callT_le E tab) rfl rfl rfl ((spec_l16Same.k v0 v1).trans ((by unfold spec_l16Same.t; repeat' first | exact Sub.ret | exact Sub.none | exact Sub.loop | apply Sub.cond | (apply Sub.bind; intro _) : Sub spec_l16Same.mk _ _) b h)))
theorem spec_l16Same.eq4 (v0 : List Int) (v1 : List Int) (v2 : Int) (v3 : Int) {b : Bool} (h : spec_l16Same.t4 some spec_l16Same.l4 v0 v1 v2 v3 = some b) : spec_l16Same.l4 v0 v1 v2 v3 = some b := tOf_intro spec_l16Same.un (fun _ => by kernel_rfl) (loopAtL_step ((spec_l16Same.k4 v0 v1 v2 v3).trans ((by unfold spec_l16Same.t4; repeat' first | exact Sub.ret | exact Sub.none | exact Sub.loop | apply Sub.cond | (apply Sub.bind; intro _) : Sub spec_l16Same.mk _ _) b h)))
noncomputable def spec_l16Own.q6 (v0 : List Int) (v1 : Int) (v2 : List Int) (v3 : List (Int × Int × List Int)) (v4 : List Int) (v5 : Int) (v6 : Int) (v7 : List Int) (v8 : Int) (v9 : List Int) (v10 : List (Int × Int × List Int)) (v11 : List Int) (v12 : Int) (v13 : Int) (v14 : List (Int × Int × List Int)) (v15 : List (Int × Int × List Int)) (v16 : Int) (v17 : Int) : Option R := loopAtL E (callT E tab) 27 Try.f27 1 [.r, .r, .r, .r, .r, .l, .r, .b] (nn 1 (⟨(.box false), [.d .deep (.sl (.int .i64)) v0, iL v1, .d .deep (.sl (.int .i64)) v2, .d .fro (.sl (.pair (.int .i64) (.pair (.int .i64) (.sl (.int .i64))))) v3, .d .deep (.sl (.int .i64)) v4, iL v5, iL v6], false, false, false, 0, 0⟩ :: ⟨(.box false), [.d .deep (.sl (.int .i64)) v7, iL v8, .d .deep (.sl (.int .i64)) v9, .d .deep (.sl (.pair (.int .i64) (.pair (.int .i64) (.sl (.int .i64))))) v10, .d .deep (.sl (.int .i64)) v11, iL v12, iL v13], false, false, false, 0, 0⟩ :: vc (.d .deep (.sl (.pair (.int .i64) (.pair (.int .i64) (.sl (.int .i64))))) v14) :: nn 18 (vc (.d .fro (.sl (.pair (.int .i64) (.pair (.int .i64) (.sl (.int .i64))))) v15) :: vc (iL v16) :: vc (iL v17) :: nn 19 ([]))))
noncomputable def spec_l16Own.l6 (v0 : List Int) (v1 : Int) (v2 : List Int) (v3 : List (Int × Int × List Int)) (v4 : List Int) (v5 : Int) (v6 : Int) (v7 : List Int) (v8 : Int) (v9 : List Int) (v10 : List (Int × Int × List Int)) (v11 : List Int) (v12 : Int) (v13 : Int) (v14 : List (Int × Int × List Int)) (v15 : List (Int × Int × List Int)) (v16 : Int) (v17 : Int) : Option ((List Int) × Int × (List Int) × (List (Int × Int × List Int)) × (List Int) × Int × Int) := tOf spec_l16Own.mk (spec_l16Own.q6 v0 v1 v2 v3 v4 v5 v6 v7 v8 v9 v10 v11 v12 v13 v14 v15 v16 v17)
noncomputable def spec_l16Own.t {γ : Type} (ret : ((List Int) × Int × (List Int) × (List (Int × Int × List Int)) × (List Int) × Int × Int) → Option γ) (lp6 : (List Int) → Int → (List Int) → (List (Int × Int × List Int)) → (List Int) → Int → Int → (List Int) → Int → (List Int) → (List (Int × Int × List Int)) → (List Int) → Int → Int → (List (Int × Int × List Int)) → (List (Int × Int × List Int)) → Int → Int → Option γ) (v0 : List Int) (v1 : Int) (v2 : List Int) (v3 : List (Int × Int × List Int)) (v4 : List Int) (v5 : Int) (v6 : Int) : Option γ :=
 bif decide (([] : List Int).length + v0.length ≤ (4294967296 : Nat)) then
  bif decide (([] : List Int).length + v2.length ≤ (4294967296 : Nat)) then
   bif decide (([] : List Int).length + v4.length ≤ (4294967296 : Nat)) then
    lp6 ([] ++ v0) (v1) ([] ++ v2) (v3) ([] ++ v4) (v5) (v6) ([]) ((0 : Int)) ([]) ([]) ([]) ((0 : Int)) ((0 : Int)) ([]) (v3) ((↑v3.length : Int)) ((0 : Int))
   else
    none
  else
   none
 else
  none
noncomputable def spec_l16Own.t6 {γ : Type} (ret : ((List Int) × Int × (List Int) × (List (Int × Int × List Int)) × (List Int) × Int × Int) → Option γ) (lp6 : (List Int) → Int → (List Int) → (List (Int × Int × List Int)) → (List Int) → Int → Int → (List Int) → Int → (List Int) → (List (Int × Int × List Int)) → (List Int) → Int → Int → (List (Int × Int × List Int)) → (List (Int × Int × List Int)) → Int → Int → Option γ) (v0 : List Int) (v1 : Int) (v2 : List Int) (v3 : List (Int × Int × List Int)) (v4 : List Int) (v5 : Int) (v6 : Int) (v7 : List Int) (v8 : Int) (v9 : List Int) (v10 : List (Int × Int × List Int)) (v11 : List Int) (v12 : Int) (v13 : Int) (v14 : List (Int × Int × List Int)) (v15 : List (Int × Int × List Int)) (v16 : Int) (v17 : Int) : Option γ :=
 bif decide (v17 < v16) then
  bif decide ((0 : Int) ≤ v17) then
   bif decide (v17.toNat < v15.length) then
    bif decide (([] : List Int).length + (v15.getD v17.toNat ((0 : Int), (0 : Int), [])).snd.snd.length ≤ (4294967296 : Nat)) then
     bif decide   (v14.length +       [((v15.getD v17.toNat ((0 : Int), (0 : Int), [])).fst, (v15.getD v17.toNat ((0 : Int), (0 : Int), [])).snd.fst,             [] ++ (v15.getD v17.toNat ((0 : Int), (0 : Int), [])).snd.snd)].length ≤     (4294967296 : Nat)) then
      lp6 (v0) (v1) (v2) (v3) (v4) (v5) (v6) (v7) (v8) (v9) (v10) (v11) (v12) (v13) (v14 ++   [((v15.getD v17.toNat ((0 : Int), (0 : Int), [])).fst, (v15.getD v17.toNat ((0 : Int), (0 : Int), [])).snd.fst,       [] ++ (v15.getD v17.toNat ((0 : Int), (0 : Int), [])).snd.snd)]) (v15) (v16) (IntKind.i64.wrap (v17 + (1 : Int)))
     else
      none
    else
     none
   else
    none
  else
   none
 else
  ret (v0, v1, v2, v14, v4, v5, v6)
theorem spec_l16Own.k (v0 : List Int) (v1 : Int) (v2 : List Int) (v3 : List (Int × Int × List Int)) (v4 : List Int) (v5 : Int) (v6 : Int) : topL E (callT E tab) 27 Try.f27 (spec_l16Own.c v0 v1 v2 v3 v4 v5 v6) = spec_l16Own.t (fun b => some (spec_l16Own.mk b)) spec_l16Own.q6 v0 v1 v2 v3 v4 v5 v6 := by kernel_rfl
theorem spec_l16Own.k6 (v0 : List Int) (v1 : Int) (v2 : List Int) (v3 : List (Int × Int × List Int)) (v4 : List Int) (v5 : Int) (v6 : Int) (v7 : List Int) (v8 : Int) (v9 : List Int) (v10 : List (Int × Int × List Int)) (v11 : List Int) (v12 : Int) (v13 : Int) (v14 : List (Int × Int × List Int)) (v15 : List (Int × Int × List Int)) (v16 : Int) (v17 : Int) : roundL E (callT E tab) 27 Try.f27 1 [.r, .r, .r, .r, .r, .l, .r, .b] (nn 1 (⟨(.box false), [.d .deep (.sl (.int .i64)) v0, iL v1, .d .deep (.sl (.int .i64)) v2, .d .fro (.sl (.pair (.int .i64) (.pair (.int .i64) (.sl (.int .i64))))) v3, .d .deep (.sl (.int .i64)) v4, iL v5, iL v6], false, false, false, 0, 0⟩ :: ⟨(.box false), [.d .deep (.sl (.int .i64)) v7, iL v8, .d .deep (.sl (.int .i64)) v9, .d .deep (.sl (.pair (.int .i64) (.pair (.int .i64) (.sl (.int .i64))))) v10, .d .deep (.sl (.int .i64)) v11, iL v12, iL v13], false, false, false, 0, 0⟩ :: vc (.d .deep (.sl (.pair (.int .i64) (.pair (.int .i64) (.sl (.int .i64))))) v14) :: nn 18 (vc (.d .fro (.sl (.pair (.int .i64) (.pair (.int .i64) (.sl (.int .i64))))) v15) :: vc (iL v16) :: vc (iL v17) :: nn 19 ([])))) = spec_l16Own.t6 (fun b => some (spec_l16Own.mk b)) spec_l16Own.q6 v0 v1 v2 v3 v4 v5 v6 v7 v8 v9 v10 v11 v12 v13 v14 v15 v16 v17 := by kernel_rfl
theorem spec_l16Own.eq (v0 : List Int) (v1 : Int) (v2 : List Int) (v3 : List (Int × Int × List Int)) (v4 : List Int) (v5 : Int) (v6 : Int) {b : (List Int) × Int × (List Int) × (List (Int × Int × List Int)) × (List Int) × Int × Int} (h : spec_l16Own.t some spec_l16Own.l6 v0 v1 v2 v3 v4 v5 v6 = some b) : spec_l16Own v0 v1 v2 v3 v4 v5 v6 = some b := tOf_intro spec_l16Own.un (fun _ => by kernel_rfl) (vlim_fn (callT_le E tab) rfl rfl rfl ((spec_l16Own.k v0 v1 v2 v3 v4 v5 v6).trans ((by unfold spec_l16Own.t; repeat' first | exact Sub.ret | exact Sub.none | exact Sub.loop | apply Sub.cond | (apply Sub.bind; intro _) : Sub spec_l16Own.mk _ _) b h)))
theorem spec_l16Own.eq6 (v0 : List Int) (v1 : Int) (v2 : List Int) (v3 : List (Int × Int × List Int)) (v4 : List Int) (v5 : Int) (v6 : Int) (v7 : List Int) (v8 : Int) (v9 : List Int) (v10 : List (Int × Int × List Int)) (v11 : List Int) (v12 : Int) (v13 : Int) (v14 : List (Int × Int × List Int)) (v15 : List (Int × Int × List Int)) (v16 : Int) (v17 : Int) {b : (List Int) × Int × (List Int) × (List (Int × Int × List Int)) × (List Int) × Int × Int} (h : spec_l16Own.t6 some spec_l16Own.l6 v0 v1 v2 v3 v4 v5 v6 v7 v8 v9 v10 v11 v12 v13 v14 v15 v16 v17 = some b) : spec_l16Own.l6 v0 v1 v2 v3 v4 v5 v6 v7 v8 v9 v10 v11 v12 v13 v14 v15 v16 v17 = some b := tOf_intro spec_l16Own.un (fun _ => by kernel_rfl) (loopAtL_step ((spec_l16Own.k6 v0 v1 v2 v3 v4 v5 v6 v7 v8 v9 v10 v11 v12 v13 v14 v15 v16 v17).trans ((by unfold spec_l16Own.t6; repeat' first | exact Sub.ret | exact Sub.none | exact Sub.loop | apply Sub.cond | (apply Sub.bind; intro _) : Sub spec_l16Own.mk _ _) b h)))
noncomputable def spec_l16Crash_5b7.t {γ : Type} (ret : ((List Int) × Int × (List Int) × (List (Int × Int × List Int)) × (List Int) × Int × Int) → Option γ) (v0 : List Int) (v1 : Int) (v2 : List Int) (v3 : List (Int × Int × List Int)) (v4 : List Int) (v5 : Int) (v6 : Int) : Option γ :=
 (spec_l16From (v0) (v1) (v2) (v3) (v4) (v5) (v6)).bind fun (r0 : Int) =>
 ret (v0, r0, [], v3, v4, v5, v6)
theorem spec_l16Crash_5b7.k (v0 : List Int) (v1 : Int) (v2 : List Int) (v3 : List (Int × Int × List Int)) (v4 : List Int) (v5 : Int) (v6 : Int) : topL E (callT E tab) 26 Try.f26 (spec_l16Crash_5b7.c v0 v1 v2 v3 v4 v5 v6) = spec_l16Crash_5b7.t (fun b => some (spec_l16Crash_5b7.mk b)) v0 v1 v2 v3 v4 v5 v6 := by kernel_rfl
theorem spec_l16Crash_5b7.eq (v0 : List Int) (v1 : Int) (v2 : List Int) (v3 : List (Int × Int × List Int)) (v4 : List Int) (v5 : Int) (v6 : Int) {b : (List Int) × Int × (List Int) × (List (Int × Int × List Int)) × (List Int) × Int × Int} (h : spec_l16Crash_5b7.t some v0 v1 v2 v3 v4 v5 v6 = some b) : spec_l16Crash_5b7 v0 v1 v2 v3 v4 v5 v6 = some b := tOf_intro spec_l16Crash_5b7.un (fun _ => by kernel_rfl) (vlim_fn (callT_le E tab) rfl rfl rfl ((spec_l16Crash_5b7.k v0 v1 v2 v3 v4 v5 v6).trans ((by unfold spec_l16Crash_5b7.t; repeat' first | exact Sub.ret | exact Sub.none | exact Sub.loop | apply Sub.cond | (apply Sub.bind; intro _) : Sub spec_l16Crash_5b7.mk _ _) b h)))
noncomputable def spec_l16From.t {γ : Type} (ret : (Int) → Option γ) (v0 : List Int) (v1 : Int) (v2 : List Int) (v3 : List (Int × Int × List Int)) (v4 : List Int) (v5 : Int) (v6 : Int) : Option γ :=
 bif decide ((↑v3.length : Int) > (0 : Int)) then
  bif decide ((0 : Int) ≤ IntKind.i64.wrap ((↑v3.length : Int) - (1 : Int))) then
   bif decide ((IntKind.i64.wrap ((↑v3.length : Int) - (1 : Int))).toNat < v3.length) then
    ret ((v3.getD (IntKind.i64.wrap ((↑v3.length : Int) - (1 : Int))).toNat ((0 : Int), (0 : Int), [])).snd.fst)
   else
    none
  else
   none
 else
  ret (v6)
theorem spec_l16From.k (v0 : List Int) (v1 : Int) (v2 : List Int) (v3 : List (Int × Int × List Int)) (v4 : List Int) (v5 : Int) (v6 : Int) : topL E (callT E tab) 50 Try.f50 (spec_l16From.c v0 v1 v2 v3 v4 v5 v6) = spec_l16From.t (fun b => some (spec_l16From.mk b)) v0 v1 v2 v3 v4 v5 v6 := by kernel_rfl
theorem spec_l16From.eq (v0 : List Int) (v1 : Int) (v2 : List Int) (v3 : List (Int × Int × List Int)) (v4 : List Int) (v5 : Int) (v6 : Int) {b : Int} (h : spec_l16From.t some v0 v1 v2 v3 v4 v5 v6 = some b) : spec_l16From v0 v1 v2 v3 v4 v5 v6 = some b := tOf_intro spec_l16From.un (fun _ => by kernel_rfl) (vlim_fn (callT_le E tab) rfl rfl rfl ((spec_l16From.k v0 v1 v2 v3 v4 v5 v6).trans ((by unfold spec_l16From.t; repeat' first | exact Sub.ret | exact Sub.none | exact Sub.loop | apply Sub.cond | (apply Sub.bind; intro _) : Sub spec_l16From.mk _ _) b h)))
noncomputable def spec_l16Commit_5b7.q1002 (v0 : Int) (v1 : Int) (v2 : Int) (v3 : List Int) (v4 : Int) (v5 : List Int) (v6 : List (Int × Int × List Int)) (v7 : List Int) (v8 : Int) (v9 : Int) (v10 : Int) : Option R := loopAtL E (callT E tab) 25 Try.f25 1 [.r, .r, .b] (nn 1 (⟨(.box false), [.dead, iL v0, .dead, .dead, .dead, iL v1, iL v2], false, false, false, 0, 0⟩ :: ⟨(.box false), [.d .deep (.sl (.int .i64)) v3, iL v4, .d .deep (.sl (.int .i64)) v5, .d .deep (.sl (.pair (.int .i64) (.pair (.int .i64) (.sl (.int .i64))))) v6, .d .deep (.sl (.int .i64)) v7, iL v8, iL v9], false, false, false, 0, 0⟩ :: nn 1 (vc (iL v10) :: nn 14 ([]))))
noncomputable def spec_l16Commit_5b7.l1002 (v0 : Int) (v1 : Int) (v2 : Int) (v3 : List Int) (v4 : Int) (v5 : List Int) (v6 : List (Int × Int × List Int)) (v7 : List Int) (v8 : Int) (v9 : Int) (v10 : Int) : Option ((List Int) × Int × (List Int) × (List (Int × Int × List Int)) × (List Int) × Int × Int × Int) := tOf spec_l16Commit_5b7.mk (spec_l16Commit_5b7.q1002 v0 v1 v2 v3 v4 v5 v6 v7 v8 v9 v10)
noncomputable def spec_l16Commit_5b7.q2 (v0 : List Int) (v1 : Int) (v2 : List Int) (v3 : List (Int × Int × List Int)) (v4 : List Int) (v5 : Int) (v6 : Int) (v7 : List Int) (v8 : Int) (v9 : List Int) (v10 : List (Int × Int × List Int)) (v11 : List Int) (v12 : Int) (v13 : Int) (v14 : Int) : Option R := loopAtL E (callT E tab) 25 Try.f25 1 [.r, .r, .b] (nn 1 (⟨(.box false), [.d .deep (.sl (.int .i64)) v0, iL v1, .d .deep (.sl (.int .i64)) v2, .d .deep (.sl (.pair (.int .i64) (.pair (.int .i64) (.sl (.int .i64))))) v3, .d .deep (.sl (.int .i64)) v4, iL v5, iL v6], false, false, false, 0, 0⟩ :: ⟨(.box false), [.d .deep (.sl (.int .i64)) v7, iL v8, .d .deep (.sl (.int .i64)) v9, .d .deep (.sl (.pair (.int .i64) (.pair (.int .i64) (.sl (.int .i64))))) v10, .d .deep (.sl (.int .i64)) v11, iL v12, iL v13], false, false, false, 0, 0⟩ :: nn 1 (vc (iL v14) :: nn 14 ([]))))
noncomputable def spec_l16Commit_5b7.l2 (v0 : List Int) (v1 : Int) (v2 : List Int) (v3 : List (Int × Int × List Int)) (v4 : List Int) (v5 : Int) (v6 : Int) (v7 : List Int) (v8 : Int) (v9 : List Int) (v10 : List (Int × Int × List Int)) (v11 : List Int) (v12 : Int) (v13 : Int) (v14 : Int) : Option ((List Int) × Int × (List Int) × (List (Int × Int × List Int)) × (List Int) × Int × Int × Int) := tOf spec_l16Commit_5b7.mk (spec_l16Commit_5b7.q2 v0 v1 v2 v3 v4 v5 v6 v7 v8 v9 v10 v11 v12 v13 v14)
noncomputable def spec_l16Commit_5b7.t {γ : Type} (ret : ((List Int) × Int × (List Int) × (List (Int × Int × List Int)) × (List Int) × Int × Int × Int) → Option γ) (lp1002 : Int → Int → Int → (List Int) → Int → (List Int) → (List (Int × Int × List Int)) → (List Int) → Int → Int → Int → Option γ) (lp2 : (List Int) → Int → (List Int) → (List (Int × Int × List Int)) → (List Int) → Int → Int → (List Int) → Int → (List Int) → (List (Int × Int × List Int)) → (List Int) → Int → Int → Int → Option γ) (v0 : List Int) (v1 : Int) (v2 : List Int) (v3 : List (Int × Int × List Int)) (v4 : List Int) (v5 : Int) (v6 : Int) : Option γ :=
 lp2 (v0) (v1) (v2) (v3) (v4) (v5) (v6) ([]) ((0 : Int)) ([]) ([]) ([]) ((0 : Int)) ((0 : Int)) ((0 : Int))
noncomputable def spec_l16Commit_5b7.t1002 {γ : Type} (ret : ((List Int) × Int × (List Int) × (List (Int × Int × List Int)) × (List Int) × Int × Int × Int) → Option γ) (lp1002 : Int → Int → Int → (List Int) → Int → (List Int) → (List (Int × Int × List Int)) → (List Int) → Int → Int → Int → Option γ) (lp2 : (List Int) → Int → (List Int) → (List (Int × Int × List Int)) → (List Int) → Int → Int → (List Int) → Int → (List Int) → (List (Int × Int × List Int)) → (List Int) → Int → Int → Int → Option γ) (v0 : Int) (v1 : Int) (v2 : Int) (v3 : List Int) (v4 : Int) (v5 : List Int) (v6 : List (Int × Int × List Int)) (v7 : List Int) (v8 : Int) (v9 : Int) (v10 : Int) : Option γ :=
 none
noncomputable def spec_l16Commit_5b7.t2 {γ : Type} (ret : ((List Int) × Int × (List Int) × (List (Int × Int × List Int)) × (List Int) × Int × Int × Int) → Option γ) (lp1002 : Int → Int → Int → (List Int) → Int → (List Int) → (List (Int × Int × List Int)) → (List Int) → Int → Int → Int → Option γ) (lp2 : (List Int) → Int → (List Int) → (List (Int × Int × List Int)) → (List Int) → Int → Int → (List Int) → Int → (List Int) → (List (Int × Int × List Int)) → (List Int) → Int → Int → Int → Option γ) (v0 : List Int) (v1 : Int) (v2 : List Int) (v3 : List (Int × Int × List Int)) (v4 : List Int) (v5 : Int) (v6 : Int) (v7 : List Int) (v8 : Int) (v9 : List Int) (v10 : List (Int × Int × List Int)) (v11 : List Int) (v12 : Int) (v13 : Int) (v14 : Int) : Option γ :=
 (spec_l16Step_3ad (v0) (v1) (v2) (v3) (v4) (v5) (v6) ((3 : Int))).bind fun (r0 : (Int × Int × Int × Bool × (List Int) × Int × (List Int) × (List (Int × Int × List Int)) × (List Int) × Int × Int) ⊕ ((List Int) × Int × (List Int) × (List (Int × Int × List Int)) × (List Int) × Int × Int × Bool × Int × Int × Int)) =>
 bif r0.isLeft then
  bif !(inL r0 ((0 : Int), (0 : Int), (0 : Int), Bool.false, [], (0 : Int), [], [], [], (0 : Int), (0 : Int))).snd.snd.snd.fst then
   ret ((inL r0 ((0 : Int), (0 : Int), (0 : Int), Bool.false, [], (0 : Int), [], [], [], (0 : Int), (0 : Int))).snd.snd.snd.snd.fst, v1, (inL r0 ((0 : Int), (0 : Int), (0 : Int), Bool.false, [], (0 : Int), [], [], [], (0 : Int), (0 : Int))).snd.snd.snd.snd.snd.snd.fst, (inL r0 ((0 : Int), (0 : Int), (0 : Int), Bool.false, [], (0 : Int), [], [], [], (0 : Int), (0 : Int))).snd.snd.snd.snd.snd.snd.snd.fst, (inL r0 ((0 : Int), (0 : Int), (0 : Int), Bool.false, [], (0 : Int), [], [], [], (0 : Int), (0 : Int))).snd.snd.snd.snd.snd.snd.snd.snd.fst, v5, v6, v14)
  else
   lp1002 ((inL r0 ((0 : Int), (0 : Int), (0 : Int), Bool.false, [], (0 : Int), [], [], [], (0 : Int), (0 : Int))).fst) ((inL r0 ((0 : Int), (0 : Int), (0 : Int), Bool.false, [], (0 : Int), [], [], [], (0 : Int), (0 : Int))).snd.fst) ((inL r0 ((0 : Int), (0 : Int), (0 : Int), Bool.false, [], (0 : Int), [], [], [], (0 : Int), (0 : Int))).snd.snd.fst) (v7) (v8) (v9) (v10) (v11) (v12) (v13) (IntKind.i64.wrap (v14 + (1 : Int)))
 else
  bif !(inR r0 ([], (0 : Int), [], [], [], (0 : Int), (0 : Int), Bool.false, (0 : Int), (0 : Int), (0 : Int))).snd.snd.snd.snd.snd.snd.snd.fst then
   none
  else
   lp2 ((inR r0 ([], (0 : Int), [], [], [], (0 : Int), (0 : Int), Bool.false, (0 : Int), (0 : Int), (0 : Int))).fst) ((inR r0 ([], (0 : Int), [], [], [], (0 : Int), (0 : Int), Bool.false, (0 : Int), (0 : Int), (0 : Int))).snd.fst) ((inR r0 ([], (0 : Int), [], [], [], (0 : Int), (0 : Int), Bool.false, (0 : Int), (0 : Int), (0 : Int))).snd.snd.fst) ((inR r0 ([], (0 : Int), [], [], [], (0 : Int), (0 : Int), Bool.false, (0 : Int), (0 : Int), (0 : Int))).snd.snd.snd.fst) ((inR r0 ([], (0 : Int), [], [], [], (0 : Int), (0 : Int), Bool.false, (0 : Int), (0 : Int), (0 : Int))).snd.snd.snd.snd.fst) ((inR r0 ([], (0 : Int), [], [], [], (0 : Int), (0 : Int), Bool.false, (0 : Int), (0 : Int), (0 : Int))).snd.snd.snd.snd.snd.fst) ((inR r0 ([], (0 : Int), [], [], [], (0 : Int), (0 : Int), Bool.false, (0 : Int), (0 : Int), (0 : Int))).snd.snd.snd.snd.snd.snd.fst) (v7) (v8) (v9) (v10) (v11) (v12) (v13) (IntKind.i64.wrap (v14 + (1 : Int)))
theorem spec_l16Commit_5b7.k (v0 : List Int) (v1 : Int) (v2 : List Int) (v3 : List (Int × Int × List Int)) (v4 : List Int) (v5 : Int) (v6 : Int) : topL E (callT E tab) 25 Try.f25 (spec_l16Commit_5b7.c v0 v1 v2 v3 v4 v5 v6) = spec_l16Commit_5b7.t (fun b => some (spec_l16Commit_5b7.mk b)) spec_l16Commit_5b7.q1002 spec_l16Commit_5b7.q2 v0 v1 v2 v3 v4 v5 v6 := by kernel_rfl
theorem spec_l16Commit_5b7.k1002 (v0 : Int) (v1 : Int) (v2 : Int) (v3 : List Int) (v4 : Int) (v5 : List Int) (v6 : List (Int × Int × List Int)) (v7 : List Int) (v8 : Int) (v9 : Int) (v10 : Int) : roundL E (callT E tab) 25 Try.f25 1 [.r, .r, .b] (nn 1 (⟨(.box false), [.dead, iL v0, .dead, .dead, .dead, iL v1, iL v2], false, false, false, 0, 0⟩ :: ⟨(.box false), [.d .deep (.sl (.int .i64)) v3, iL v4, .d .deep (.sl (.int .i64)) v5, .d .deep (.sl (.pair (.int .i64) (.pair (.int .i64) (.sl (.int .i64))))) v6, .d .deep (.sl (.int .i64)) v7, iL v8, iL v9], false, false, false, 0, 0⟩ :: nn 1 (vc (iL v10) :: nn 14 ([])))) = spec_l16Commit_5b7.t1002 (fun b => some (spec_l16Commit_5b7.mk b)) spec_l16Commit_5b7.q1002 spec_l16Commit_5b7.q2 v0 v1 v2 v3 v4 v5 v6 v7 v8 v9 v10 := by kernel_rfl
theorem spec_l16Commit_5b7.k2 (v0 : List Int) (v1 : Int) (v2 : List Int) (v3 : List (Int × Int × List Int)) (v4 : List Int) (v5 : Int) (v6 : Int) (v7 : List Int) (v8 : Int) (v9 : List Int) (v10 : List (Int × Int × List Int)) (v11 : List Int) (v12 : Int) (v13 : Int) (v14 : Int) : roundL E (callT E tab) 25 Try.f25 1 [.r, .r, .b] (nn 1 (⟨(.box false), [.d .deep (.sl (.int .i64)) v0, iL v1, .d .deep (.sl (.int .i64)) v2, .d .deep (.sl (.pair (.int .i64) (.pair (.int .i64) (.sl (.int .i64))))) v3, .d .deep (.sl (.int .i64)) v4, iL v5, iL v6], false, false, false, 0, 0⟩ :: ⟨(.box false), [.d .deep (.sl (.int .i64)) v7, iL v8, .d .deep (.sl (.int .i64)) v9, .d .deep (.sl (.pair (.int .i64) (.pair (.int .i64) (.sl (.int .i64))))) v10, .d .deep (.sl (.int .i64)) v11, iL v12, iL v13], false, false, false, 0, 0⟩ :: nn 1 (vc (iL v14) :: nn 14 ([])))) = spec_l16Commit_5b7.t2 (fun b => some (spec_l16Commit_5b7.mk b)) spec_l16Commit_5b7.q1002 spec_l16Commit_5b7.q2 v0 v1 v2 v3 v4 v5 v6 v7 v8 v9 v10 v11 v12 v13 v14 := by kernel_rfl
theorem spec_l16Commit_5b7.eq (v0 : List Int) (v1 : Int) (v2 : List Int) (v3 : List (Int × Int × List Int)) (v4 : List Int) (v5 : Int) (v6 : Int) {b : (List Int) × Int × (List Int) × (List (Int × Int × List Int)) × (List Int) × Int × Int × Int} (h : spec_l16Commit_5b7.t some spec_l16Commit_5b7.l1002 spec_l16Commit_5b7.l2 v0 v1 v2 v3 v4 v5 v6 = some b) : spec_l16Commit_5b7 v0 v1 v2 v3 v4 v5 v6 = some b := tOf_intro spec_l16Commit_5b7.un (fun _ => by kernel_rfl) (vlim_fn (callT_le E tab) rfl rfl rfl ((spec_l16Commit_5b7.k v0 v1 v2 v3 v4 v5 v6).trans ((by unfold spec_l16Commit_5b7.t; repeat' first | exact Sub.ret | exact Sub.none | exact Sub.loop | apply Sub.cond | (apply Sub.bind; intro _) : Sub spec_l16Commit_5b7.mk _ _) b h)))
theorem spec_l16Commit_5b7.eq1002 (v0 : Int) (v1 : Int) (v2 : Int) (v3 : List Int) (v4 : Int) (v5 : List Int) (v6 : List (Int × Int × List Int)) (v7 : List Int) (v8 : Int) (v9 : Int) (v10 : Int) {b : (List Int) × Int × (List Int) × (List (Int × Int × List Int)) × (List Int) × Int × Int × Int} (h : spec_l16Commit_5b7.t1002 some spec_l16Commit_5b7.l1002 spec_l16Commit_5b7.l2 v0 v1 v2 v3 v4 v5 v6 v7 v8 v9 v10 = some b) : spec_l16Commit_5b7.l1002 v0 v1 v2 v3 v4 v5 v6 v7 v8 v9 v10 = some b := tOf_intro spec_l16Commit_5b7.un (fun _ => by kernel_rfl) (loopAtL_step ((spec_l16Commit_5b7.k1002 v0 v1 v2 v3 v4 v5 v6 v7 v8 v9 v10).trans ((by unfold spec_l16Commit_5b7.t1002; repeat' first | exact Sub.ret | exact Sub.none | exact Sub.loop | apply Sub.cond | (apply Sub.bind; intro _) : Sub spec_l16Commit_5b7.mk _ _) b h)))
theorem spec_l16Commit_5b7.eq2 (v0 : List Int) (v1 : Int) (v2 : List Int) (v3 : List (Int × Int × List Int)) (v4 : List Int) (v5 : Int) (v6 : Int) (v7 : List Int) (v8 : Int) (v9 : List Int) (v10 : List (Int × Int × List Int)) (v11 : List Int) (v12 : Int) (v13 : Int) (v14 : Int) {b : (List Int) × Int × (List Int) × (List (Int × Int × List Int)) × (List Int) × Int × Int × Int} (h : spec_l16Commit_5b7.t2 some spec_l16Commit_5b7.l1002 spec_l16Commit_5b7.l2 v0 v1 v2 v3 v4 v5 v6 v7 v8 v9 v10 v11 v12 v13 v14 = some b) : spec_l16Commit_5b7.l2 v0 v1 v2 v3 v4 v5 v6 v7 v8 v9 v10 v11 v12 v13 v14 = some b := tOf_intro spec_l16Commit_5b7.un (fun _ => by kernel_rfl) (loopAtL_step ((spec_l16Commit_5b7.k2 v0 v1 v2 v3 v4 v5 v6 v7 v8 v9 v10 v11 v12 v13 v14).trans ((by unfold spec_l16Commit_5b7.t2; repeat' first | exact Sub.ret | exact Sub.none | exact Sub.loop | apply Sub.cond | (apply Sub.bind; intro _) : Sub spec_l16Commit_5b7.mk _ _) b h)))
noncomputable def spec_l16Step_3ad.t {γ : Type} (ret : ((Int × Int × Int × Bool × (List Int) × Int × (List Int) × (List (Int × Int × List Int)) × (List Int) × Int × Int) ⊕ ((List Int) × Int × (List Int) × (List (Int × Int × List Int)) × (List Int) × Int × Int × Bool × Int × Int × Int)) → Option γ) (v0 : List Int) (v1 : Int) (v2 : List Int) (v3 : List (Int × Int × List Int)) (v4 : List Int) (v5 : Int) (v6 : Int) (v7 : Int) : Option γ :=
 bif v7 == (1 : Int) then
  bif v1 == (↑v0.length : Int) then
   ret (.inl (v1, v5, v6, Bool.false, v0, v1, v2, v3, v4, v5, v6))
  else
   bif decide ((0 : Int) ≤ v1) then
    bif decide (v1.toNat < v0.length) then
     bif decide (v1.toNat < v0.length) then
      bif decide (v2.length + [v0.getD v1.toNat (0 : Int)].length ≤ (4294967296 : Nat)) then
       ret (.inr (v0, IntKind.i64.wrap (v1 + (1 : Int)), v2 ++ [v0.getD v1.toNat (0 : Int)], v3, v4, v5, v6, Bool.true, v1, v5, v6))
      else
       none
     else
      none
    else
     none
   else
    none
 else
  bif v7 == (2 : Int) then
   bif (↑v2.length : Int) == (0 : Int) then
    ret (.inl (v1, v5, v6, Bool.false, v0, v1, v2, v3, v4, v5, v6))
   else
    bif decide ((↑v3.length : Int) ≥ (4 : Int)) then
     ret (.inl (v1, v5, v6, Bool.false, v0, v1, v2, v3, v4, v5, v6))
    else
     bif decide (IntKind.i64.wrap (v5 + (↑v3.length : Int)) ≥ (1000 : Int)) then
      ret (.inl (v1, v5, v6, Bool.false, v0, v1, v2, v3, v4, v5, v6))
     else
      bif decide   (v3.length + [(IntKind.i64.wrap (IntKind.i64.wrap (v5 + (↑v3.length : Int)) + (1 : Int)), v1, v2)].length ≤     (4294967296 : Nat)) then
       ret (.inr (v0, v1, [], v3 ++ [(IntKind.i64.wrap (IntKind.i64.wrap (v5 + (↑v3.length : Int)) + (1 : Int)), v1, v2)], v4, v5, v6, Bool.true, v1, v5, v6))
      else
       none
  else
   bif v7 == (3 : Int) then
    bif (↑v3.length : Int) == (0 : Int) then
     ret (.inl (v1, v5, v6, Bool.false, v0, v1, v2, v3, v4, v5, v6))
    else
     bif decide (Int.toNat (0 : Int) < v3.length) then
      bif decide (Int.toNat (0 : Int) < v3.length) then
       bif decide (Int.toNat (0 : Int) < v3.length) then
        bif decide (Int.toNat (0 : Int) < v3.length) then
         bif decide   (v4.length + (v3.getD (Int.toNat (0 : Int)) ((0 : Int), (0 : Int), [])).snd.snd.length ≤ (4294967296 : Nat)) then
          bif decide ((Option.some (1 : Int)).getD (0 : Int) ≤ (↑v3.length : Int)) then
           ret (.inr (v0, v1, v2, List.drop ((Option.some (1 : Int)).getD (0 : Int)).toNat v3, v4 ++ (v3.getD (Int.toNat (0 : Int)) ((0 : Int), (0 : Int), [])).snd.snd, (v3.getD (Int.toNat (0 : Int)) ((0 : Int), (0 : Int), [])).fst, (v3.getD (Int.toNat (0 : Int)) ((0 : Int), (0 : Int), [])).snd.fst, Bool.true, v1, v5, v6))
          else
           none
         else
          none
        else
         none
       else
        none
      else
       none
     else
      none
   else
    bif v7 == (4 : Int) then
     (spec_l16Crash_5b7 (v0) (v1) (v2) (v3) (v4) (v5) (v6)).bind fun (r0 : (List Int) × Int × (List Int) × (List (Int × Int × List Int)) × (List Int) × Int × Int) =>
     ret (.inr (r0.fst, r0.snd.fst, r0.snd.snd.fst, r0.snd.snd.snd.fst, r0.snd.snd.snd.snd.fst, r0.snd.snd.snd.snd.snd.fst, r0.snd.snd.snd.snd.snd.snd, Bool.true, v1, v5, v6))
    else
     bif v7 == (5 : Int) then
      bif decide ((↑v3.length : Int) < (2 : Int)) then
       ret (.inl (v1, v5, v6, Bool.false, v0, v1, v2, v3, v4, v5, v6))
      else
       bif decide (Option.none.getD (0 : Int) ≤ IntKind.i64.wrap ((↑v3.length : Int) - (1 : Int))) then
        bif decide (IntKind.i64.wrap ((↑v3.length : Int) - (1 : Int)) ≤ (↑v3.length : Int)) then
         (spec_l16Crash_5b7 (v0) (v1) (v2) (List.take (IntKind.i64.wrap ((↑v3.length : Int) - (1 : Int)) - Option.none.getD (0 : Int)).toNat   (List.drop (Option.none.getD (0 : Int)).toNat v3)) (v4) (v5) (v6)).bind fun (r1 : (List Int) × Int × (List Int) × (List (Int × Int × List Int)) × (List Int) × Int × Int) =>
         ret (.inr (r1.fst, r1.snd.fst, r1.snd.snd.fst, r1.snd.snd.snd.fst, r1.snd.snd.snd.snd.fst, r1.snd.snd.snd.snd.snd.fst, r1.snd.snd.snd.snd.snd.snd, Bool.true, v1, v5, v6))
        else
         none
       else
        none
     else
      ret (.inl (v1, v5, v6, Bool.false, v0, v1, v2, v3, v4, v5, v6))
theorem spec_l16Step_3ad.k (v0 : List Int) (v1 : Int) (v2 : List Int) (v3 : List (Int × Int × List Int)) (v4 : List Int) (v5 : Int) (v6 : Int) (v7 : Int) : topL E (callT E tab) 39 Try.f39 (spec_l16Step_3ad.c v0 v1 v2 v3 v4 v5 v6 v7) = spec_l16Step_3ad.t (fun b => some (spec_l16Step_3ad.mk b)) v0 v1 v2 v3 v4 v5 v6 v7 := by kernel_rfl
theorem spec_l16Step_3ad.eq (v0 : List Int) (v1 : Int) (v2 : List Int) (v3 : List (Int × Int × List Int)) (v4 : List Int) (v5 : Int) (v6 : Int) (v7 : Int) {b : (Int × Int × Int × Bool × (List Int) × Int × (List Int) × (List (Int × Int × List Int)) × (List Int) × Int × Int) ⊕ ((List Int) × Int × (List Int) × (List (Int × Int × List Int)) × (List Int) × Int × Int × Bool × Int × Int × Int)} (h : spec_l16Step_3ad.t some v0 v1 v2 v3 v4 v5 v6 v7 = some b) : spec_l16Step_3ad v0 v1 v2 v3 v4 v5 v6 v7 = some b := tOf_intro spec_l16Step_3ad.un (fun b => by cases b <;> kernel_rfl) (vlim_fn (callT_le E tab) rfl rfl rfl ((spec_l16Step_3ad.k v0 v1 v2 v3 v4 v5 v6 v7).trans ((by unfold spec_l16Step_3ad.t; repeat' first | exact Sub.ret | exact Sub.none | exact Sub.loop | apply Sub.cond | (apply Sub.bind; intro _) : Sub spec_l16Step_3ad.mk _ _) b h)))
noncomputable def impl_GoodSink.q5 (v0 : List Int) (v1 : Int) (v2 : List Int) (v3 : List (Int × Int × List Int)) (v4 : List Int) (v5 : Int) (v6 : Int) (v7 : Int) (v8 : List (Int × Int × List Int)) (v9 : Int) (v10 : Int) : Option R := loopAtL E (callT E tab) 19 Try.f19 1 [.r, .r, .r, .l, .r, .b] (nn 1 (⟨(.box false), [.d .fro (.sl (.int .i64)) v0, iL v1, .d .fro (.sl (.int .i64)) v2, .d .fro (.sl (.pair (.int .i64) (.pair (.int .i64) (.sl (.int .i64))))) v3, .d .fro (.sl (.int .i64)) v4, iL v5, iL v6], false, false, false, 0, 0⟩ :: nn 1 (vc (iL v7) :: nn 38 (vc (.d .fro (.sl (.pair (.int .i64) (.pair (.int .i64) (.sl (.int .i64))))) v8) :: vc (iL v9) :: vc (iL v10) :: nn 60 ([])))))
noncomputable def impl_GoodSink.l5 (v0 : List Int) (v1 : Int) (v2 : List Int) (v3 : List (Int × Int × List Int)) (v4 : List Int) (v5 : Int) (v6 : Int) (v7 : Int) (v8 : List (Int × Int × List Int)) (v9 : Int) (v10 : Int) : Option (Bool) := tOf impl_GoodSink.mk (impl_GoodSink.q5 v0 v1 v2 v3 v4 v5 v6 v7 v8 v9 v10)
noncomputable def impl_GoodSink.t {γ : Type} (ret : (Bool) → Option γ) (lp5 : (List Int) → Int → (List Int) → (List (Int × Int × List Int)) → (List Int) → Int → Int → Int → (List (Int × Int × List Int)) → Int → Int → Option γ) (v0 : List Int) (v1 : Int) (v2 : List Int) (v3 : List (Int × Int × List Int)) (v4 : List Int) (v5 : Int) (v6 : Int) : Option γ :=
 bif decide ((↑v0.length : Int) > (30 : Int)) then
  ret (Bool.false)
 else
  (impl_within (v1) ((0 : Int)) ((↑v0.length : Int))).bind fun (r0 : Bool) =>
  bif !r0 then
   ret (Bool.false)
  else
   (impl_within (v6) ((0 : Int)) (v1)).bind fun (r1 : Bool) =>
   bif !r1 then
    ret (Bool.false)
   else
    bif decide ((↑v3.length : Int) > (4 : Int)) then
     ret (Bool.false)
    else
     (impl_within (v5) ((0 : Int)) ((1000 : Int))).bind fun (r2 : Bool) =>
     bif !r2 then
      ret (Bool.false)
     else
      lp5 (v0) (v1) (v2) (v3) (v4) (v5) (v6) (v6) (v3) ((↑v3.length : Int)) ((0 : Int))
noncomputable def impl_GoodSink.t5 {γ : Type} (ret : (Bool) → Option γ) (lp5 : (List Int) → Int → (List Int) → (List (Int × Int × List Int)) → (List Int) → Int → Int → Int → (List (Int × Int × List Int)) → Int → Int → Option γ) (v0 : List Int) (v1 : Int) (v2 : List Int) (v3 : List (Int × Int × List Int)) (v4 : List Int) (v5 : Int) (v6 : Int) (v7 : Int) (v8 : List (Int × Int × List Int)) (v9 : Int) (v10 : Int) : Option γ :=
 bif decide (v10 < v9) then
  bif decide ((0 : Int) ≤ v10) then
   bif decide (v10.toNat < v8.length) then
    bif (v8.getD v10.toNat ((0 : Int), (0 : Int), [])).fst != IntKind.i64.wrap (IntKind.i64.wrap (v5 + (1 : Int)) + v10) then
     ret (Bool.false)
    else
     bif decide ((v8.getD v10.toNat ((0 : Int), (0 : Int), [])).fst > (1000 : Int)) then
      ret (Bool.false)
     else
      (impl_within ((v8.getD v10.toNat ((0 : Int), (0 : Int), [])).snd.fst) (v7) (v1)).bind fun (r3 : Bool) =>
      bif !r3 then
       ret (Bool.false)
      else
       bif decide ((0 : Int) ≤ (Option.some v7).getD (0 : Int)) then
        bif decide ((Option.some v7).getD (0 : Int) ≤ (v8.getD v10.toNat ((0 : Int), (0 : Int), [])).snd.fst) then
         bif decide ((v8.getD v10.toNat ((0 : Int), (0 : Int), [])).snd.fst ≤ (↑v0.length : Int)) then
          (xs05 ((v8.getD v10.toNat ((0 : Int), (0 : Int), [])).snd.snd) (List.take ((v8.getD v10.toNat ((0 : Int), (0 : Int), [])).snd.fst - (Option.some v7).getD (0 : Int)).toNat   (List.drop ((Option.some v7).getD (0 : Int)).toNat v0))).bind fun (r4 : Bool) =>
          bif !r4 then
           ret (Bool.false)
          else
           lp5 (v0) (v1) (v2) (v3) (v4) (v5) (v6) ((v8.getD v10.toNat ((0 : Int), (0 : Int), [])).snd.fst) (v8) (v9) (IntKind.i64.wrap (v10 + (1 : Int)))
         else
          none
        else
         none
       else
        none
   else
    none
  else
   none
 else
  bif decide (Option.none.getD (0 : Int) ≤ v6) then
   bif decide (v6 ≤ (↑v0.length : Int)) then
    (xs05 (v4) (List.take (v6 - Option.none.getD (0 : Int)).toNat (List.drop (Option.none.getD (0 : Int)).toNat v0))).bind fun (r5 : Bool) =>
    bif r5 then
     bif decide ((0 : Int) ≤ (Option.some v7).getD (0 : Int)) then
      bif decide ((Option.some v7).getD (0 : Int) ≤ v1) then
       bif decide (v1 ≤ (↑v0.length : Int)) then
        (xs05 (v2) (List.take (v1 - (Option.some v7).getD (0 : Int)).toNat (List.drop ((Option.some v7).getD (0 : Int)).toNat v0))).bind fun (r6 : Bool) =>
        ret (r6)
       else
        none
      else
       none
     else
      none
    else
     ret (Bool.false)
   else
    none
  else
   none
theorem impl_GoodSink.k (v0 : List Int) (v1 : Int) (v2 : List Int) (v3 : List (Int × Int × List Int)) (v4 : List Int) (v5 : Int) (v6 : Int) : topL E (callT E tab) 19 Try.f19 (impl_GoodSink.c v0 v1 v2 v3 v4 v5 v6) = impl_GoodSink.t (fun b => some (impl_GoodSink.mk b)) impl_GoodSink.q5 v0 v1 v2 v3 v4 v5 v6 := by kernel_rfl
theorem impl_GoodSink.k5 (v0 : List Int) (v1 : Int) (v2 : List Int) (v3 : List (Int × Int × List Int)) (v4 : List Int) (v5 : Int) (v6 : Int) (v7 : Int) (v8 : List (Int × Int × List Int)) (v9 : Int) (v10 : Int) : roundL E (callT E tab) 19 Try.f19 1 [.r, .r, .r, .l, .r, .b] (nn 1 (⟨(.box false), [.d .fro (.sl (.int .i64)) v0, iL v1, .d .fro (.sl (.int .i64)) v2, .d .fro (.sl (.pair (.int .i64) (.pair (.int .i64) (.sl (.int .i64))))) v3, .d .fro (.sl (.int .i64)) v4, iL v5, iL v6], false, false, false, 0, 0⟩ :: nn 1 (vc (iL v7) :: nn 38 (vc (.d .fro (.sl (.pair (.int .i64) (.pair (.int .i64) (.sl (.int .i64))))) v8) :: vc (iL v9) :: vc (iL v10) :: nn 60 ([]))))) = impl_GoodSink.t5 (fun b => some (impl_GoodSink.mk b)) impl_GoodSink.q5 v0 v1 v2 v3 v4 v5 v6 v7 v8 v9 v10 := by kernel_rfl
theorem impl_GoodSink.eq (v0 : List Int) (v1 : Int) (v2 : List Int) (v3 : List (Int × Int × List Int)) (v4 : List Int) (v5 : Int) (v6 : Int) {b : Bool} (h : impl_GoodSink.t some impl_GoodSink.l5 v0 v1 v2 v3 v4 v5 v6 = some b) : impl_GoodSink v0 v1 v2 v3 v4 v5 v6 = some b := tOf_intro impl_GoodSink.un (fun _ => by kernel_rfl) (vlim_fn (callT_le E tab) rfl rfl rfl ((impl_GoodSink.k v0 v1 v2 v3 v4 v5 v6).trans ((by unfold impl_GoodSink.t; repeat' first | exact Sub.ret | exact Sub.none | exact Sub.loop | apply Sub.cond | (apply Sub.bind; intro _) : Sub impl_GoodSink.mk _ _) b h)))
theorem impl_GoodSink.eq5 (v0 : List Int) (v1 : Int) (v2 : List Int) (v3 : List (Int × Int × List Int)) (v4 : List Int) (v5 : Int) (v6 : Int) (v7 : Int) (v8 : List (Int × Int × List Int)) (v9 : Int) (v10 : Int) {b : Bool} (h : impl_GoodSink.t5 some impl_GoodSink.l5 v0 v1 v2 v3 v4 v5 v6 v7 v8 v9 v10 = some b) : impl_GoodSink.l5 v0 v1 v2 v3 v4 v5 v6 v7 v8 v9 v10 = some b := tOf_intro impl_GoodSink.un (fun _ => by kernel_rfl) (loopAtL_step ((impl_GoodSink.k5 v0 v1 v2 v3 v4 v5 v6 v7 v8 v9 v10).trans ((by unfold impl_GoodSink.t5; repeat' first | exact Sub.ret | exact Sub.none | exact Sub.loop | apply Sub.cond | (apply Sub.bind; intro _) : Sub impl_GoodSink.mk _ _) b h)))
noncomputable def impl_within.t {γ : Type} (ret : (Bool) → Option γ) (v0 : Int) (v1 : Int) (v2 : Int) : Option γ :=
 bif decide (v1 ≤ v0) then
  ret (decide (v0 ≤ v2))
 else
  ret (Bool.false)
theorem impl_within.k (v0 : Int) (v1 : Int) (v2 : Int) : topL E (callT E tab) 44 Try.f44 (impl_within.c v0 v1 v2) = impl_within.t (fun b => some (impl_within.mk b)) v0 v1 v2 := by kernel_rfl
theorem impl_within.eq (v0 : Int) (v1 : Int) (v2 : Int) {b : Bool} (h : impl_within.t some v0 v1 v2 = some b) : impl_within v0 v1 v2 = some b := tOf_intro impl_within.un (fun _ => by kernel_rfl) (vlim_fn (callT_le E tab) rfl rfl rfl ((impl_within.k v0 v1 v2).trans ((by unfold impl_within.t; repeat' first | exact Sub.ret | exact Sub.none | exact Sub.loop | apply Sub.cond | (apply Sub.bind; intro _) : Sub impl_within.mk _ _) b h)))
noncomputable def xs05.q4 (v0 : List Int) (v1 : List Int) (v2 : Int) (v3 : Int) : Option R := loopAtL E (callT E tab) 45 Try.f45 2 [.r, .r, .l, .r, .b] (vc (.d .fro (.sl (.int .i64)) v0) :: vc (.d .fro (.sl (.int .i64)) v1) :: nn 10 (vc (iL v2) :: vc (iL v3) :: nn 12 ([])))
noncomputable def xs05.l4 (v0 : List Int) (v1 : List Int) (v2 : Int) (v3 : Int) : Option (Bool) := tOf xs05.mk (xs05.q4 v0 v1 v2 v3)
noncomputable def xs05.t {γ : Type} (ret : (Bool) → Option γ) (lp4 : (List Int) → (List Int) → Int → Int → Option γ) (v0 : List Int) (v1 : List Int) : Option γ :=
 bif (↑v0.length : Int) != (↑v1.length : Int) then
  ret (Bool.false)
 else
  lp4 (v0) (v1) ((↑v0.length : Int)) ((0 : Int))
noncomputable def xs05.t4 {γ : Type} (ret : (Bool) → Option γ) (lp4 : (List Int) → (List Int) → Int → Int → Option γ) (v0 : List Int) (v1 : List Int) (v2 : Int) (v3 : Int) : Option γ :=
 bif decide (v3 < v2) then
  bif decide ((0 : Int) ≤ v3) then
   bif decide (v3.toNat < v0.length) then
    bif decide ((0 : Int) ≤ v3) then
     bif decide (v3.toNat < v1.length) then
      bif v0.getD v3.toNat (0 : Int) != v1.getD v3.toNat (0 : Int) then
       ret (Bool.false)
      else
       lp4 (v0) (v1) (v2) (IntKind.i64.wrap (v3 + (1 : Int)))
     else
      none
    else
     none
   else
    none
  else
   none
 else
  ret (Bool.true)
theorem xs05.k (v0 : List Int) (v1 : List Int) : topL E (callT E tab) 45 Try.f45 (xs05.c v0 v1) = xs05.t (fun b => some (xs05.mk b)) xs05.q4 v0 v1 := by kernel_rfl
theorem xs05.k4 (v0 : List Int) (v1 : List Int) (v2 : Int) (v3 : Int) : roundL E (callT E tab) 45 Try.f45 2 [.r, .r, .l, .r, .b] (vc (.d .fro (.sl (.int .i64)) v0) :: vc (.d .fro (.sl (.int .i64)) v1) :: nn 10 (vc (iL v2) :: vc (iL v3) :: nn 12 ([]))) = xs05.t4 (fun b => some (xs05.mk b)) xs05.q4 v0 v1 v2 v3 := by kernel_rfl
theorem xs05.eq (v0 : List Int) (v1 : List Int) {b : Bool} (h : xs05.t some xs05.l4 v0 v1 = some b) : xs05 v0 v1 = some b := tOf_intro xs05.un (fun _ => by kernel_rfl) (vlim_fn (callT_le E tab) rfl rfl rfl ((xs05.k v0 v1).trans ((by unfold xs05.t; repeat' first | exact Sub.ret | exact Sub.none | exact Sub.loop | apply Sub.cond | (apply Sub.bind; intro _) : Sub xs05.mk _ _) b h)))
theorem xs05.eq4 (v0 : List Int) (v1 : List Int) (v2 : Int) (v3 : Int) {b : Bool} (h : xs05.t4 some xs05.l4 v0 v1 v2 v3 = some b) : xs05.l4 v0 v1 v2 v3 = some b := tOf_intro xs05.un (fun _ => by kernel_rfl) (loopAtL_step ((xs05.k4 v0 v1 v2 v3).trans ((by unfold xs05.t4; repeat' first | exact Sub.ret | exact Sub.none | exact Sub.loop | apply Sub.cond | (apply Sub.bind; intro _) : Sub xs05.mk _ _) b h)))
noncomputable def impl_Sink_own.q4 (v0 : List Int) (v1 : Int) (v2 : List Int) (v3 : List (Int × Int × List Int)) (v4 : List Int) (v5 : Int) (v6 : Int) (v7 : List Int) (v8 : Int) (v9 : List Int) (v10 : List (Int × Int × List Int)) (v11 : List Int) (v12 : Int) (v13 : Int) (v14 : List (Int × Int × List Int)) (v15 : List (Int × Int × List Int)) (v16 : Int) (v17 : Int) : Option R := loopAtL E (callT E tab) 30 Try.f30 1 [.r, .r, .r, .l, .r, .b] (nn 1 (⟨(.box false), [.d .deep (.sl (.int .i64)) v0, iL v1, .d .deep (.sl (.int .i64)) v2, .d .fro (.sl (.pair (.int .i64) (.pair (.int .i64) (.sl (.int .i64))))) v3, .d .deep (.sl (.int .i64)) v4, iL v5, iL v6], false, false, false, 0, 0⟩ :: ⟨(.box false), [.d .deep (.sl (.int .i64)) v7, iL v8, .d .deep (.sl (.int .i64)) v9, .d .deep (.sl (.pair (.int .i64) (.pair (.int .i64) (.sl (.int .i64))))) v10, .d .deep (.sl (.int .i64)) v11, iL v12, iL v13], false, false, false, 0, 0⟩ :: vc (.d .deep (.sl (.pair (.int .i64) (.pair (.int .i64) (.sl (.int .i64))))) v14) :: nn 15 (vc (.d .fro (.sl (.pair (.int .i64) (.pair (.int .i64) (.sl (.int .i64))))) v15) :: vc (iL v16) :: vc (iL v17) :: nn 18 ([]))))
noncomputable def impl_Sink_own.l4 (v0 : List Int) (v1 : Int) (v2 : List Int) (v3 : List (Int × Int × List Int)) (v4 : List Int) (v5 : Int) (v6 : Int) (v7 : List Int) (v8 : Int) (v9 : List Int) (v10 : List (Int × Int × List Int)) (v11 : List Int) (v12 : Int) (v13 : Int) (v14 : List (Int × Int × List Int)) (v15 : List (Int × Int × List Int)) (v16 : Int) (v17 : Int) : Option ((List Int) × Int × (List Int) × (List (Int × Int × List Int)) × (List Int) × Int × Int) := tOf impl_Sink_own.mk (impl_Sink_own.q4 v0 v1 v2 v3 v4 v5 v6 v7 v8 v9 v10 v11 v12 v13 v14 v15 v16 v17)
noncomputable def impl_Sink_own.t {γ : Type} (ret : ((List Int) × Int × (List Int) × (List (Int × Int × List Int)) × (List Int) × Int × Int) → Option γ) (lp4 : (List Int) → Int → (List Int) → (List (Int × Int × List Int)) → (List Int) → Int → Int → (List Int) → Int → (List Int) → (List (Int × Int × List Int)) → (List Int) → Int → Int → (List (Int × Int × List Int)) → (List (Int × Int × List Int)) → Int → Int → Option γ) (v0 : List Int) (v1 : Int) (v2 : List Int) (v3 : List (Int × Int × List Int)) (v4 : List Int) (v5 : Int) (v6 : Int) : Option γ :=
 (xs04 (v0)).bind fun (r0 : (List Int)) =>
 (xs04 (v2)).bind fun (r1 : (List Int)) =>
 (xs04 (v4)).bind fun (r2 : (List Int)) =>
 lp4 (r0) (v1) (r1) (v3) (r2) (v5) (v6) ([]) ((0 : Int)) ([]) ([]) ([]) ((0 : Int)) ((0 : Int)) ([]) (v3) ((↑v3.length : Int)) ((0 : Int))
noncomputable def impl_Sink_own.t4 {γ : Type} (ret : ((List Int) × Int × (List Int) × (List (Int × Int × List Int)) × (List Int) × Int × Int) → Option γ) (lp4 : (List Int) → Int → (List Int) → (List (Int × Int × List Int)) → (List Int) → Int → Int → (List Int) → Int → (List Int) → (List (Int × Int × List Int)) → (List Int) → Int → Int → (List (Int × Int × List Int)) → (List (Int × Int × List Int)) → Int → Int → Option γ) (v0 : List Int) (v1 : Int) (v2 : List Int) (v3 : List (Int × Int × List Int)) (v4 : List Int) (v5 : Int) (v6 : Int) (v7 : List Int) (v8 : Int) (v9 : List Int) (v10 : List (Int × Int × List Int)) (v11 : List Int) (v12 : Int) (v13 : Int) (v14 : List (Int × Int × List Int)) (v15 : List (Int × Int × List Int)) (v16 : Int) (v17 : Int) : Option γ :=
 bif decide (v17 < v16) then
  bif decide ((0 : Int) ≤ v17) then
   bif decide (v17.toNat < v15.length) then
    (xs04 ((v15.getD v17.toNat ((0 : Int), (0 : Int), [])).snd.snd)).bind fun (r3 : (List Int)) =>
    bif decide   (v14.length +       [((v15.getD v17.toNat ((0 : Int), (0 : Int), [])).fst, (v15.getD v17.toNat ((0 : Int), (0 : Int), [])).snd.fst,             r3)].length ≤     (4294967296 : Nat)) then
     lp4 (v0) (v1) (v2) (v3) (v4) (v5) (v6) (v7) (v8) (v9) (v10) (v11) (v12) (v13) (v14 ++   [((v15.getD v17.toNat ((0 : Int), (0 : Int), [])).fst, (v15.getD v17.toNat ((0 : Int), (0 : Int), [])).snd.fst, r3)]) (v15) (v16) (IntKind.i64.wrap (v17 + (1 : Int)))
    else
     none
   else
    none
  else
   none
 else
  ret (v0, v1, v2, v14, v4, v5, v6)
theorem impl_Sink_own.k (v0 : List Int) (v1 : Int) (v2 : List Int) (v3 : List (Int × Int × List Int)) (v4 : List Int) (v5 : Int) (v6 : Int) : topL E (callT E tab) 30 Try.f30 (impl_Sink_own.c v0 v1 v2 v3 v4 v5 v6) = impl_Sink_own.t (fun b => some (impl_Sink_own.mk b)) impl_Sink_own.q4 v0 v1 v2 v3 v4 v5 v6 := by kernel_rfl
theorem impl_Sink_own.k4 (v0 : List Int) (v1 : Int) (v2 : List Int) (v3 : List (Int × Int × List Int)) (v4 : List Int) (v5 : Int) (v6 : Int) (v7 : List Int) (v8 : Int) (v9 : List Int) (v10 : List (Int × Int × List Int)) (v11 : List Int) (v12 : Int) (v13 : Int) (v14 : List (Int × Int × List Int)) (v15 : List (Int × Int × List Int)) (v16 : Int) (v17 : Int) : roundL E (callT E tab) 30 Try.f30 1 [.r, .r, .r, .l, .r, .b] (nn 1 (⟨(.box false), [.d .deep (.sl (.int .i64)) v0, iL v1, .d .deep (.sl (.int .i64)) v2, .d .fro (.sl (.pair (.int .i64) (.pair (.int .i64) (.sl (.int .i64))))) v3, .d .deep (.sl (.int .i64)) v4, iL v5, iL v6], false, false, false, 0, 0⟩ :: ⟨(.box false), [.d .deep (.sl (.int .i64)) v7, iL v8, .d .deep (.sl (.int .i64)) v9, .d .deep (.sl (.pair (.int .i64) (.pair (.int .i64) (.sl (.int .i64))))) v10, .d .deep (.sl (.int .i64)) v11, iL v12, iL v13], false, false, false, 0, 0⟩ :: vc (.d .deep (.sl (.pair (.int .i64) (.pair (.int .i64) (.sl (.int .i64))))) v14) :: nn 15 (vc (.d .fro (.sl (.pair (.int .i64) (.pair (.int .i64) (.sl (.int .i64))))) v15) :: vc (iL v16) :: vc (iL v17) :: nn 18 ([])))) = impl_Sink_own.t4 (fun b => some (impl_Sink_own.mk b)) impl_Sink_own.q4 v0 v1 v2 v3 v4 v5 v6 v7 v8 v9 v10 v11 v12 v13 v14 v15 v16 v17 := by kernel_rfl
theorem impl_Sink_own.eq (v0 : List Int) (v1 : Int) (v2 : List Int) (v3 : List (Int × Int × List Int)) (v4 : List Int) (v5 : Int) (v6 : Int) {b : (List Int) × Int × (List Int) × (List (Int × Int × List Int)) × (List Int) × Int × Int} (h : impl_Sink_own.t some impl_Sink_own.l4 v0 v1 v2 v3 v4 v5 v6 = some b) : impl_Sink_own v0 v1 v2 v3 v4 v5 v6 = some b := tOf_intro impl_Sink_own.un (fun _ => by kernel_rfl) (vlim_fn (callT_le E tab) rfl rfl rfl ((impl_Sink_own.k v0 v1 v2 v3 v4 v5 v6).trans ((by unfold impl_Sink_own.t; repeat' first | exact Sub.ret | exact Sub.none | exact Sub.loop | apply Sub.cond | (apply Sub.bind; intro _) : Sub impl_Sink_own.mk _ _) b h)))
theorem impl_Sink_own.eq4 (v0 : List Int) (v1 : Int) (v2 : List Int) (v3 : List (Int × Int × List Int)) (v4 : List Int) (v5 : Int) (v6 : Int) (v7 : List Int) (v8 : Int) (v9 : List Int) (v10 : List (Int × Int × List Int)) (v11 : List Int) (v12 : Int) (v13 : Int) (v14 : List (Int × Int × List Int)) (v15 : List (Int × Int × List Int)) (v16 : Int) (v17 : Int) {b : (List Int) × Int × (List Int) × (List (Int × Int × List Int)) × (List Int) × Int × Int} (h : impl_Sink_own.t4 some impl_Sink_own.l4 v0 v1 v2 v3 v4 v5 v6 v7 v8 v9 v10 v11 v12 v13 v14 v15 v16 v17 = some b) : impl_Sink_own.l4 v0 v1 v2 v3 v4 v5 v6 v7 v8 v9 v10 v11 v12 v13 v14 v15 v16 v17 = some b := tOf_intro impl_Sink_own.un (fun _ => by kernel_rfl) (loopAtL_step ((impl_Sink_own.k4 v0 v1 v2 v3 v4 v5 v6 v7 v8 v9 v10 v11 v12 v13 v14 v15 v16 v17).trans ((by unfold impl_Sink_own.t4; repeat' first | exact Sub.ret | exact Sub.none | exact Sub.loop | apply Sub.cond | (apply Sub.bind; intro _) : Sub impl_Sink_own.mk _ _) b h)))
noncomputable def xs04.t {γ : Type} (ret : ((List Int)) → Option γ) (v0 : List Int) : Option γ :=
 bif decide (v0.length ≤ (4294967296 : Nat)) then
  ret (v0)
 else
  none
theorem xs04.k (v0 : List Int) : extOf 52 (xs04.c v0) = xs04.t (fun b => some (xs04.mk b)) v0 := by kernel_rfl
theorem xs04.eq (v0 : List Int) {b : (List Int)} (h : xs04.t some v0 = some b) : xs04 v0 = some b := tOf_intro xs04.un (fun _ => by kernel_rfl) (vlim_ext (g := extOf 52) rfl ((xs04.k v0).trans ((by unfold xs04.t; repeat' first | exact Sub.ret | exact Sub.none | exact Sub.loop | apply Sub.cond | (apply Sub.bind; intro _) : Sub xs04.mk _ _) b h)))
noncomputable def xi07.t {γ : Type} (ret : (Bool × (List Int) × Int × (List Int) × (List (Int × Int × List Int)) × (List Int) × Int × Int) → Option γ) (v0 : List Int) (v1 : Int) (v2 : List Int) (v3 : List (Int × Int × List Int)) (v4 : List Int) (v5 : Int) (v6 : Int) : Option γ :=
 (impl_Sink_stored (v0) (v1) (v2) (v3) (v4) (v5) (v6)).bind fun (r0 : Int) =>
 ret (Bool.true, v0, r0, [], v3, v4, v5, v6)
theorem xi07.k (v0 : List Int) (v1 : Int) (v2 : List Int) (v3 : List (Int × Int × List Int)) (v4 : List Int) (v5 : Int) (v6 : Int) : topL E (callT E tab) 31 Try.f31 (xi07.c v0 v1 v2 v3 v4 v5 v6) = xi07.t (fun b => some (xi07.mk b)) v0 v1 v2 v3 v4 v5 v6 := by kernel_rfl
theorem xi07.eq (v0 : List Int) (v1 : Int) (v2 : List Int) (v3 : List (Int × Int × List Int)) (v4 : List Int) (v5 : Int) (v6 : Int) {b : Bool × (List Int) × Int × (List Int) × (List (Int × Int × List Int)) × (List Int) × Int × Int} (h : xi07.t some v0 v1 v2 v3 v4 v5 v6 = some b) : xi07 v0 v1 v2 v3 v4 v5 v6 = some b := tOf_intro xi07.un (fun _ => by kernel_rfl) (vlim_fn (callT_le E tab) rfl rfl rfl ((xi07.k v0 v1 v2 v3 v4 v5 v6).trans ((by unfold xi07.t; repeat' first | exact Sub.ret | exact Sub.none | exact Sub.loop | apply Sub.cond | (apply Sub.bind; intro _) : Sub xi07.mk _ _) b h)))
noncomputable def impl_Sink_stored.t {γ : Type} (ret : (Int) → Option γ) (v0 : List Int) (v1 : Int) (v2 : List Int) (v3 : List (Int × Int × List Int)) (v4 : List Int) (v5 : Int) (v6 : Int) : Option γ :=
 bif decide (IntKind.i64.wrap ((↑v3.length : Int) - (1 : Int)) ≥ (0 : Int)) then
  bif decide ((0 : Int) ≤ IntKind.i64.wrap ((↑v3.length : Int) - (1 : Int))) then
   bif decide ((IntKind.i64.wrap ((↑v3.length : Int) - (1 : Int))).toNat < v3.length) then
    ret ((v3.getD (IntKind.i64.wrap ((↑v3.length : Int) - (1 : Int))).toNat ((0 : Int), (0 : Int), [])).snd.fst)
   else
    none
  else
   none
 else
  ret (v6)
theorem impl_Sink_stored.k (v0 : List Int) (v1 : Int) (v2 : List Int) (v3 : List (Int × Int × List Int)) (v4 : List Int) (v5 : Int) (v6 : Int) : topL E (callT E tab) 53 Try.f53 (impl_Sink_stored.c v0 v1 v2 v3 v4 v5 v6) = impl_Sink_stored.t (fun b => some (impl_Sink_stored.mk b)) v0 v1 v2 v3 v4 v5 v6 := by kernel_rfl
theorem impl_Sink_stored.eq (v0 : List Int) (v1 : Int) (v2 : List Int) (v3 : List (Int × Int × List Int)) (v4 : List Int) (v5 : Int) (v6 : Int) {b : Int} (h : impl_Sink_stored.t some v0 v1 v2 v3 v4 v5 v6 = some b) : impl_Sink_stored v0 v1 v2 v3 v4 v5 v6 = some b := tOf_intro impl_Sink_stored.un (fun _ => by kernel_rfl) (vlim_fn (callT_le E tab) rfl rfl rfl ((impl_Sink_stored.k v0 v1 v2 v3 v4 v5 v6).trans ((by unfold impl_Sink_stored.t; repeat' first | exact Sub.ret | exact Sub.none | exact Sub.loop | apply Sub.cond | (apply Sub.bind; intro _) : Sub impl_Sink_stored.mk _ _) b h)))
noncomputable def xi08.q2 (v0 : List Int) (v1 : Int) (v2 : List Int) (v3 : List (Int × Int × List Int)) (v4 : List Int) (v5 : Int) (v6 : Int) (v7 : Int) (v8 : Int) : Option R := loopAtL E (callT E tab) 32 Try.f32 2 [.r, .r, .l, .b] (⟨(.box false), [.d .deep (.sl (.int .i64)) v0, iL v1, .d .deep (.sl (.int .i64)) v2, .d .deep (.sl (.pair (.int .i64) (.pair (.int .i64) (.sl (.int .i64))))) v3, .d .deep (.sl (.int .i64)) v4, iL v5, iL v6], true, false, false, 0, 0⟩ :: vc (iL v7) :: nn 3 (vc (iL v8) :: nn 6 ([])))
noncomputable def xi08.l2 (v0 : List Int) (v1 : Int) (v2 : List Int) (v3 : List (Int × Int × List Int)) (v4 : List Int) (v5 : Int) (v6 : Int) (v7 : Int) (v8 : Int) : Option (Int × (List Int) × Int × (List Int) × (List (Int × Int × List Int)) × (List Int) × Int × Int) := tOf xi08.mk (xi08.q2 v0 v1 v2 v3 v4 v5 v6 v7 v8)
noncomputable def xi08.t {γ : Type} (ret : (Int × (List Int) × Int × (List Int) × (List (Int × Int × List Int)) × (List Int) × Int × Int) → Option γ) (lp2 : (List Int) → Int → (List Int) → (List (Int × Int × List Int)) → (List Int) → Int → Int → Int → Int → Option γ) (v0 : List Int) (v1 : Int) (v2 : List Int) (v3 : List (Int × Int × List Int)) (v4 : List Int) (v5 : Int) (v6 : Int) (v7 : Int) : Option γ :=
 lp2 (v0) (v1) (v2) (v3) (v4) (v5) (v6) (v7) ((0 : Int))
noncomputable def xi08.t2 {γ : Type} (ret : (Int × (List Int) × Int × (List Int) × (List (Int × Int × List Int)) × (List Int) × Int × Int) → Option γ) (lp2 : (List Int) → Int → (List Int) → (List (Int × Int × List Int)) → (List Int) → Int → Int → Int → Int → Option γ) (v0 : List Int) (v1 : Int) (v2 : List Int) (v3 : List (Int × Int × List Int)) (v4 : List Int) (v5 : Int) (v6 : Int) (v7 : Int) (v8 : Int) : Option γ :=
 (impl_Sink_step_1e4 (v0) (v1) (v2) (v3) (v4) (v5) (v6) (v7)).bind fun (r0 : Bool × (List Int) × Int × (List Int) × (List (Int × Int × List Int)) × (List Int) × Int × Int) =>
 bif r0.fst then
  lp2 (r0.snd.fst) (r0.snd.snd.fst) (r0.snd.snd.snd.fst) (r0.snd.snd.snd.snd.fst) (r0.snd.snd.snd.snd.snd.fst) (r0.snd.snd.snd.snd.snd.snd.fst) (r0.snd.snd.snd.snd.snd.snd.snd) (v7) (IntKind.i64.wrap (v8 + (1 : Int)))
 else
  ret (v8, r0.snd.fst, r0.snd.snd.fst, r0.snd.snd.snd.fst, r0.snd.snd.snd.snd.fst, r0.snd.snd.snd.snd.snd.fst, r0.snd.snd.snd.snd.snd.snd.fst, r0.snd.snd.snd.snd.snd.snd.snd)
theorem xi08.k (v0 : List Int) (v1 : Int) (v2 : List Int) (v3 : List (Int × Int × List Int)) (v4 : List Int) (v5 : Int) (v6 : Int) (v7 : Int) : topL E (callT E tab) 32 Try.f32 (xi08.c v0 v1 v2 v3 v4 v5 v6 v7) = xi08.t (fun b => some (xi08.mk b)) xi08.q2 v0 v1 v2 v3 v4 v5 v6 v7 := by kernel_rfl
theorem xi08.k2 (v0 : List Int) (v1 : Int) (v2 : List Int) (v3 : List (Int × Int × List Int)) (v4 : List Int) (v5 : Int) (v6 : Int) (v7 : Int) (v8 : Int) : roundL E (callT E tab) 32 Try.f32 2 [.r, .r, .l, .b] (⟨(.box false), [.d .deep (.sl (.int .i64)) v0, iL v1, .d .deep (.sl (.int .i64)) v2, .d .deep (.sl (.pair (.int .i64) (.pair (.int .i64) (.sl (.int .i64))))) v3, .d .deep (.sl (.int .i64)) v4, iL v5, iL v6], true, false, false, 0, 0⟩ :: vc (iL v7) :: nn 3 (vc (iL v8) :: nn 6 ([]))) = xi08.t2 (fun b => some (xi08.mk b)) xi08.q2 v0 v1 v2 v3 v4 v5 v6 v7 v8 := by kernel_rfl
theorem xi08.eq (v0 : List Int) (v1 : Int) (v2 : List Int) (v3 : List (Int × Int × List Int)) (v4 : List Int) (v5 : Int) (v6 : Int) (v7 : Int) {b : Int × (List Int) × Int × (List Int) × (List (Int × Int × List Int)) × (List Int) × Int × Int} (h : xi08.t some xi08.l2 v0 v1 v2 v3 v4 v5 v6 v7 = some b) : xi08 v0 v1 v2 v3 v4 v5 v6 v7 = some b := tOf_intro xi08.un (fun _ => by kernel_rfl) (vlim_fn (callT_le E tab) rfl rfl rfl ((xi08.k v0 v1 v2 v3 v4 v5 v6 v7).trans ((by unfold xi08.t; repeat' first | exact Sub.ret | exact Sub.none | exact Sub.loop | apply Sub.cond | (apply Sub.bind; intro _) : Sub xi08.mk _ _) b h)))
theorem xi08.eq2 (v0 : List Int) (v1 : Int) (v2 : List Int) (v3 : List (Int × Int × List Int)) (v4 : List Int) (v5 : Int) (v6 : Int) (v7 : Int) (v8 : Int) {b : Int × (List Int) × Int × (List Int) × (List (Int × Int × List Int)) × (List Int) × Int × Int} (h : xi08.t2 some xi08.l2 v0 v1 v2 v3 v4 v5 v6 v7 v8 = some b) : xi08.l2 v0 v1 v2 v3 v4 v5 v6 v7 v8 = some b := tOf_intro xi08.un (fun _ => by kernel_rfl) (loopAtL_step ((xi08.k2 v0 v1 v2 v3 v4 v5 v6 v7 v8).trans ((by unfold xi08.t2; repeat' first | exact Sub.ret | exact Sub.none | exact Sub.loop | apply Sub.cond | (apply Sub.bind; intro _) : Sub xi08.mk _ _) b h)))
noncomputable def impl_Sink_step_1e4.t {γ : Type} (ret : (Bool × (List Int) × Int × (List Int) × (List (Int × Int × List Int)) × (List Int) × Int × Int) → Option γ) (v0 : List Int) (v1 : Int) (v2 : List Int) (v3 : List (Int × Int × List Int)) (v4 : List Int) (v5 : Int) (v6 : Int) (v7 : Int) : Option γ :=
 bif v7 == (1 : Int) then
  (impl_Sink_read_dfc (v0) (v1) (v2) (v3) (v4) (v5) (v6)).bind fun (r0 : Bool × (List Int) × Int × (List Int) × (List (Int × Int × List Int)) × (List Int) × Int × Int) =>
  ret (r0.fst, r0.snd.fst, r0.snd.snd.fst, r0.snd.snd.snd.fst, r0.snd.snd.snd.snd.fst, r0.snd.snd.snd.snd.snd.fst, r0.snd.snd.snd.snd.snd.snd.fst, r0.snd.snd.snd.snd.snd.snd.snd)
 else
  bif v7 == (2 : Int) then
   (xi01 (v0) (v1) (v2) (v3) (v4) (v5) (v6)).bind fun (r1 : Bool × (List Int) × Int × (List Int) × (List (Int × Int × List Int)) × (List Int) × Int × Int) =>
   ret (r1.fst, r1.snd.fst, r1.snd.snd.fst, r1.snd.snd.snd.fst, r1.snd.snd.snd.snd.fst, r1.snd.snd.snd.snd.snd.fst, r1.snd.snd.snd.snd.snd.snd.fst, r1.snd.snd.snd.snd.snd.snd.snd)
  else
   bif v7 == (3 : Int) then
    (xi03 (v0) (v1) (v2) (v3) (v4) (v5) (v6)).bind fun (r2 : Bool × (List Int) × Int × (List Int) × (List (Int × Int × List Int)) × (List Int) × Int × Int) =>
    ret (r2.fst, r2.snd.fst, r2.snd.snd.fst, r2.snd.snd.snd.fst, r2.snd.snd.snd.snd.fst, r2.snd.snd.snd.snd.snd.fst, r2.snd.snd.snd.snd.snd.snd.fst, r2.snd.snd.snd.snd.snd.snd.snd)
   else
    bif v7 == (4 : Int) then
     (xi07 (v0) (v1) (v2) (v3) (v4) (v5) (v6)).bind fun (r3 : Bool × (List Int) × Int × (List Int) × (List (Int × Int × List Int)) × (List Int) × Int × Int) =>
     ret (r3.fst, r3.snd.fst, r3.snd.snd.fst, r3.snd.snd.snd.fst, r3.snd.snd.snd.snd.fst, r3.snd.snd.snd.snd.snd.fst, r3.snd.snd.snd.snd.snd.snd.fst, r3.snd.snd.snd.snd.snd.snd.snd)
    else
     bif v7 == (5 : Int) then
      bif decide ((↑v3.length : Int) < (2 : Int)) then
       ret (Bool.false, v0, v1, v2, v3, v4, v5, v6)
      else
       bif decide (Option.none.getD (0 : Int) ≤ IntKind.i64.wrap ((↑v3.length : Int) - (1 : Int))) then
        bif decide (IntKind.i64.wrap ((↑v3.length : Int) - (1 : Int)) ≤ (↑v3.length : Int)) then
         (xi07 (v0) (v1) (v2) (List.take (IntKind.i64.wrap ((↑v3.length : Int) - (1 : Int)) - Option.none.getD (0 : Int)).toNat   (List.drop (Option.none.getD (0 : Int)).toNat v3)) (v4) (v5) (v6)).bind fun (r4 : Bool × (List Int) × Int × (List Int) × (List (Int × Int × List Int)) × (List Int) × Int × Int) =>
         ret (r4.fst, r4.snd.fst, r4.snd.snd.fst, r4.snd.snd.snd.fst, r4.snd.snd.snd.snd.fst, r4.snd.snd.snd.snd.snd.fst, r4.snd.snd.snd.snd.snd.snd.fst, r4.snd.snd.snd.snd.snd.snd.snd)
        else
         none
       else
        none
     else
      ret (Bool.false, v0, v1, v2, v3, v4, v5, v6)
theorem impl_Sink_step_1e4.k (v0 : List Int) (v1 : Int) (v2 : List Int) (v3 : List (Int × Int × List Int)) (v4 : List Int) (v5 : Int) (v6 : Int) (v7 : Int) : topL E (callT E tab) 43 Try.f43 (impl_Sink_step_1e4.c v0 v1 v2 v3 v4 v5 v6 v7) = impl_Sink_step_1e4.t (fun b => some (impl_Sink_step_1e4.mk b)) v0 v1 v2 v3 v4 v5 v6 v7 := by kernel_rfl
theorem impl_Sink_step_1e4.eq (v0 : List Int) (v1 : Int) (v2 : List Int) (v3 : List (Int × Int × List Int)) (v4 : List Int) (v5 : Int) (v6 : Int) (v7 : Int) {b : Bool × (List Int) × Int × (List Int) × (List (Int × Int × List Int)) × (List Int) × Int × Int} (h : impl_Sink_step_1e4.t some v0 v1 v2 v3 v4 v5 v6 v7 = some b) : impl_Sink_step_1e4 v0 v1 v2 v3 v4 v5 v6 v7 = some b := tOf_intro impl_Sink_step_1e4.un (fun _ => by kernel_rfl) (vlim_fn (callT_le E tab) rfl rfl rfl ((impl_Sink_step_1e4.k v0 v1 v2 v3 v4 v5 v6 v7).trans ((by unfold impl_Sink_step_1e4.t; repeat' first | exact Sub.ret | exact Sub.none | exact Sub.loop | apply Sub.cond | (apply Sub.bind; intro _) : Sub impl_Sink_step_1e4.mk _ _) b h)))
noncomputable def impl_Sink_read_dfc.t {γ : Type} (ret : (Bool × (List Int) × Int × (List Int) × (List (Int × Int × List Int)) × (List Int) × Int × Int) → Option γ) (v0 : List Int) (v1 : Int) (v2 : List Int) (v3 : List (Int × Int × List Int)) (v4 : List Int) (v5 : Int) (v6 : Int) : Option γ :=
 bif v1 == (↑v0.length : Int) then
  ret (Bool.false, v0, v1, v2, v3, v4, v5, v6)
 else
  bif decide ((0 : Int) ≤ v1) then
   bif decide (v1.toNat < v0.length) then
    bif decide (v1.toNat < v0.length) then
     bif decide (v2.length + [v0.getD v1.toNat (0 : Int)].length ≤ (4294967296 : Nat)) then
      ret (Bool.true, v0, IntKind.i64.wrap (v1 + (1 : Int)), v2 ++ [v0.getD v1.toNat (0 : Int)], v3, v4, v5, v6)
     else
      none
    else
     none
   else
    none
  else
   none
theorem impl_Sink_read_dfc.k (v0 : List Int) (v1 : Int) (v2 : List Int) (v3 : List (Int × Int × List Int)) (v4 : List Int) (v5 : Int) (v6 : Int) : topL E (callT E tab) 61 Try.f61 (impl_Sink_read_dfc.c v0 v1 v2 v3 v4 v5 v6) = impl_Sink_read_dfc.t (fun b => some (impl_Sink_read_dfc.mk b)) v0 v1 v2 v3 v4 v5 v6 := by kernel_rfl
theorem impl_Sink_read_dfc.eq (v0 : List Int) (v1 : Int) (v2 : List Int) (v3 : List (Int × Int × List Int)) (v4 : List Int) (v5 : Int) (v6 : Int) {b : Bool × (List Int) × Int × (List Int) × (List (Int × Int × List Int)) × (List Int) × Int × Int} (h : impl_Sink_read_dfc.t some v0 v1 v2 v3 v4 v5 v6 = some b) : impl_Sink_read_dfc v0 v1 v2 v3 v4 v5 v6 = some b := tOf_intro impl_Sink_read_dfc.un (fun _ => by kernel_rfl) (vlim_fn (callT_le E tab) rfl rfl rfl ((impl_Sink_read_dfc.k v0 v1 v2 v3 v4 v5 v6).trans ((by unfold impl_Sink_read_dfc.t; repeat' first | exact Sub.ret | exact Sub.none | exact Sub.loop | apply Sub.cond | (apply Sub.bind; intro _) : Sub impl_Sink_read_dfc.mk _ _) b h)))
noncomputable def xi01.t {γ : Type} (ret : (Bool × (List Int) × Int × (List Int) × (List (Int × Int × List Int)) × (List Int) × Int × Int) → Option γ) (v0 : List Int) (v1 : Int) (v2 : List Int) (v3 : List (Int × Int × List Int)) (v4 : List Int) (v5 : Int) (v6 : Int) : Option γ :=
 bif (↑v2.length : Int) == (0 : Int) then
  ret (Bool.false, v0, v1, v2, v3, v4, v5, v6)
 else
  bif decide ((↑v3.length : Int) ≥ (4 : Int)) then
   ret (Bool.false, v0, v1, v2, v3, v4, v5, v6)
  else
   bif decide (IntKind.i64.wrap (v5 + (↑v3.length : Int)) ≥ (1000 : Int)) then
    ret (Bool.false, v0, v1, v2, v3, v4, v5, v6)
   else
    bif decide   (v3.length + [(IntKind.i64.wrap (IntKind.i64.wrap (v5 + (↑v3.length : Int)) + (1 : Int)), v1, v2)].length ≤     (4294967296 : Nat)) then
     ret (Bool.true, v0, v1, [], v3 ++ [(IntKind.i64.wrap (IntKind.i64.wrap (v5 + (↑v3.length : Int)) + (1 : Int)), v1, v2)], v4, v5, v6)
    else
     none
theorem xi01.k (v0 : List Int) (v1 : Int) (v2 : List Int) (v3 : List (Int × Int × List Int)) (v4 : List Int) (v5 : Int) (v6 : Int) : topL E (callT E tab) 40 Try.f40 (xi01.c v0 v1 v2 v3 v4 v5 v6) = xi01.t (fun b => some (xi01.mk b)) v0 v1 v2 v3 v4 v5 v6 := by kernel_rfl
theorem xi01.eq (v0 : List Int) (v1 : Int) (v2 : List Int) (v3 : List (Int × Int × List Int)) (v4 : List Int) (v5 : Int) (v6 : Int) {b : Bool × (List Int) × Int × (List Int) × (List (Int × Int × List Int)) × (List Int) × Int × Int} (h : xi01.t some v0 v1 v2 v3 v4 v5 v6 = some b) : xi01 v0 v1 v2 v3 v4 v5 v6 = some b := tOf_intro xi01.un (fun _ => by kernel_rfl) (vlim_fn (callT_le E tab) rfl rfl rfl ((xi01.k v0 v1 v2 v3 v4 v5 v6).trans ((by unfold xi01.t; repeat' first | exact Sub.ret | exact Sub.none | exact Sub.loop | apply Sub.cond | (apply Sub.bind; intro _) : Sub xi01.mk _ _) b h)))
noncomputable def xi03.t {γ : Type} (ret : (Bool × (List Int) × Int × (List Int) × (List (Int × Int × List Int)) × (List Int) × Int × Int) → Option γ) (v0 : List Int) (v1 : Int) (v2 : List Int) (v3 : List (Int × Int × List Int)) (v4 : List Int) (v5 : Int) (v6 : Int) : Option γ :=
 bif (↑v3.length : Int) == (0 : Int) then
  ret (Bool.false, v0, v1, v2, v3, v4, v5, v6)
 else
  bif decide (Int.toNat (0 : Int) < v3.length) then
   bif decide (Int.toNat (0 : Int) < v3.length) then
    bif decide (Int.toNat (0 : Int) < v3.length) then
     bif decide (Int.toNat (0 : Int) < v3.length) then
      bif decide   (v4.length + (v3.getD (Int.toNat (0 : Int)) ((0 : Int), (0 : Int), [])).snd.snd.length ≤ (4294967296 : Nat)) then
       bif decide ((Option.some (1 : Int)).getD (0 : Int) ≤ (↑v3.length : Int)) then
        ret (Bool.true, v0, v1, v2, List.drop ((Option.some (1 : Int)).getD (0 : Int)).toNat v3, v4 ++ (v3.getD (Int.toNat (0 : Int)) ((0 : Int), (0 : Int), [])).snd.snd, (v3.getD (Int.toNat (0 : Int)) ((0 : Int), (0 : Int), [])).fst, (v3.getD (Int.toNat (0 : Int)) ((0 : Int), (0 : Int), [])).snd.fst)
       else
        none
      else
       none
     else
      none
    else
     none
   else
    none
  else
   none
theorem xi03.k (v0 : List Int) (v1 : Int) (v2 : List Int) (v3 : List (Int × Int × List Int)) (v4 : List Int) (v5 : Int) (v6 : Int) : topL E (callT E tab) 62 Try.f62 (xi03.c v0 v1 v2 v3 v4 v5 v6) = xi03.t (fun b => some (xi03.mk b)) v0 v1 v2 v3 v4 v5 v6 := by kernel_rfl
theorem xi03.eq (v0 : List Int) (v1 : Int) (v2 : List Int) (v3 : List (Int × Int × List Int)) (v4 : List Int) (v5 : Int) (v6 : Int) {b : Bool × (List Int) × Int × (List Int) × (List (Int × Int × List Int)) × (List Int) × Int × Int} (h : xi03.t some v0 v1 v2 v3 v4 v5 v6 = some b) : xi03 v0 v1 v2 v3 v4 v5 v6 = some b := tOf_intro xi03.un (fun _ => by kernel_rfl) (vlim_fn (callT_le E tab) rfl rfl rfl ((xi03.k v0 v1 v2 v3 v4 v5 v6).trans ((by unfold xi03.t; repeat' first | exact Sub.ret | exact Sub.none | exact Sub.loop | apply Sub.cond | (apply Sub.bind; intro _) : Sub xi03.mk _ _) b h)))
end GoV

/- Equations of the program's functions (printed by wip/tools/emit.py). -/
namespace GoV
open Go Go.Proofs
set_option maxRecDepth 100000

noncomputable def spec_DrainSink.q1006 (v0 : List Int) (v1 : Int) (v2 : List Int) (v3 : List (Int × Int × List Int)) (v4 : List Int) (v5 : Int) (v6 : Int) (v7 : List Int) (v8 : Int) (v9 : List Int) (v10 : List (Int × Int × List Int)) (v11 : List Int) (v12 : Int) (v13 : Int) (v14 : Int) (v15 : Int) (v16 : Int) : Option R := loopAtL E (callT E tab) 13 Try.f13 1 [.r, .r, .r, .r, .l, .b] (nn 1 (⟨(.box false), [.d .fro (.sl (.int .i64)) v0, iL v1, .d .fro (.sl (.int .i64)) v2, .d .fro (.sl (.pair (.int .i64) (.pair (.int .i64) (.sl (.int .i64))))) v3, .d .fro (.sl (.int .i64)) v4, iL v5, iL v6], false, false, false, 0, 0⟩ :: ⟨(.box false), [.d .deep (.sl (.int .i64)) v7, iL v8, .d .deep (.sl (.int .i64)) v9, .d .deep (.sl (.pair (.int .i64) (.pair (.int .i64) (.sl (.int .i64))))) v10, .d .deep (.sl (.int .i64)) v11, iL v12, iL v13], false, false, false, 0, 0⟩ :: nn 2 (⟨(.box false), [.dead, iL v14, .dead, .dead, .dead, iL v15, iL v16], false, false, false, 0, 0⟩ :: nn 48 ([]))))
noncomputable def spec_DrainSink.l1006 (v0 : List Int) (v1 : Int) (v2 : List Int) (v3 : List (Int × Int × List Int)) (v4 : List Int) (v5 : Int) (v6 : Int) (v7 : List Int) (v8 : Int) (v9 : List Int) (v10 : List (Int × Int × List Int)) (v11 : List Int) (v12 : Int) (v13 : Int) (v14 : Int) (v15 : Int) (v16 : Int) : Option ((List Int) × Int × (List Int) × (List (Int × Int × List Int)) × (List Int) × Int × Int × Int × Bool) := tOf spec_DrainSink.mk (spec_DrainSink.q1006 v0 v1 v2 v3 v4 v5 v6 v7 v8 v9 v10 v11 v12 v13 v14 v15 v16)
noncomputable def spec_DrainSink.q6 (v0 : List Int) (v1 : Int) (v2 : List Int) (v3 : List (Int × Int × List Int)) (v4 : List Int) (v5 : Int) (v6 : Int) (v7 : List Int) (v8 : Int) (v9 : List Int) (v10 : List (Int × Int × List Int)) (v11 : List Int) (v12 : Int) (v13 : Int) (v14 : List Int) (v15 : Int) (v16 : List Int) (v17 : List (Int × Int × List Int)) (v18 : List Int) (v19 : Int) (v20 : Int) : Option R := loopAtL E (callT E tab) 13 Try.f13 1 [.r, .r, .r, .r, .l, .b] (nn 1 (⟨(.box false), [.d .fro (.sl (.int .i64)) v0, iL v1, .d .fro (.sl (.int .i64)) v2, .d .fro (.sl (.pair (.int .i64) (.pair (.int .i64) (.sl (.int .i64))))) v3, .d .fro (.sl (.int .i64)) v4, iL v5, iL v6], false, false, false, 0, 0⟩ :: ⟨(.box false), [.d .deep (.sl (.int .i64)) v7, iL v8, .d .deep (.sl (.int .i64)) v9, .d .deep (.sl (.pair (.int .i64) (.pair (.int .i64) (.sl (.int .i64))))) v10, .d .deep (.sl (.int .i64)) v11, iL v12, iL v13], false, false, false, 0, 0⟩ :: nn 2 (⟨(.box false), [.d .deep (.sl (.int .i64)) v14, iL v15, .d .deep (.sl (.int .i64)) v16, .d .deep (.sl (.pair (.int .i64) (.pair (.int .i64) (.sl (.int .i64))))) v17, .d .deep (.sl (.int .i64)) v18, iL v19, iL v20], false, false, false, 0, 0⟩ :: nn 48 ([]))))
noncomputable def spec_DrainSink.l6 (v0 : List Int) (v1 : Int) (v2 : List Int) (v3 : List (Int × Int × List Int)) (v4 : List Int) (v5 : Int) (v6 : Int) (v7 : List Int) (v8 : Int) (v9 : List Int) (v10 : List (Int × Int × List Int)) (v11 : List Int) (v12 : Int) (v13 : Int) (v14 : List Int) (v15 : Int) (v16 : List Int) (v17 : List (Int × Int × List Int)) (v18 : List Int) (v19 : Int) (v20 : Int) : Option ((List Int) × Int × (List Int) × (List (Int × Int × List Int)) × (List Int) × Int × Int × Int × Bool) := tOf spec_DrainSink.mk (spec_DrainSink.q6 v0 v1 v2 v3 v4 v5 v6 v7 v8 v9 v10 v11 v12 v13 v14 v15 v16 v17 v18 v19 v20)
noncomputable def spec_DrainSink.t {γ : Type} (ret : ((List Int) × Int × (List Int) × (List (Int × Int × List Int)) × (List Int) × Int × Int × Int × Bool) → Option γ) (lp1006 : (List Int) → Int → (List Int) → (List (Int × Int × List Int)) → (List Int) → Int → Int → (List Int) → Int → (List Int) → (List (Int × Int × List Int)) → (List Int) → Int → Int → Int → Int → Int → Option γ) (lp6 : (List Int) → Int → (List Int) → (List (Int × Int × List Int)) → (List Int) → Int → Int → (List Int) → Int → (List Int) → (List (Int × Int × List Int)) → (List Int) → Int → Int → (List Int) → Int → (List Int) → (List (Int × Int × List Int)) → (List Int) → Int → Int → Option γ) (v0 : List Int) (v1 : Int) (v2 : List Int) (v3 : List (Int × Int × List Int)) (v4 : List Int) (v5 : Int) (v6 : Int) : Option γ :=
 (spec_GoodSink (v0) (v1) (v2) (v3) (v4) (v5) (v6)).bind fun (r0 : Bool) =>
 bif !r0 then
  ret ([], (0 : Int), [], [], [], (0 : Int), (0 : Int), (0 : Int), Bool.false)
 else
  (spec_l16Own (v0) (v1) (v2) (v3) (v4) (v5) (v6)).bind fun (r1 : (List Int) × Int × (List Int) × (List (Int × Int × List Int)) × (List Int) × Int × Int) =>
  bif (↑r1.snd.snd.snd.fst.length : Int) == (4 : Int) then
   (spec_l16Commit_5b7 (r1.fst) (r1.snd.fst) (r1.snd.snd.fst) (r1.snd.snd.snd.fst) (r1.snd.snd.snd.snd.fst) (r1.snd.snd.snd.snd.snd.fst) (r1.snd.snd.snd.snd.snd.snd)).bind fun (r2 : (List Int) × Int × (List Int) × (List (Int × Int × List Int)) × (List Int) × Int × Int × Int) =>
   lp6 (v0) (v1) (v2) (v3) (v4) (v5) (v6) ([]) ((0 : Int)) ([]) ([]) ([]) ((0 : Int)) ((0 : Int)) (r2.fst) (r2.snd.fst) (r2.snd.snd.fst) (r2.snd.snd.snd.fst) (r2.snd.snd.snd.snd.fst) (r2.snd.snd.snd.snd.snd.fst) (r2.snd.snd.snd.snd.snd.snd.fst)
  else
   lp6 (v0) (v1) (v2) (v3) (v4) (v5) (v6) ([]) ((0 : Int)) ([]) ([]) ([]) ((0 : Int)) ((0 : Int)) (r1.fst) (r1.snd.fst) (r1.snd.snd.fst) (r1.snd.snd.snd.fst) (r1.snd.snd.snd.snd.fst) (r1.snd.snd.snd.snd.snd.fst) (r1.snd.snd.snd.snd.snd.snd)
noncomputable def spec_DrainSink.t1006 {γ : Type} (ret : ((List Int) × Int × (List Int) × (List (Int × Int × List Int)) × (List Int) × Int × Int × Int × Bool) → Option γ) (lp1006 : (List Int) → Int → (List Int) → (List (Int × Int × List Int)) → (List Int) → Int → Int → (List Int) → Int → (List Int) → (List (Int × Int × List Int)) → (List Int) → Int → Int → Int → Int → Int → Option γ) (lp6 : (List Int) → Int → (List Int) → (List (Int × Int × List Int)) → (List Int) → Int → Int → (List Int) → Int → (List Int) → (List (Int × Int × List Int)) → (List Int) → Int → Int → (List Int) → Int → (List Int) → (List (Int × Int × List Int)) → (List Int) → Int → Int → Option γ) (v0 : List Int) (v1 : Int) (v2 : List Int) (v3 : List (Int × Int × List Int)) (v4 : List Int) (v5 : Int) (v6 : Int) (v7 : List Int) (v8 : Int) (v9 : List Int) (v10 : List (Int × Int × List Int)) (v11 : List Int) (v12 : Int) (v13 : Int) (v14 : Int) (v15 : Int) (v16 : Int) : Option γ :=
 none
noncomputable def spec_DrainSink.t6 {γ : Type} (ret : ((List Int) × Int × (List Int) × (List (Int × Int × List Int)) × (List Int) × Int × Int × Int × Bool) → Option γ) (lp1006 : (List Int) → Int → (List Int) → (List (Int × Int × List Int)) → (List Int) → Int → Int → (List Int) → Int → (List Int) → (List (Int × Int × List Int)) → (List Int) → Int → Int → Int → Int → Int → Option γ) (lp6 : (List Int) → Int → (List Int) → (List (Int × Int × List Int)) → (List Int) → Int → Int → (List Int) → Int → (List Int) → (List (Int × Int × List Int)) → (List Int) → Int → Int → (List Int) → Int → (List Int) → (List (Int × Int × List Int)) → (List Int) → Int → Int → Option γ) (v0 : List Int) (v1 : Int) (v2 : List Int) (v3 : List (Int × Int × List Int)) (v4 : List Int) (v5 : Int) (v6 : Int) (v7 : List Int) (v8 : Int) (v9 : List Int) (v10 : List (Int × Int × List Int)) (v11 : List Int) (v12 : Int) (v13 : Int) (v14 : List Int) (v15 : Int) (v16 : List Int) (v17 : List (Int × Int × List Int)) (v18 : List Int) (v19 : Int) (v20 : Int) : Option γ :=
 (spec_l16Step_3ad (v14) (v15) (v16) (v17) (v18) (v19) (v20) ((1 : Int))).bind fun (r3 : (Int × Int × Int × Bool × (List Int) × Int × (List Int) × (List (Int × Int × List Int)) × (List Int) × Int × Int) ⊕ ((List Int) × Int × (List Int) × (List (Int × Int × List Int)) × (List Int) × Int × Int × Bool × Int × Int × Int)) =>
 bif r3.isLeft then
  bif !(inL r3 ((0 : Int), (0 : Int), (0 : Int), Bool.false, [], (0 : Int), [], [], [], (0 : Int), (0 : Int))).snd.snd.snd.fst then
   (spec_l16Step_3ad ((inL r3 ((0 : Int), (0 : Int), (0 : Int), Bool.false, [], (0 : Int), [], [], [], (0 : Int), (0 : Int))).snd.snd.snd.snd.fst) (v15) ((inL r3 ((0 : Int), (0 : Int), (0 : Int), Bool.false, [], (0 : Int), [], [], [], (0 : Int), (0 : Int))).snd.snd.snd.snd.snd.snd.fst) ((inL r3 ((0 : Int), (0 : Int), (0 : Int), Bool.false, [], (0 : Int), [], [], [], (0 : Int), (0 : Int))).snd.snd.snd.snd.snd.snd.snd.fst) ((inL r3 ((0 : Int), (0 : Int), (0 : Int), Bool.false, [], (0 : Int), [], [], [], (0 : Int), (0 : Int))).snd.snd.snd.snd.snd.snd.snd.snd.fst) (v19) (v20) ((2 : Int))).bind fun (r4 : (Int × Int × Int × Bool × (List Int) × Int × (List Int) × (List (Int × Int × List Int)) × (List Int) × Int × Int) ⊕ ((List Int) × Int × (List Int) × (List (Int × Int × List Int)) × (List Int) × Int × Int × Bool × Int × Int × Int)) =>
   bif r4.isLeft then
    bif (inL r4 ((0 : Int), (0 : Int), (0 : Int), Bool.false, [], (0 : Int), [], [], [], (0 : Int), (0 : Int))).snd.snd.snd.fst then
     none
    else
     (spec_l16Commit_5b7 ((inL r4 ((0 : Int), (0 : Int), (0 : Int), Bool.false, [], (0 : Int), [], [], [], (0 : Int), (0 : Int))).snd.snd.snd.snd.fst) (v15) ((inL r4 ((0 : Int), (0 : Int), (0 : Int), Bool.false, [], (0 : Int), [], [], [], (0 : Int), (0 : Int))).snd.snd.snd.snd.snd.snd.fst) ((inL r4 ((0 : Int), (0 : Int), (0 : Int), Bool.false, [], (0 : Int), [], [], [], (0 : Int), (0 : Int))).snd.snd.snd.snd.snd.snd.snd.fst) ((inL r4 ((0 : Int), (0 : Int), (0 : Int), Bool.false, [], (0 : Int), [], [], [], (0 : Int), (0 : Int))).snd.snd.snd.snd.snd.snd.snd.snd.fst) (v19) (v20)).bind fun (r5 : (List Int) × Int × (List Int) × (List (Int × Int × List Int)) × (List Int) × Int × Int × Int) =>
     (spec_l16Own (r5.fst) (r5.snd.fst) (r5.snd.snd.fst) (r5.snd.snd.snd.fst) (r5.snd.snd.snd.snd.fst) (r5.snd.snd.snd.snd.snd.fst) (r5.snd.snd.snd.snd.snd.snd.fst)).bind fun (r6 : (List Int) × Int × (List Int) × (List (Int × Int × List Int)) × (List Int) × Int × Int) =>
     ret (r6.fst, r6.snd.fst, r6.snd.snd.fst, r6.snd.snd.snd.fst, r6.snd.snd.snd.snd.fst, r6.snd.snd.snd.snd.snd.fst, r6.snd.snd.snd.snd.snd.snd, IntKind.i64.wrap ((↑r5.snd.snd.snd.snd.fst.length : Int) - (↑v4.length : Int)), Bool.true)
   else
    bif (inR r4 ([], (0 : Int), [], [], [], (0 : Int), (0 : Int), Bool.false, (0 : Int), (0 : Int), (0 : Int))).snd.snd.snd.snd.snd.snd.snd.fst then
     (spec_l16Commit_5b7 ((inR r4 ([], (0 : Int), [], [], [], (0 : Int), (0 : Int), Bool.false, (0 : Int), (0 : Int), (0 : Int))).fst) ((inR r4 ([], (0 : Int), [], [], [], (0 : Int), (0 : Int), Bool.false, (0 : Int), (0 : Int), (0 : Int))).snd.fst) ((inR r4 ([], (0 : Int), [], [], [], (0 : Int), (0 : Int), Bool.false, (0 : Int), (0 : Int), (0 : Int))).snd.snd.fst) ((inR r4 ([], (0 : Int), [], [], [], (0 : Int), (0 : Int), Bool.false, (0 : Int), (0 : Int), (0 : Int))).snd.snd.snd.fst) ((inR r4 ([], (0 : Int), [], [], [], (0 : Int), (0 : Int), Bool.false, (0 : Int), (0 : Int), (0 : Int))).snd.snd.snd.snd.fst) ((inR r4 ([], (0 : Int), [], [], [], (0 : Int), (0 : Int), Bool.false, (0 : Int), (0 : Int), (0 : Int))).snd.snd.snd.snd.snd.fst) ((inR r4 ([], (0 : Int), [], [], [], (0 : Int), (0 : Int), Bool.false, (0 : Int), (0 : Int), (0 : Int))).snd.snd.snd.snd.snd.snd.fst)).bind fun (r7 : (List Int) × Int × (List Int) × (List (Int × Int × List Int)) × (List Int) × Int × Int × Int) =>
     (spec_l16Own (r7.fst) (r7.snd.fst) (r7.snd.snd.fst) (r7.snd.snd.snd.fst) (r7.snd.snd.snd.snd.fst) (r7.snd.snd.snd.snd.snd.fst) (r7.snd.snd.snd.snd.snd.snd.fst)).bind fun (r8 : (List Int) × Int × (List Int) × (List (Int × Int × List Int)) × (List Int) × Int × Int) =>
     ret (r8.fst, r8.snd.fst, r8.snd.snd.fst, r8.snd.snd.snd.fst, r8.snd.snd.snd.snd.fst, r8.snd.snd.snd.snd.snd.fst, r8.snd.snd.snd.snd.snd.snd, IntKind.i64.wrap ((↑r7.snd.snd.snd.snd.fst.length : Int) - (↑v4.length : Int)), Bool.true)
    else
     none
  else
   lp1006 (v0) (v1) (v2) (v3) (v4) (v5) (v6) (v7) (v8) (v9) (v10) (v11) (v12) (v13) ((inL r3 ((0 : Int), (0 : Int), (0 : Int), Bool.false, [], (0 : Int), [], [], [], (0 : Int), (0 : Int))).fst) ((inL r3 ((0 : Int), (0 : Int), (0 : Int), Bool.false, [], (0 : Int), [], [], [], (0 : Int), (0 : Int))).snd.fst) ((inL r3 ((0 : Int), (0 : Int), (0 : Int), Bool.false, [], (0 : Int), [], [], [], (0 : Int), (0 : Int))).snd.snd.fst)
 else
  bif !(inR r3 ([], (0 : Int), [], [], [], (0 : Int), (0 : Int), Bool.false, (0 : Int), (0 : Int), (0 : Int))).snd.snd.snd.snd.snd.snd.snd.fst then
   none
  else
   lp6 (v0) (v1) (v2) (v3) (v4) (v5) (v6) (v7) (v8) (v9) (v10) (v11) (v12) (v13) ((inR r3 ([], (0 : Int), [], [], [], (0 : Int), (0 : Int), Bool.false, (0 : Int), (0 : Int), (0 : Int))).fst) ((inR r3 ([], (0 : Int), [], [], [], (0 : Int), (0 : Int), Bool.false, (0 : Int), (0 : Int), (0 : Int))).snd.fst) ((inR r3 ([], (0 : Int), [], [], [], (0 : Int), (0 : Int), Bool.false, (0 : Int), (0 : Int), (0 : Int))).snd.snd.fst) ((inR r3 ([], (0 : Int), [], [], [], (0 : Int), (0 : Int), Bool.false, (0 : Int), (0 : Int), (0 : Int))).snd.snd.snd.fst) ((inR r3 ([], (0 : Int), [], [], [], (0 : Int), (0 : Int), Bool.false, (0 : Int), (0 : Int), (0 : Int))).snd.snd.snd.snd.fst) ((inR r3 ([], (0 : Int), [], [], [], (0 : Int), (0 : Int), Bool.false, (0 : Int), (0 : Int), (0 : Int))).snd.snd.snd.snd.snd.fst) ((inR r3 ([], (0 : Int), [], [], [], (0 : Int), (0 : Int), Bool.false, (0 : Int), (0 : Int), (0 : Int))).snd.snd.snd.snd.snd.snd.fst)
theorem spec_DrainSink.k (v0 : List Int) (v1 : Int) (v2 : List Int) (v3 : List (Int × Int × List Int)) (v4 : List Int) (v5 : Int) (v6 : Int) : topL E (callT E tab) 13 Try.f13 (spec_DrainSink.c v0 v1 v2 v3 v4 v5 v6) = spec_DrainSink.t (fun b => some (spec_DrainSink.mk b)) spec_DrainSink.q1006 spec_DrainSink.q6 v0 v1 v2 v3 v4 v5 v6 := by kernel_rfl
theorem spec_DrainSink.k1006 (v0 : List Int) (v1 : Int) (v2 : List Int) (v3 : List (Int × Int × List Int)) (v4 : List Int) (v5 : Int) (v6 : Int) (v7 : List Int) (v8 : Int) (v9 : List Int) (v10 : List (Int × Int × List Int)) (v11 : List Int) (v12 : Int) (v13 : Int) (v14 : Int) (v15 : Int) (v16 : Int) : roundL E (callT E tab) 13 Try.f13 1 [.r, .r, .r, .r, .l, .b] (nn 1 (⟨(.box false), [.d .fro (.sl (.int .i64)) v0, iL v1, .d .fro (.sl (.int .i64)) v2, .d .fro (.sl (.pair (.int .i64) (.pair (.int .i64) (.sl (.int .i64))))) v3, .d .fro (.sl (.int .i64)) v4, iL v5, iL v6], false, false, false, 0, 0⟩ :: ⟨(.box false), [.d .deep (.sl (.int .i64)) v7, iL v8, .d .deep (.sl (.int .i64)) v9, .d .deep (.sl (.pair (.int .i64) (.pair (.int .i64) (.sl (.int .i64))))) v10, .d .deep (.sl (.int .i64)) v11, iL v12, iL v13], false, false, false, 0, 0⟩ :: nn 2 (⟨(.box false), [.dead, iL v14, .dead, .dead, .dead, iL v15, iL v16], false, false, false, 0, 0⟩ :: nn 48 ([])))) = spec_DrainSink.t1006 (fun b => some (spec_DrainSink.mk b)) spec_DrainSink.q1006 spec_DrainSink.q6 v0 v1 v2 v3 v4 v5 v6 v7 v8 v9 v10 v11 v12 v13 v14 v15 v16 := by kernel_rfl
theorem spec_DrainSink.k6 (v0 : List Int) (v1 : Int) (v2 : List Int) (v3 : List (Int × Int × List Int)) (v4 : List Int) (v5 : Int) (v6 : Int) (v7 : List Int) (v8 : Int) (v9 : List Int) (v10 : List (Int × Int × List Int)) (v11 : List Int) (v12 : Int) (v13 : Int) (v14 : List Int) (v15 : Int) (v16 : List Int) (v17 : List (Int × Int × List Int)) (v18 : List Int) (v19 : Int) (v20 : Int) : roundL E (callT E tab) 13 Try.f13 1 [.r, .r, .r, .r, .l, .b] (nn 1 (⟨(.box false), [.d .fro (.sl (.int .i64)) v0, iL v1, .d .fro (.sl (.int .i64)) v2, .d .fro (.sl (.pair (.int .i64) (.pair (.int .i64) (.sl (.int .i64))))) v3, .d .fro (.sl (.int .i64)) v4, iL v5, iL v6], false, false, false, 0, 0⟩ :: ⟨(.box false), [.d .deep (.sl (.int .i64)) v7, iL v8, .d .deep (.sl (.int .i64)) v9, .d .deep (.sl (.pair (.int .i64) (.pair (.int .i64) (.sl (.int .i64))))) v10, .d .deep (.sl (.int .i64)) v11, iL v12, iL v13], false, false, false, 0, 0⟩ :: nn 2 (⟨(.box false), [.d .deep (.sl (.int .i64)) v14, iL v15, .d .deep (.sl (.int .i64)) v16, .d .deep (.sl (.pair (.int .i64) (.pair (.int .i64) (.sl (.int .i64))))) v17, .d .deep (.sl (.int .i64)) v18, iL v19, iL v20], false, false, false, 0, 0⟩ :: nn 48 ([])))) = spec_DrainSink.t6 (fun b => some (spec_DrainSink.mk b)) spec_DrainSink.q1006 spec_DrainSink.q6 v0 v1 v2 v3 v4 v5 v6 v7 v8 v9 v10 v11 v12 v13 v14 v15 v16 v17 v18 v19 v20 := by kernel_rfl
theorem spec_DrainSink.eq (v0 : List Int) (v1 : Int) (v2 : List Int) (v3 : List (Int × Int × List Int)) (v4 : List Int) (v5 : Int) (v6 : Int) {b : (List Int) × Int × (List Int) × (List (Int × Int × List Int)) × (List Int) × Int × Int × Int × Bool} (h : spec_DrainSink.t some spec_DrainSink.l1006 spec_DrainSink.l6 v0 v1 v2 v3 v4 v5 v6 = some b) : spec_DrainSink v0 v1 v2 v3 v4 v5 v6 = some b := tOf_intro spec_DrainSink.un (fun _ => by kernel_rfl) (vlim_fn (callT_le E tab) rfl rfl rfl ((spec_DrainSink.k v0 v1 v2 v3 v4 v5 v6).trans ((by unfold spec_DrainSink.t; repeat' first | exact Sub.ret | exact Sub.none | exact Sub.loop | apply Sub.cond | (apply Sub.bind; intro _) : Sub spec_DrainSink.mk _ _) b h)))
theorem spec_DrainSink.eq1006 (v0 : List Int) (v1 : Int) (v2 : List Int) (v3 : List (Int × Int × List Int)) (v4 : List Int) (v5 : Int) (v6 : Int) (v7 : List Int) (v8 : Int) (v9 : List Int) (v10 : List (Int × Int × List Int)) (v11 : List Int) (v12 : Int) (v13 : Int) (v14 : Int) (v15 : Int) (v16 : Int) {b : (List Int) × Int × (List Int) × (List (Int × Int × List Int)) × (List Int) × Int × Int × Int × Bool} (h : spec_DrainSink.t1006 some spec_DrainSink.l1006 spec_DrainSink.l6 v0 v1 v2 v3 v4 v5 v6 v7 v8 v9 v10 v11 v12 v13 v14 v15 v16 = some b) : spec_DrainSink.l1006 v0 v1 v2 v3 v4 v5 v6 v7 v8 v9 v10 v11 v12 v13 v14 v15 v16 = some b := tOf_intro spec_DrainSink.un (fun _ => by kernel_rfl) (loopAtL_step ((spec_DrainSink.k1006 v0 v1 v2 v3 v4 v5 v6 v7 v8 v9 v10 v11 v12 v13 v14 v15 v16).trans ((by unfold spec_DrainSink.t1006; repeat' first | exact Sub.ret | exact Sub.none | exact Sub.loop | apply Sub.cond | (apply Sub.bind; intro _) : Sub spec_DrainSink.mk _ _) b h)))
theorem spec_DrainSink.eq6 (v0 : List Int) (v1 : Int) (v2 : List Int) (v3 : List (Int × Int × List Int)) (v4 : List Int) (v5 : Int) (v6 : Int) (v7 : List Int) (v8 : Int) (v9 : List Int) (v10 : List (Int × Int × List Int)) (v11 : List Int) (v12 : Int) (v13 : Int) (v14 : List Int) (v15 : Int) (v16 : List Int) (v17 : List (Int × Int × List Int)) (v18 : List Int) (v19 : Int) (v20 : Int) {b : (List Int) × Int × (List Int) × (List (Int × Int × List Int)) × (List Int) × Int × Int × Int × Bool} (h : spec_DrainSink.t6 some spec_DrainSink.l1006 spec_DrainSink.l6 v0 v1 v2 v3 v4 v5 v6 v7 v8 v9 v10 v11 v12 v13 v14 v15 v16 v17 v18 v19 v20 = some b) : spec_DrainSink.l6 v0 v1 v2 v3 v4 v5 v6 v7 v8 v9 v10 v11 v12 v13 v14 v15 v16 v17 v18 v19 v20 = some b := tOf_intro spec_DrainSink.un (fun _ => by kernel_rfl) (loopAtL_step ((spec_DrainSink.k6 v0 v1 v2 v3 v4 v5 v6 v7 v8 v9 v10 v11 v12 v13 v14 v15 v16 v17 v18 v19 v20).trans ((by unfold spec_DrainSink.t6; repeat' first | exact Sub.ret | exact Sub.none | exact Sub.loop | apply Sub.cond | (apply Sub.bind; intro _) : Sub spec_DrainSink.mk _ _) b h)))
noncomputable def impl_DrainSink.t {γ : Type} (ret : ((List Int) × Int × (List Int) × (List (Int × Int × List Int)) × (List Int) × Int × Int × Int × Bool) → Option γ) (v0 : List Int) (v1 : Int) (v2 : List Int) (v3 : List (Int × Int × List Int)) (v4 : List Int) (v5 : Int) (v6 : Int) : Option γ :=
 (impl_GoodSink (v0) (v1) (v2) (v3) (v4) (v5) (v6)).bind fun (r0 : Bool) =>
 bif !r0 then
  ret ([], (0 : Int), [], [], [], (0 : Int), (0 : Int), (0 : Int), Bool.false)
 else
  (impl_Sink_own (v0) (v1) (v2) (v3) (v4) (v5) (v6)).bind fun (r1 : (List Int) × Int × (List Int) × (List (Int × Int × List Int)) × (List Int) × Int × Int) =>
  bif (↑r1.snd.snd.snd.fst.length : Int) == (4 : Int) then
   (xi08 (r1.fst) (r1.snd.fst) (r1.snd.snd.fst) (r1.snd.snd.snd.fst) (r1.snd.snd.snd.snd.fst) (r1.snd.snd.snd.snd.snd.fst) (r1.snd.snd.snd.snd.snd.snd) ((3 : Int))).bind fun (r2 : Int × (List Int) × Int × (List Int) × (List (Int × Int × List Int)) × (List Int) × Int × Int) =>
   (xi08 (r2.snd.fst) (r2.snd.snd.fst) (r2.snd.snd.snd.fst) (r2.snd.snd.snd.snd.fst) (r2.snd.snd.snd.snd.snd.fst) (r2.snd.snd.snd.snd.snd.snd.fst) (r2.snd.snd.snd.snd.snd.snd.snd) ((1 : Int))).bind fun (r3 : Int × (List Int) × Int × (List Int) × (List (Int × Int × List Int)) × (List Int) × Int × Int) =>
   (xi01 (r3.snd.fst) (r3.snd.snd.fst) (r3.snd.snd.snd.fst) (r3.snd.snd.snd.snd.fst) (r3.snd.snd.snd.snd.snd.fst) (r3.snd.snd.snd.snd.snd.snd.fst) (r3.snd.snd.snd.snd.snd.snd.snd)).bind fun (r4 : Bool × (List Int) × Int × (List Int) × (List (Int × Int × List Int)) × (List Int) × Int × Int) =>
   (xi08 (r4.snd.fst) (r4.snd.snd.fst) (r4.snd.snd.snd.fst) (r4.snd.snd.snd.snd.fst) (r4.snd.snd.snd.snd.snd.fst) (r4.snd.snd.snd.snd.snd.snd.fst) (r4.snd.snd.snd.snd.snd.snd.snd) ((3 : Int))).bind fun (r5 : Int × (List Int) × Int × (List Int) × (List (Int × Int × List Int)) × (List Int) × Int × Int) =>
   (impl_Sink_own (r5.snd.fst) (r5.snd.snd.fst) (r5.snd.snd.snd.fst) (r5.snd.snd.snd.snd.fst) (r5.snd.snd.snd.snd.snd.fst) (r5.snd.snd.snd.snd.snd.snd.fst) (r5.snd.snd.snd.snd.snd.snd.snd)).bind fun (r6 : (List Int) × Int × (List Int) × (List (Int × Int × List Int)) × (List Int) × Int × Int) =>
   ret (r6.fst, r6.snd.fst, r6.snd.snd.fst, r6.snd.snd.snd.fst, r6.snd.snd.snd.snd.fst, r6.snd.snd.snd.snd.snd.fst, r6.snd.snd.snd.snd.snd.snd, IntKind.i64.wrap ((↑r5.snd.snd.snd.snd.snd.fst.length : Int) - (↑v4.length : Int)), Bool.true)
  else
   (xi08 (r1.fst) (r1.snd.fst) (r1.snd.snd.fst) (r1.snd.snd.snd.fst) (r1.snd.snd.snd.snd.fst) (r1.snd.snd.snd.snd.snd.fst) (r1.snd.snd.snd.snd.snd.snd) ((1 : Int))).bind fun (r7 : Int × (List Int) × Int × (List Int) × (List (Int × Int × List Int)) × (List Int) × Int × Int) =>
   (xi01 (r7.snd.fst) (r7.snd.snd.fst) (r7.snd.snd.snd.fst) (r7.snd.snd.snd.snd.fst) (r7.snd.snd.snd.snd.snd.fst) (r7.snd.snd.snd.snd.snd.snd.fst) (r7.snd.snd.snd.snd.snd.snd.snd)).bind fun (r8 : Bool × (List Int) × Int × (List Int) × (List (Int × Int × List Int)) × (List Int) × Int × Int) =>
   (xi08 (r8.snd.fst) (r8.snd.snd.fst) (r8.snd.snd.snd.fst) (r8.snd.snd.snd.snd.fst) (r8.snd.snd.snd.snd.snd.fst) (r8.snd.snd.snd.snd.snd.snd.fst) (r8.snd.snd.snd.snd.snd.snd.snd) ((3 : Int))).bind fun (r9 : Int × (List Int) × Int × (List Int) × (List (Int × Int × List Int)) × (List Int) × Int × Int) =>
   (impl_Sink_own (r9.snd.fst) (r9.snd.snd.fst) (r9.snd.snd.snd.fst) (r9.snd.snd.snd.snd.fst) (r9.snd.snd.snd.snd.snd.fst) (r9.snd.snd.snd.snd.snd.snd.fst) (r9.snd.snd.snd.snd.snd.snd.snd)).bind fun (r10 : (List Int) × Int × (List Int) × (List (Int × Int × List Int)) × (List Int) × Int × Int) =>
   ret (r10.fst, r10.snd.fst, r10.snd.snd.fst, r10.snd.snd.snd.fst, r10.snd.snd.snd.snd.fst, r10.snd.snd.snd.snd.snd.fst, r10.snd.snd.snd.snd.snd.snd, IntKind.i64.wrap ((↑r9.snd.snd.snd.snd.snd.fst.length : Int) - (↑v4.length : Int)), Bool.true)
theorem impl_DrainSink.k (v0 : List Int) (v1 : Int) (v2 : List Int) (v3 : List (Int × Int × List Int)) (v4 : List Int) (v5 : Int) (v6 : Int) : topL E (callT E tab) 14 Try.f14 (impl_DrainSink.c v0 v1 v2 v3 v4 v5 v6) = impl_DrainSink.t (fun b => some (impl_DrainSink.mk b)) v0 v1 v2 v3 v4 v5 v6 := by kernel_rfl
theorem impl_DrainSink.eq (v0 : List Int) (v1 : Int) (v2 : List Int) (v3 : List (Int × Int × List Int)) (v4 : List Int) (v5 : Int) (v6 : Int) {b : (List Int) × Int × (List Int) × (List (Int × Int × List Int)) × (List Int) × Int × Int × Int × Bool} (h : impl_DrainSink.t some v0 v1 v2 v3 v4 v5 v6 = some b) : impl_DrainSink v0 v1 v2 v3 v4 v5 v6 = some b := tOf_intro impl_DrainSink.un (fun _ => by kernel_rfl) (vlim_fn (callT_le E tab) rfl rfl rfl ((impl_DrainSink.k v0 v1 v2 v3 v4 v5 v6).trans ((by unfold impl_DrainSink.t; repeat' first | exact Sub.ret | exact Sub.none | exact Sub.loop | apply Sub.cond | (apply Sub.bind; intro _) : Sub impl_DrainSink.mk _ _) b h)))
noncomputable def laws_FnSinkSteps.t {γ : Type} (ret : (Bool) → Option γ) (v0 : List Int) (v1 : List Int) : Option γ :=
 bif decide (IntKind.i64.wrap ((↑v0.length : Int) + (↑v1.length : Int)) > (1048576 : Int)) then
  ret (Bool.true)
 else
  (spec_DrawStepSink (v0)).bind fun (r0 : (List Int) × Int × (List Int) × (List (Int × Int × List Int)) × (List Int) × Int × Int × Int) =>
  (impl_StepSink (r0.fst) (r0.snd.fst) (r0.snd.snd.fst) (r0.snd.snd.snd.fst) (r0.snd.snd.snd.snd.fst) (r0.snd.snd.snd.snd.snd.fst) (r0.snd.snd.snd.snd.snd.snd.fst) (r0.snd.snd.snd.snd.snd.snd.snd)).bind fun (r1 : (List Int) × Int × (List Int) × (List (Int × Int × List Int)) × (List Int) × Int × Int × Bool) =>
  (spec_StepSink (r0.fst) (r0.snd.fst) (r0.snd.snd.fst) (r0.snd.snd.snd.fst) (r0.snd.snd.snd.snd.fst) (r0.snd.snd.snd.snd.snd.fst) (r0.snd.snd.snd.snd.snd.snd.fst) (r0.snd.snd.snd.snd.snd.snd.snd)).bind fun (r2 : (List Int) × Int × (List Int) × (List (Int × Int × List Int)) × (List Int) × Int × Int × Bool) =>
  bif !r1.snd.snd.snd.snd.snd.snd.snd == r2.snd.snd.snd.snd.snd.snd.snd then
   ret (Bool.false)
  else
   (laws_sameSinks (r1.fst) (r1.snd.fst) (r1.snd.snd.fst) (r1.snd.snd.snd.fst) (r1.snd.snd.snd.snd.fst) (r1.snd.snd.snd.snd.snd.fst) (r1.snd.snd.snd.snd.snd.snd.fst) (r2.fst) (r2.snd.fst) (r2.snd.snd.fst) (r2.snd.snd.snd.fst) (r2.snd.snd.snd.snd.fst) (r2.snd.snd.snd.snd.snd.fst) (r2.snd.snd.snd.snd.snd.snd.fst)).bind fun (r3 : Bool) =>
   bif !r3 then
    ret (Bool.false)
   else
    (impl_GoodSink (r0.fst) (r0.snd.fst) (r0.snd.snd.fst) (r0.snd.snd.snd.fst) (r0.snd.snd.snd.snd.fst) (r0.snd.snd.snd.snd.snd.fst) (r0.snd.snd.snd.snd.snd.snd.fst)).bind fun (r4 : Bool) =>
    (spec_GoodSink (r0.fst) (r0.snd.fst) (r0.snd.snd.fst) (r0.snd.snd.snd.fst) (r0.snd.snd.snd.snd.fst) (r0.snd.snd.snd.snd.snd.fst) (r0.snd.snd.snd.snd.snd.snd.fst)).bind fun (r5 : Bool) =>
    bif !r4 == r5 then
     ret (Bool.false)
    else
     bif r1.snd.snd.snd.snd.snd.snd.snd then
      bif decide ((↑r1.snd.snd.snd.snd.fst.length : Int) < (↑r0.snd.snd.snd.snd.fst.length : Int)) then
       ret (Bool.false)
      else
       bif decide ((↑r0.snd.snd.snd.snd.fst.length : Int) ≤ (↑r1.snd.snd.snd.snd.fst.length : Int)) then
        (laws_sameInts (List.take ((↑r0.snd.snd.snd.snd.fst.length : Int) - Option.none.getD (0 : Int)).toNat   (List.drop (Option.none.getD (0 : Int)).toNat r1.snd.snd.snd.snd.fst)) (r0.snd.snd.snd.snd.fst)).bind fun (r6 : Bool) =>
        bif !r6 then
         ret (Bool.false)
        else
         bif decide (r1.snd.snd.snd.snd.snd.fst < r0.snd.snd.snd.snd.snd.fst) then
          ret (Bool.false)
         else
          (impl_GoodSink (r1.fst) (r1.snd.fst) (r1.snd.snd.fst) (r1.snd.snd.snd.fst) (r1.snd.snd.snd.snd.fst) (r1.snd.snd.snd.snd.snd.fst) (r1.snd.snd.snd.snd.snd.snd.fst)).bind fun (r7 : Bool) =>
          bif !r7 then
           ret (Bool.false)
          else
           (spec_DrawDrainSink (v1)).bind fun (r8 : (List Int) × Int × (List Int) × (List (Int × Int × List Int)) × (List Int) × Int × Int) =>
           (impl_DrainSink (r8.fst) (r8.snd.fst) (r8.snd.snd.fst) (r8.snd.snd.snd.fst) (r8.snd.snd.snd.snd.fst) (r8.snd.snd.snd.snd.snd.fst) (r8.snd.snd.snd.snd.snd.snd)).bind fun (r9 : (List Int) × Int × (List Int) × (List (Int × Int × List Int)) × (List Int) × Int × Int × Int × Bool) =>
           (spec_DrainSink (r8.fst) (r8.snd.fst) (r8.snd.snd.fst) (r8.snd.snd.snd.fst) (r8.snd.snd.snd.snd.fst) (r8.snd.snd.snd.snd.snd.fst) (r8.snd.snd.snd.snd.snd.snd)).bind fun (r10 : (List Int) × Int × (List Int) × (List (Int × Int × List Int)) × (List Int) × Int × Int × Int × Bool) =>
           bif !r9.snd.snd.snd.snd.snd.snd.snd.snd == r10.snd.snd.snd.snd.snd.snd.snd.snd then
            ret (Bool.false)
           else
            bif r9.snd.snd.snd.snd.snd.snd.snd.fst != r10.snd.snd.snd.snd.snd.snd.snd.fst then
             ret (Bool.false)
            else
             (laws_sameSinks (r9.fst) (r9.snd.fst) (r9.snd.snd.fst) (r9.snd.snd.snd.fst) (r9.snd.snd.snd.snd.fst) (r9.snd.snd.snd.snd.snd.fst) (r9.snd.snd.snd.snd.snd.snd.fst) (r10.fst) (r10.snd.fst) (r10.snd.snd.fst) (r10.snd.snd.snd.fst) (r10.snd.snd.snd.snd.fst) (r10.snd.snd.snd.snd.snd.fst) (r10.snd.snd.snd.snd.snd.snd.fst)).bind fun (r11 : Bool) =>
             bif !r11 then
              ret (Bool.false)
             else
              bif !r9.snd.snd.snd.snd.snd.snd.snd.snd then
               ret (Bool.true)
              else
               (impl_GoodSink (r9.fst) (r9.snd.fst) (r9.snd.snd.fst) (r9.snd.snd.snd.fst) (r9.snd.snd.snd.snd.fst) (r9.snd.snd.snd.snd.snd.fst) (r9.snd.snd.snd.snd.snd.snd.fst)).bind fun (r12 : Bool) =>
               ret (r12)
       else
        none
     else
      (spec_DrawDrainSink (v1)).bind fun (r13 : (List Int) × Int × (List Int) × (List (Int × Int × List Int)) × (List Int) × Int × Int) =>
      (impl_DrainSink (r13.fst) (r13.snd.fst) (r13.snd.snd.fst) (r13.snd.snd.snd.fst) (r13.snd.snd.snd.snd.fst) (r13.snd.snd.snd.snd.snd.fst) (r13.snd.snd.snd.snd.snd.snd)).bind fun (r14 : (List Int) × Int × (List Int) × (List (Int × Int × List Int)) × (List Int) × Int × Int × Int × Bool) =>
      (spec_DrainSink (r13.fst) (r13.snd.fst) (r13.snd.snd.fst) (r13.snd.snd.snd.fst) (r13.snd.snd.snd.snd.fst) (r13.snd.snd.snd.snd.snd.fst) (r13.snd.snd.snd.snd.snd.snd)).bind fun (r15 : (List Int) × Int × (List Int) × (List (Int × Int × List Int)) × (List Int) × Int × Int × Int × Bool) =>
      bif !r14.snd.snd.snd.snd.snd.snd.snd.snd == r15.snd.snd.snd.snd.snd.snd.snd.snd then
       ret (Bool.false)
      else
       bif r14.snd.snd.snd.snd.snd.snd.snd.fst != r15.snd.snd.snd.snd.snd.snd.snd.fst then
        ret (Bool.false)
       else
        (laws_sameSinks (r14.fst) (r14.snd.fst) (r14.snd.snd.fst) (r14.snd.snd.snd.fst) (r14.snd.snd.snd.snd.fst) (r14.snd.snd.snd.snd.snd.fst) (r14.snd.snd.snd.snd.snd.snd.fst) (r15.fst) (r15.snd.fst) (r15.snd.snd.fst) (r15.snd.snd.snd.fst) (r15.snd.snd.snd.snd.fst) (r15.snd.snd.snd.snd.snd.fst) (r15.snd.snd.snd.snd.snd.snd.fst)).bind fun (r16 : Bool) =>
        bif !r16 then
         ret (Bool.false)
        else
         bif !r14.snd.snd.snd.snd.snd.snd.snd.snd then
          ret (Bool.true)
         else
          (impl_GoodSink (r14.fst) (r14.snd.fst) (r14.snd.snd.fst) (r14.snd.snd.snd.fst) (r14.snd.snd.snd.snd.fst) (r14.snd.snd.snd.snd.snd.fst) (r14.snd.snd.snd.snd.snd.snd.fst)).bind fun (r17 : Bool) =>
          ret (r17)
theorem laws_FnSinkSteps.k (v0 : List Int) (v1 : List Int) : topL E (callT E tab) 5 Try.f5 (laws_FnSinkSteps.c v0 v1) = laws_FnSinkSteps.t (fun b => some (laws_FnSinkSteps.mk b)) v0 v1 := by kernel_rfl
theorem laws_FnSinkSteps.eq (v0 : List Int) (v1 : List Int) {b : Bool} (h : laws_FnSinkSteps.t some v0 v1 = some b) : laws_FnSinkSteps v0 v1 = some b := tOf_intro laws_FnSinkSteps.un (fun _ => by kernel_rfl) (vlim_fn (callT_le E tab) rfl rfl rfl ((laws_FnSinkSteps.k v0 v1).trans ((by unfold laws_FnSinkSteps.t; repeat' first | exact Sub.ret | exact Sub.none | exact Sub.loop | apply Sub.cond | (apply Sub.bind; intro _) : Sub laws_FnSinkSteps.mk _ _) b h)))
noncomputable def spec_DrawStepSink.t {γ : Type} (ret : ((List Int) × Int × (List Int) × (List (Int × Int × List Int)) × (List Int) × Int × Int × Int) → Option γ) (v0 : List Int) : Option γ :=
 (xs0b (v0) ((0 : Int)) ((0 : Int))).bind fun (r0 : (List Int) × Int × (List Int) × (List (Int × Int × List Int)) × (List Int) × Int × Int × (List Int) × Int × Int) =>
 (xs0a (r0.snd.snd.snd.snd.snd.snd.snd.fst) (r0.snd.snd.snd.snd.snd.snd.snd.snd.fst) (r0.snd.snd.snd.snd.snd.snd.snd.snd.snd) ((8 : Int))).bind fun (r1 : Int × (List Int) × Int × Int) =>
 ret (r0.fst, r0.snd.fst, r0.snd.snd.fst, r0.snd.snd.snd.fst, r0.snd.snd.snd.snd.fst, r0.snd.snd.snd.snd.snd.fst, r0.snd.snd.snd.snd.snd.snd.fst, IntKind.i64.wrap (r1.fst - (1 : Int)))
theorem spec_DrawStepSink.k (v0 : List Int) : topL E (callT E tab) 15 Try.f15 (spec_DrawStepSink.c v0) = spec_DrawStepSink.t (fun b => some (spec_DrawStepSink.mk b)) v0 := by kernel_rfl
theorem spec_DrawStepSink.eq (v0 : List Int) {b : (List Int) × Int × (List Int) × (List (Int × Int × List Int)) × (List Int) × Int × Int × Int} (h : spec_DrawStepSink.t some v0 = some b) : spec_DrawStepSink v0 = some b := tOf_intro spec_DrawStepSink.un (fun _ => by kernel_rfl) (vlim_fn (callT_le E tab) rfl rfl rfl ((spec_DrawStepSink.k v0).trans ((by unfold spec_DrawStepSink.t; repeat' first | exact Sub.ret | exact Sub.none | exact Sub.loop | apply Sub.cond | (apply Sub.bind; intro _) : Sub spec_DrawStepSink.mk _ _) b h)))
noncomputable def xs0b.t {γ : Type} (ret : ((List Int) × Int × (List Int) × (List (Int × Int × List Int)) × (List Int) × Int × Int × (List Int) × Int × Int) → Option γ) (v0 : List Int) (v1 : Int) (v2 : Int) : Option γ :=
 (xs00 (v0) (v1) (v2)).bind fun (r0 : (List Int) × (List Int) × Int × Int) =>
 bif decide ((↑r0.fst.length : Int) > (40 : Int)) then
  bif decide ((40 : Int) ≤ (↑r0.fst.length : Int)) then
   (xs02 (r0.snd.fst) (r0.snd.snd.fst) (r0.snd.snd.snd)).bind fun (r1 : (List Int) × (List Int) × Int × Int) =>
   (spec_PlaySink (r1.fst) (List.take ((40 : Int) - Option.none.getD (0 : Int)).toNat (List.drop (Option.none.getD (0 : Int)).toNat r0.fst))).bind fun (r2 : (List Int) × Int × (List Int) × (List (Int × Int × List Int)) × (List Int) × Int × Int × (List Bool) × Bool) =>
   bif !r2.snd.snd.snd.snd.snd.snd.snd.snd then
    (spec_NewSink ([(1 : Int), (2 : Int)])).bind fun (r3 : (List Int) × Int × (List Int) × (List (Int × Int × List Int)) × (List Int) × Int × Int × Bool) =>
    (xs0a (r1.snd.fst) (r1.snd.snd.fst) (r1.snd.snd.snd) ((40 : Int))).bind fun (r4 : Int × (List Int) × Int × Int) =>
    bif r4.fst == (0 : Int) then
     ret (r3.fst, IntKind.i64.wrap (r3.snd.fst + (1 : Int)), r3.snd.snd.fst, r3.snd.snd.snd.fst, r3.snd.snd.snd.snd.fst, r3.snd.snd.snd.snd.snd.fst, r3.snd.snd.snd.snd.snd.snd.fst, r4.snd.fst, r4.snd.snd.fst, r4.snd.snd.snd)
    else
     bif r4.fst == (1 : Int) then
      bif decide (r3.snd.snd.snd.snd.fst.length + [(5 : Int)].length ≤ (4294967296 : Nat)) then
       ret (r3.fst, r3.snd.fst, r3.snd.snd.fst, r3.snd.snd.snd.fst, r3.snd.snd.snd.snd.fst ++ [(5 : Int)], r3.snd.snd.snd.snd.snd.fst, r3.snd.snd.snd.snd.snd.snd.fst, r4.snd.fst, r4.snd.snd.fst, r4.snd.snd.snd)
      else
       none
     else
      bif r4.fst == (2 : Int) then
       (xs06 (r4.snd.fst) (r4.snd.snd.fst) (r4.snd.snd.snd) ([(-1 : Int), (1000 : Int), (1001 : Int)])).bind fun (r5 : Int × (List Int) × Int × Int) =>
       ret (r3.fst, r3.snd.fst, r3.snd.snd.fst, r3.snd.snd.snd.fst, r3.snd.snd.snd.snd.fst, r5.fst, r3.snd.snd.snd.snd.snd.snd.fst, r5.snd.fst, r5.snd.snd.fst, r5.snd.snd.snd)
      else
       ret (r3.fst, r3.snd.fst, r3.snd.snd.fst, r3.snd.snd.snd.fst, r3.snd.snd.snd.snd.fst, r3.snd.snd.snd.snd.snd.fst, r3.snd.snd.snd.snd.snd.snd.fst, r4.snd.fst, r4.snd.snd.fst, r4.snd.snd.snd)
   else
    (xs0a (r1.snd.fst) (r1.snd.snd.fst) (r1.snd.snd.snd) ((40 : Int))).bind fun (r6 : Int × (List Int) × Int × Int) =>
    bif r6.fst == (0 : Int) then
     ret (r2.fst, IntKind.i64.wrap (r2.snd.fst + (1 : Int)), r2.snd.snd.fst, r2.snd.snd.snd.fst, r2.snd.snd.snd.snd.fst, r2.snd.snd.snd.snd.snd.fst, r2.snd.snd.snd.snd.snd.snd.fst, r6.snd.fst, r6.snd.snd.fst, r6.snd.snd.snd)
    else
     bif r6.fst == (1 : Int) then
      bif decide (r2.snd.snd.snd.snd.fst.length + [(5 : Int)].length ≤ (4294967296 : Nat)) then
       ret (r2.fst, r2.snd.fst, r2.snd.snd.fst, r2.snd.snd.snd.fst, r2.snd.snd.snd.snd.fst ++ [(5 : Int)], r2.snd.snd.snd.snd.snd.fst, r2.snd.snd.snd.snd.snd.snd.fst, r6.snd.fst, r6.snd.snd.fst, r6.snd.snd.snd)
      else
       none
     else
      bif r6.fst == (2 : Int) then
       (xs06 (r6.snd.fst) (r6.snd.snd.fst) (r6.snd.snd.snd) ([(-1 : Int), (1000 : Int), (1001 : Int)])).bind fun (r7 : Int × (List Int) × Int × Int) =>
       ret (r2.fst, r2.snd.fst, r2.snd.snd.fst, r2.snd.snd.snd.fst, r2.snd.snd.snd.snd.fst, r7.fst, r2.snd.snd.snd.snd.snd.snd.fst, r7.snd.fst, r7.snd.snd.fst, r7.snd.snd.snd)
      else
       ret (r2.fst, r2.snd.fst, r2.snd.snd.fst, r2.snd.snd.snd.fst, r2.snd.snd.snd.snd.fst, r2.snd.snd.snd.snd.snd.fst, r2.snd.snd.snd.snd.snd.snd.fst, r6.snd.fst, r6.snd.snd.fst, r6.snd.snd.snd)
  else
   none
 else
  (xs02 (r0.snd.fst) (r0.snd.snd.fst) (r0.snd.snd.snd)).bind fun (r8 : (List Int) × (List Int) × Int × Int) =>
  (spec_PlaySink (r8.fst) (r0.fst)).bind fun (r9 : (List Int) × Int × (List Int) × (List (Int × Int × List Int)) × (List Int) × Int × Int × (List Bool) × Bool) =>
  bif !r9.snd.snd.snd.snd.snd.snd.snd.snd then
   (spec_NewSink ([(1 : Int), (2 : Int)])).bind fun (r10 : (List Int) × Int × (List Int) × (List (Int × Int × List Int)) × (List Int) × Int × Int × Bool) =>
   (xs0a (r8.snd.fst) (r8.snd.snd.fst) (r8.snd.snd.snd) ((40 : Int))).bind fun (r11 : Int × (List Int) × Int × Int) =>
   bif r11.fst == (0 : Int) then
    ret (r10.fst, IntKind.i64.wrap (r10.snd.fst + (1 : Int)), r10.snd.snd.fst, r10.snd.snd.snd.fst, r10.snd.snd.snd.snd.fst, r10.snd.snd.snd.snd.snd.fst, r10.snd.snd.snd.snd.snd.snd.fst, r11.snd.fst, r11.snd.snd.fst, r11.snd.snd.snd)
   else
    bif r11.fst == (1 : Int) then
     bif decide (r10.snd.snd.snd.snd.fst.length + [(5 : Int)].length ≤ (4294967296 : Nat)) then
      ret (r10.fst, r10.snd.fst, r10.snd.snd.fst, r10.snd.snd.snd.fst, r10.snd.snd.snd.snd.fst ++ [(5 : Int)], r10.snd.snd.snd.snd.snd.fst, r10.snd.snd.snd.snd.snd.snd.fst, r11.snd.fst, r11.snd.snd.fst, r11.snd.snd.snd)
     else
      none
    else
     bif r11.fst == (2 : Int) then
      (xs06 (r11.snd.fst) (r11.snd.snd.fst) (r11.snd.snd.snd) ([(-1 : Int), (1000 : Int), (1001 : Int)])).bind fun (r12 : Int × (List Int) × Int × Int) =>
      ret (r10.fst, r10.snd.fst, r10.snd.snd.fst, r10.snd.snd.snd.fst, r10.snd.snd.snd.snd.fst, r12.fst, r10.snd.snd.snd.snd.snd.snd.fst, r12.snd.fst, r12.snd.snd.fst, r12.snd.snd.snd)
     else
      ret (r10.fst, r10.snd.fst, r10.snd.snd.fst, r10.snd.snd.snd.fst, r10.snd.snd.snd.snd.fst, r10.snd.snd.snd.snd.snd.fst, r10.snd.snd.snd.snd.snd.snd.fst, r11.snd.fst, r11.snd.snd.fst, r11.snd.snd.snd)
  else
   (xs0a (r8.snd.fst) (r8.snd.snd.fst) (r8.snd.snd.snd) ((40 : Int))).bind fun (r13 : Int × (List Int) × Int × Int) =>
   bif r13.fst == (0 : Int) then
    ret (r9.fst, IntKind.i64.wrap (r9.snd.fst + (1 : Int)), r9.snd.snd.fst, r9.snd.snd.snd.fst, r9.snd.snd.snd.snd.fst, r9.snd.snd.snd.snd.snd.fst, r9.snd.snd.snd.snd.snd.snd.fst, r13.snd.fst, r13.snd.snd.fst, r13.snd.snd.snd)
   else
    bif r13.fst == (1 : Int) then
     bif decide (r9.snd.snd.snd.snd.fst.length + [(5 : Int)].length ≤ (4294967296 : Nat)) then
      ret (r9.fst, r9.snd.fst, r9.snd.snd.fst, r9.snd.snd.snd.fst, r9.snd.snd.snd.snd.fst ++ [(5 : Int)], r9.snd.snd.snd.snd.snd.fst, r9.snd.snd.snd.snd.snd.snd.fst, r13.snd.fst, r13.snd.snd.fst, r13.snd.snd.snd)
     else
      none
    else
     bif r13.fst == (2 : Int) then
      (xs06 (r13.snd.fst) (r13.snd.snd.fst) (r13.snd.snd.snd) ([(-1 : Int), (1000 : Int), (1001 : Int)])).bind fun (r14 : Int × (List Int) × Int × Int) =>
      ret (r9.fst, r9.snd.fst, r9.snd.snd.fst, r9.snd.snd.snd.fst, r9.snd.snd.snd.snd.fst, r14.fst, r9.snd.snd.snd.snd.snd.snd.fst, r14.snd.fst, r14.snd.snd.fst, r14.snd.snd.snd)
     else
      ret (r9.fst, r9.snd.fst, r9.snd.snd.fst, r9.snd.snd.snd.fst, r9.snd.snd.snd.snd.fst, r9.snd.snd.snd.snd.snd.fst, r9.snd.snd.snd.snd.snd.snd.fst, r13.snd.fst, r13.snd.snd.fst, r13.snd.snd.snd)
theorem xs0b.k (v0 : List Int) (v1 : Int) (v2 : Int) : topL E (callT E tab) 41 Try.f41 (xs0b.c v0 v1 v2) = xs0b.t (fun b => some (xs0b.mk b)) v0 v1 v2 := by kernel_rfl
theorem xs0b.eq (v0 : List Int) (v1 : Int) (v2 : Int) {b : (List Int) × Int × (List Int) × (List (Int × Int × List Int)) × (List Int) × Int × Int × (List Int) × Int × Int} (h : xs0b.t some v0 v1 v2 = some b) : xs0b v0 v1 v2 = some b := tOf_intro xs0b.un (fun _ => by kernel_rfl) (vlim_fn (callT_le E tab) rfl rfl rfl ((xs0b.k v0 v1 v2).trans ((by unfold xs0b.t; repeat' first | exact Sub.ret | exact Sub.none | exact Sub.loop | apply Sub.cond | (apply Sub.bind; intro _) : Sub xs0b.mk _ _) b h)))
noncomputable def xs00.q5 (v0 : List Int) (v1 : Int) (v2 : Int) (v3 : List Int) (v4 : Int) : Option R := loopAtL E (callT E tab) 55 Try.f55 1 [.r, .r, .r, .r, .l, .b] (⟨(.box false), [.d .fro (.sl (.int .u8)) v0, iL v1, .d .fro (.int .u64) v2], true, false, false, 0, 0⟩ :: nn 2 (vc (.d .deep (.sl (.int .i64)) v3) :: vc (iL v4) :: nn 36 ([])))
noncomputable def xs00.l5 (v0 : List Int) (v1 : Int) (v2 : Int) (v3 : List Int) (v4 : Int) : Option ((List Int) × (List Int) × Int × Int) := tOf xs00.mk (xs00.q5 v0 v1 v2 v3 v4)
noncomputable def xs00.t {γ : Type} (ret : ((List Int) × (List Int) × Int × Int) → Option γ) (lp5 : (List Int) → Int → Int → (List Int) → Int → Option γ) (v0 : List Int) (v1 : Int) (v2 : Int) : Option γ :=
 (xs0a (v0) (v1) (v2) ((30 : Int))).bind fun (r0 : Int × (List Int) × Int × Int) =>
 (spec_l1Cur_one_e61 (r0.snd.fst) (r0.snd.snd.fst) (r0.snd.snd.snd) ((20 : Int))).bind fun (r1 : Bool × (List Int) × Int × Int) =>
 bif r1.fst then
  (xs0a (r1.snd.fst) (r1.snd.snd.fst) (r1.snd.snd.snd) ((2 : Int))).bind fun (r2 : Int × (List Int) × Int × Int) =>
  lp5 (r2.snd.fst) (r2.snd.snd.fst) (r2.snd.snd.snd) ([]) (IntKind.i64.wrap ((120 : Int) + r2.fst))
 else
  lp5 (r1.snd.fst) (r1.snd.snd.fst) (r1.snd.snd.snd) ([]) (r0.fst)
noncomputable def xs00.t5 {γ : Type} (ret : ((List Int) × (List Int) × Int × Int) → Option γ) (lp5 : (List Int) → Int → Int → (List Int) → Int → Option γ) (v0 : List Int) (v1 : Int) (v2 : Int) (v3 : List Int) (v4 : Int) : Option γ :=
 bif decide (v4 > (0 : Int)) then
  (xs06 (v0) (v1) (v2) ([(1 : Int), (1 : Int), (1 : Int), (1 : Int), (2 : Int), (2 : Int), (3 : Int), (4 : Int), (5 : Int)])).bind fun (r3 : Int × (List Int) × Int × Int) =>
  bif decide (v3.length + [r3.fst].length ≤ (4294967296 : Nat)) then
   (spec_l1Cur_one_e61 (r3.snd.fst) (r3.snd.snd.fst) (r3.snd.snd.snd) ((60 : Int))).bind fun (r4 : Bool × (List Int) × Int × Int) =>
   bif r4.fst then
    (xs0a (r4.snd.fst) (r4.snd.snd.fst) (r4.snd.snd.snd) ((8 : Int))).bind fun (r5 : Int × (List Int) × Int × Int) =>
    bif decide ((v3 ++ [r3.fst]).length + [IntKind.i64.wrap (r5.fst - (1 : Int))].length ≤ (4294967296 : Nat)) then
     lp5 (r5.snd.fst) (r5.snd.snd.fst) (r5.snd.snd.snd) (v3 ++ [r3.fst] ++ [IntKind.i64.wrap (r5.fst - (1 : Int))]) (IntKind.i64.wrap (v4 - (1 : Int)))
    else
     none
   else
    lp5 (r4.snd.fst) (r4.snd.snd.fst) (r4.snd.snd.snd) (v3 ++ [r3.fst]) (IntKind.i64.wrap (v4 - (1 : Int)))
  else
   none
 else
  bif decide ((↑v3.length : Int) > (120 : Int)) then
   (spec_l1Cur_one_e61 (v0) (v1) (v2) ((4 : Int))).bind fun (r6 : Bool × (List Int) × Int × Int) =>
   bif !r6.fst then
    bif decide ((120 : Int) ≤ (↑v3.length : Int)) then
     ret (List.take ((120 : Int) - Option.none.getD (0 : Int)).toNat (List.drop (Option.none.getD (0 : Int)).toNat v3), r6.snd.fst, r6.snd.snd.fst, r6.snd.snd.snd)
    else
     none
   else
    ret (v3, r6.snd.fst, r6.snd.snd.fst, r6.snd.snd.snd)
  else
   ret (v3, v0, v1, v2)
theorem xs00.k (v0 : List Int) (v1 : Int) (v2 : Int) : topL E (callT E tab) 55 Try.f55 (xs00.c v0 v1 v2) = xs00.t (fun b => some (xs00.mk b)) xs00.q5 v0 v1 v2 := by kernel_rfl
theorem xs00.k5 (v0 : List Int) (v1 : Int) (v2 : Int) (v3 : List Int) (v4 : Int) : roundL E (callT E tab) 55 Try.f55 1 [.r, .r, .r, .r, .l, .b] (⟨(.box false), [.d .fro (.sl (.int .u8)) v0, iL v1, .d .fro (.int .u64) v2], true, false, false, 0, 0⟩ :: nn 2 (vc (.d .deep (.sl (.int .i64)) v3) :: vc (iL v4) :: nn 36 ([]))) = xs00.t5 (fun b => some (xs00.mk b)) xs00.q5 v0 v1 v2 v3 v4 := by kernel_rfl
theorem xs00.eq (v0 : List Int) (v1 : Int) (v2 : Int) {b : (List Int) × (List Int) × Int × Int} (h : xs00.t some xs00.l5 v0 v1 v2 = some b) : xs00 v0 v1 v2 = some b := tOf_intro xs00.un (fun _ => by kernel_rfl) (vlim_fn (callT_le E tab) rfl rfl rfl ((xs00.k v0 v1 v2).trans ((by unfold xs00.t; repeat' first | exact Sub.ret | exact Sub.none | exact Sub.loop | apply Sub.cond | (apply Sub.bind; intro _) : Sub xs00.mk _ _) b h)))
theorem xs00.eq5 (v0 : List Int) (v1 : Int) (v2 : Int) (v3 : List Int) (v4 : Int) {b : (List Int) × (List Int) × Int × Int} (h : xs00.t5 some xs00.l5 v0 v1 v2 v3 v4 = some b) : xs00.l5 v0 v1 v2 v3 v4 = some b := tOf_intro xs00.un (fun _ => by kernel_rfl) (loopAtL_step ((xs00.k5 v0 v1 v2 v3 v4).trans ((by unfold xs00.t5; repeat' first | exact Sub.ret | exact Sub.none | exact Sub.loop | apply Sub.cond | (apply Sub.bind; intro _) : Sub xs00.mk _ _) b h)))
noncomputable def xs0a.t {γ : Type} (ret : (Int × (List Int) × Int × Int) → Option γ) (v0 : List Int) (v1 : Int) (v2 : Int) (v3 : Int) : Option γ :=
 bif decide (v3 ≤ (1 : Int)) then
  ret ((0 : Int), v0, v1, v2)
 else
  (xs09 (v0) (v1) (v2)).bind fun (r0 : Int × (List Int) × Int × Int) =>
  bif decide (v3 > (200 : Int)) then
   (xs09 (r0.snd.fst) (r0.snd.snd.fst) (r0.snd.snd.snd)).bind fun (r1 : Int × (List Int) × Int × Int) =>
   bif decide (v3 ≠ (0 : Int)) then
    ret ((IntKind.i64.wrap (IntKind.i64.wrap (r0.fst * (256 : Int)) + r1.fst)).tmod v3, r1.snd.fst, r1.snd.snd.fst, r1.snd.snd.snd)
   else
    none
  else
   bif decide (v3 ≠ (0 : Int)) then
    ret (r0.fst.tmod v3, r0.snd.fst, r0.snd.snd.fst, r0.snd.snd.snd)
   else
    none
theorem xs0a.k (v0 : List Int) (v1 : Int) (v2 : Int) (v3 : Int) : topL E (callT E tab) 42 Try.f42 (xs0a.c v0 v1 v2 v3) = xs0a.t (fun b => some (xs0a.mk b)) v0 v1 v2 v3 := by kernel_rfl
theorem xs0a.eq (v0 : List Int) (v1 : Int) (v2 : Int) (v3 : Int) {b : Int × (List Int) × Int × Int} (h : xs0a.t some v0 v1 v2 v3 = some b) : xs0a v0 v1 v2 v3 = some b := tOf_intro xs0a.un (fun _ => by kernel_rfl) (vlim_fn (callT_le E tab) rfl rfl rfl ((xs0a.k v0 v1 v2 v3).trans ((by unfold xs0a.t; repeat' first | exact Sub.ret | exact Sub.none | exact Sub.loop | apply Sub.cond | (apply Sub.bind; intro _) : Sub xs0a.mk _ _) b h)))
noncomputable def xs09.t {γ : Type} (ret : (Int × (List Int) × Int × Int) → Option γ) (v0 : List Int) (v1 : Int) (v2 : Int) : Option γ :=
 bif decide (v1 < (↑v0.length : Int)) then
  bif decide ((0 : Int) ≤ v1) then
   bif decide (v1.toNat < v0.length) then
    bif decide (IntKind.i64.wrap (v1 + (1 : Int)) ≤ (↑v0.length : Int)) then
     ret (IntKind.i64.wrap (v0.getD v1.toNat (0 : Int)), v0, IntKind.i64.wrap (v1 + (1 : Int)), IntKind.u64.wrap   (IntKind.u64.wrap       (IntKind.u64.wrap (v2 * (6364136223846793005 : Int)) +         IntKind.u64.wrap (IntKind.i64.wrap (v0.getD v1.toNat (0 : Int)))) +     (1442695040888963407 : Int)))
    else
     ret (IntKind.i64.wrap   (IntKind.u64.wrap     (↑(BitVec.ofInt IntKind.u64.bits               ((IntKind.u64.wrap                     (IntKind.u64.wrap                         (IntKind.u64.wrap (v2 * (6364136223846793005 : Int)) +                           IntKind.u64.wrap (IntKind.i64.wrap (v0.getD v1.toNat (0 : Int)))) +                       (1442695040888963407 : Int))).fdiv                 ((2 : Int) ^ Min.min (Int.toNat (40 : Int)) IntKind.u64.bits)) &&&             BitVec.ofInt IntKind.u64.bits (255 : Int)).toNat :       Int)), v0, IntKind.i64.wrap (v1 + (1 : Int)), IntKind.u64.wrap   (IntKind.u64.wrap       (IntKind.u64.wrap (v2 * (6364136223846793005 : Int)) +         IntKind.u64.wrap (IntKind.i64.wrap (v0.getD v1.toNat (0 : Int)))) +     (1442695040888963407 : Int)))
   else
    none
  else
   none
 else
  bif decide (IntKind.i64.wrap (v1 + (1 : Int)) ≤ (↑v0.length : Int)) then
   ret ((0 : Int), v0, IntKind.i64.wrap (v1 + (1 : Int)), IntKind.u64.wrap   (IntKind.u64.wrap (IntKind.u64.wrap (v2 * (6364136223846793005 : Int)) + IntKind.u64.wrap (0 : Int)) +     (1442695040888963407 : Int)))
  else
   ret (IntKind.i64.wrap   (IntKind.u64.wrap     (↑(BitVec.ofInt IntKind.u64.bits               ((IntKind.u64.wrap                     (IntKind.u64.wrap                         (IntKind.u64.wrap (v2 * (6364136223846793005 : Int)) + IntKind.u64.wrap (0 : Int)) +                       (1442695040888963407 : Int))).fdiv                 ((2 : Int) ^ Min.min (Int.toNat (40 : Int)) IntKind.u64.bits)) &&&             BitVec.ofInt IntKind.u64.bits (255 : Int)).toNat :       Int)), v0, IntKind.i64.wrap (v1 + (1 : Int)), IntKind.u64.wrap   (IntKind.u64.wrap (IntKind.u64.wrap (v2 * (6364136223846793005 : Int)) + IntKind.u64.wrap (0 : Int)) +     (1442695040888963407 : Int)))
theorem xs09.k (v0 : List Int) (v1 : Int) (v2 : Int) : topL E (callT E tab) 60 Try.f60 (xs09.c v0 v1 v2) = xs09.t (fun b => some (xs09.mk b)) v0 v1 v2 := by kernel_rfl
theorem xs09.eq (v0 : List Int) (v1 : Int) (v2 : Int) {b : Int × (List Int) × Int × Int} (h : xs09.t some v0 v1 v2 = some b) : xs09 v0 v1 v2 = some b := tOf_intro xs09.un (fun _ => by kernel_rfl) (vlim_fn (callT_le E tab) rfl rfl rfl ((xs09.k v0 v1 v2).trans ((by unfold xs09.t; repeat' first | exact Sub.ret | exact Sub.none | exact Sub.loop | apply Sub.cond | (apply Sub.bind; intro _) : Sub xs09.mk _ _) b h)))
noncomputable def spec_l1Cur_one_e61.t {γ : Type} (ret : (Bool × (List Int) × Int × Int) → Option γ) (v0 : List Int) (v1 : Int) (v2 : Int) (v3 : Int) : Option γ :=
 (xs0a (v0) (v1) (v2) (v3)).bind fun (r0 : Int × (List Int) × Int × Int) =>
 ret (r0.fst == (0 : Int), r0.snd.fst, r0.snd.snd.fst, r0.snd.snd.snd)
theorem spec_l1Cur_one_e61.k (v0 : List Int) (v1 : Int) (v2 : Int) (v3 : Int) : topL E (callT E tab) 63 Try.f63 (spec_l1Cur_one_e61.c v0 v1 v2 v3) = spec_l1Cur_one_e61.t (fun b => some (spec_l1Cur_one_e61.mk b)) v0 v1 v2 v3 := by kernel_rfl
theorem spec_l1Cur_one_e61.eq (v0 : List Int) (v1 : Int) (v2 : Int) (v3 : Int) {b : Bool × (List Int) × Int × Int} (h : spec_l1Cur_one_e61.t some v0 v1 v2 v3 = some b) : spec_l1Cur_one_e61 v0 v1 v2 v3 = some b := tOf_intro spec_l1Cur_one_e61.un (fun _ => by kernel_rfl) (vlim_fn (callT_le E tab) rfl rfl rfl ((spec_l1Cur_one_e61.k v0 v1 v2 v3).trans ((by unfold spec_l1Cur_one_e61.t; repeat' first | exact Sub.ret | exact Sub.none | exact Sub.loop | apply Sub.cond | (apply Sub.bind; intro _) : Sub spec_l1Cur_one_e61.mk _ _) b h)))
noncomputable def xs06.t {γ : Type} (ret : (Int × (List Int) × Int × Int) → Option γ) (v0 : List Int) (v1 : Int) (v2 : Int) (v3 : List Int) : Option γ :=
 (xs0a (v0) (v1) (v2) ((↑v3.length : Int))).bind fun (r0 : Int × (List Int) × Int × Int) =>
 bif decide ((0 : Int) ≤ r0.fst) then
  bif decide (r0.fst.toNat < v3.length) then
   ret (v3.getD r0.fst.toNat (0 : Int), r0.snd.fst, r0.snd.snd.fst, r0.snd.snd.snd)
  else
   none
 else
  none
theorem xs06.k (v0 : List Int) (v1 : Int) (v2 : Int) (v3 : List Int) : topL E (callT E tab) 59 Try.f59 (xs06.c v0 v1 v2 v3) = xs06.t (fun b => some (xs06.mk b)) v0 v1 v2 v3 := by kernel_rfl
theorem xs06.eq (v0 : List Int) (v1 : Int) (v2 : Int) (v3 : List Int) {b : Int × (List Int) × Int × Int} (h : xs06.t some v0 v1 v2 v3 = some b) : xs06 v0 v1 v2 v3 = some b := tOf_intro xs06.un (fun _ => by kernel_rfl) (vlim_fn (callT_le E tab) rfl rfl rfl ((xs06.k v0 v1 v2 v3).trans ((by unfold xs06.t; repeat' first | exact Sub.ret | exact Sub.none | exact Sub.loop | apply Sub.cond | (apply Sub.bind; intro _) : Sub xs06.mk _ _) b h)))
noncomputable def xs02.q5 (v0 : List Int) (v1 : Int) (v2 : Int) (v3 : List Int) (v4 : Int) : Option R := loopAtL E (callT E tab) 57 Try.f57 1 [.r, .r, .r, .r, .l, .b] (⟨(.box false), [.d .fro (.sl (.int .u8)) v0, iL v1, .d .fro (.int .u64) v2], true, false, false, 0, 0⟩ :: nn 2 (vc (.d .deep (.sl (.int .i64)) v3) :: vc (iL v4) :: nn 17 ([])))
noncomputable def xs02.l5 (v0 : List Int) (v1 : Int) (v2 : Int) (v3 : List Int) (v4 : Int) : Option ((List Int) × (List Int) × Int × Int) := tOf xs02.mk (xs02.q5 v0 v1 v2 v3 v4)
noncomputable def xs02.t {γ : Type} (ret : ((List Int) × (List Int) × Int × Int) → Option γ) (lp5 : (List Int) → Int → Int → (List Int) → Int → Option γ) (v0 : List Int) (v1 : Int) (v2 : Int) : Option γ :=
 (xs0a (v0) (v1) (v2) ((12 : Int))).bind fun (r0 : Int × (List Int) × Int × Int) =>
 (spec_l1Cur_one_e61 (r0.snd.fst) (r0.snd.snd.fst) (r0.snd.snd.snd) ((20 : Int))).bind fun (r1 : Bool × (List Int) × Int × Int) =>
 bif r1.fst then
  (xs0a (r1.snd.fst) (r1.snd.snd.fst) (r1.snd.snd.snd) ((2 : Int))).bind fun (r2 : Int × (List Int) × Int × Int) =>
  lp5 (r2.snd.fst) (r2.snd.snd.fst) (r2.snd.snd.snd) ([]) (IntKind.i64.wrap ((30 : Int) + r2.fst))
 else
  lp5 (r1.snd.fst) (r1.snd.snd.fst) (r1.snd.snd.snd) ([]) (r0.fst)
noncomputable def xs02.t5 {γ : Type} (ret : ((List Int) × (List Int) × Int × Int) → Option γ) (lp5 : (List Int) → Int → Int → (List Int) → Int → Option γ) (v0 : List Int) (v1 : Int) (v2 : Int) (v3 : List Int) (v4 : Int) : Option γ :=
 bif decide (v4 > (0 : Int)) then
  (xs0a (v0) (v1) (v2) ((9 : Int))).bind fun (r3 : Int × (List Int) × Int × Int) =>
  bif decide (v3.length + [r3.fst].length ≤ (4294967296 : Nat)) then
   lp5 (r3.snd.fst) (r3.snd.snd.fst) (r3.snd.snd.snd) (v3 ++ [r3.fst]) (IntKind.i64.wrap (v4 - (1 : Int)))
  else
   none
 else
  ret (v3, v0, v1, v2)
theorem xs02.k (v0 : List Int) (v1 : Int) (v2 : Int) : topL E (callT E tab) 57 Try.f57 (xs02.c v0 v1 v2) = xs02.t (fun b => some (xs02.mk b)) xs02.q5 v0 v1 v2 := by kernel_rfl
theorem xs02.k5 (v0 : List Int) (v1 : Int) (v2 : Int) (v3 : List Int) (v4 : Int) : roundL E (callT E tab) 57 Try.f57 1 [.r, .r, .r, .r, .l, .b] (⟨(.box false), [.d .fro (.sl (.int .u8)) v0, iL v1, .d .fro (.int .u64) v2], true, false, false, 0, 0⟩ :: nn 2 (vc (.d .deep (.sl (.int .i64)) v3) :: vc (iL v4) :: nn 17 ([]))) = xs02.t5 (fun b => some (xs02.mk b)) xs02.q5 v0 v1 v2 v3 v4 := by kernel_rfl
theorem xs02.eq (v0 : List Int) (v1 : Int) (v2 : Int) {b : (List Int) × (List Int) × Int × Int} (h : xs02.t some xs02.l5 v0 v1 v2 = some b) : xs02 v0 v1 v2 = some b := tOf_intro xs02.un (fun _ => by kernel_rfl) (vlim_fn (callT_le E tab) rfl rfl rfl ((xs02.k v0 v1 v2).trans ((by unfold xs02.t; repeat' first | exact Sub.ret | exact Sub.none | exact Sub.loop | apply Sub.cond | (apply Sub.bind; intro _) : Sub xs02.mk _ _) b h)))
theorem xs02.eq5 (v0 : List Int) (v1 : Int) (v2 : Int) (v3 : List Int) (v4 : Int) {b : (List Int) × (List Int) × Int × Int} (h : xs02.t5 some xs02.l5 v0 v1 v2 v3 v4 = some b) : xs02.l5 v0 v1 v2 v3 v4 = some b := tOf_intro xs02.un (fun _ => by kernel_rfl) (loopAtL_step ((xs02.k5 v0 v1 v2 v3 v4).trans ((by unfold xs02.t5; repeat' first | exact Sub.ret | exact Sub.none | exact Sub.loop | apply Sub.cond | (apply Sub.bind; intro _) : Sub xs02.mk _ _) b h)))
noncomputable def spec_PlaySink.q1006 (v0 : List Int) (v1 : Int) (v2 : List Int) (v3 : List (Int × Int × List Int)) (v4 : List Int) (v5 : Int) (v6 : Int) (v7 : Int) (v8 : Int) (v9 : Int) (v10 : List Bool) (v11 : List Int) (v12 : Int) (v13 : Int) : Option R := loopAtL E (callT E tab) 56 Try.f56 2 [.r, .r, .r, .r, .l, .r, .b] (nn 4 (⟨(.box false), [.d .deep (.sl (.int .i64)) v0, iL v1, .d .deep (.sl (.int .i64)) v2, .d .deep (.sl (.pair (.int .i64) (.pair (.int .i64) (.sl (.int .i64))))) v3, .d .deep (.sl (.int .i64)) v4, iL v5, iL v6], false, false, false, 0, 0⟩ :: nn 2 (⟨(.box false), [.dead, iL v7, .dead, .dead, .dead, iL v8, iL v9], false, false, false, 0, 0⟩ :: nn 1 (vc (.d .deep (.sl .bool) v10) :: nn 17 (vc (.d .fro (.sl (.int .i64)) v11) :: vc (iL v12) :: vc (iL v13) :: nn 20 ([]))))))
noncomputable def spec_PlaySink.l1006 (v0 : List Int) (v1 : Int) (v2 : List Int) (v3 : List (Int × Int × List Int)) (v4 : List Int) (v5 : Int) (v6 : Int) (v7 : Int) (v8 : Int) (v9 : Int) (v10 : List Bool) (v11 : List Int) (v12 : Int) (v13 : Int) : Option ((List Int) × Int × (List Int) × (List (Int × Int × List Int)) × (List Int) × Int × Int × (List Bool) × Bool) := tOf spec_PlaySink.mk (spec_PlaySink.q1006 v0 v1 v2 v3 v4 v5 v6 v7 v8 v9 v10 v11 v12 v13)
noncomputable def spec_PlaySink.q6 (v0 : List Int) (v1 : Int) (v2 : List Int) (v3 : List (Int × Int × List Int)) (v4 : List Int) (v5 : Int) (v6 : Int) (v7 : List Int) (v8 : Int) (v9 : List Int) (v10 : List (Int × Int × List Int)) (v11 : List Int) (v12 : Int) (v13 : Int) (v14 : List Bool) (v15 : List Int) (v16 : Int) (v17 : Int) : Option R := loopAtL E (callT E tab) 56 Try.f56 2 [.r, .r, .r, .r, .l, .r, .b] (nn 4 (⟨(.box false), [.d .deep (.sl (.int .i64)) v0, iL v1, .d .deep (.sl (.int .i64)) v2, .d .deep (.sl (.pair (.int .i64) (.pair (.int .i64) (.sl (.int .i64))))) v3, .d .deep (.sl (.int .i64)) v4, iL v5, iL v6], false, false, false, 0, 0⟩ :: nn 2 (⟨(.box false), [.d .deep (.sl (.int .i64)) v7, iL v8, .d .deep (.sl (.int .i64)) v9, .d .deep (.sl (.pair (.int .i64) (.pair (.int .i64) (.sl (.int .i64))))) v10, .d .deep (.sl (.int .i64)) v11, iL v12, iL v13], false, false, false, 0, 0⟩ :: nn 1 (vc (.d .deep (.sl .bool) v14) :: nn 17 (vc (.d .fro (.sl (.int .i64)) v15) :: vc (iL v16) :: vc (iL v17) :: nn 20 ([]))))))
noncomputable def spec_PlaySink.l6 (v0 : List Int) (v1 : Int) (v2 : List Int) (v3 : List (Int × Int × List Int)) (v4 : List Int) (v5 : Int) (v6 : Int) (v7 : List Int) (v8 : Int) (v9 : List Int) (v10 : List (Int × Int × List Int)) (v11 : List Int) (v12 : Int) (v13 : Int) (v14 : List Bool) (v15 : List Int) (v16 : Int) (v17 : Int) : Option ((List Int) × Int × (List Int) × (List (Int × Int × List Int)) × (List Int) × Int × Int × (List Bool) × Bool) := tOf spec_PlaySink.mk (spec_PlaySink.q6 v0 v1 v2 v3 v4 v5 v6 v7 v8 v9 v10 v11 v12 v13 v14 v15 v16 v17)
noncomputable def spec_PlaySink.t {γ : Type} (ret : ((List Int) × Int × (List Int) × (List (Int × Int × List Int)) × (List Int) × Int × Int × (List Bool) × Bool) → Option γ) (lp1006 : (List Int) → Int → (List Int) → (List (Int × Int × List Int)) → (List Int) → Int → Int → Int → Int → Int → (List Bool) → (List Int) → Int → Int → Option γ) (lp6 : (List Int) → Int → (List Int) → (List (Int × Int × List Int)) → (List Int) → Int → Int → (List Int) → Int → (List Int) → (List (Int × Int × List Int)) → (List Int) → Int → Int → (List Bool) → (List Int) → Int → Int → Option γ) (v0 : List Int) (v1 : List Int) : Option γ :=
 (spec_NewSink (v0)).bind fun (r0 : (List Int) × Int × (List Int) × (List (Int × Int × List Int)) × (List Int) × Int × Int × Bool) =>
 bif !r0.snd.snd.snd.snd.snd.snd.snd then
  ret ([], (0 : Int), [], [], [], (0 : Int), (0 : Int), [], Bool.false)
 else
  bif decide ((↑v1.length : Int) > (120 : Int)) then
   ret ([], (0 : Int), [], [], [], (0 : Int), (0 : Int), [], Bool.false)
  else
   lp6 ([]) ((0 : Int)) ([]) ([]) ([]) ((0 : Int)) ((0 : Int)) (r0.fst) (r0.snd.fst) (r0.snd.snd.fst) (r0.snd.snd.snd.fst) (r0.snd.snd.snd.snd.fst) (r0.snd.snd.snd.snd.snd.fst) (r0.snd.snd.snd.snd.snd.snd.fst) ([]) (v1) ((↑v1.length : Int)) ((0 : Int))
noncomputable def spec_PlaySink.t1006 {γ : Type} (ret : ((List Int) × Int × (List Int) × (List (Int × Int × List Int)) × (List Int) × Int × Int × (List Bool) × Bool) → Option γ) (lp1006 : (List Int) → Int → (List Int) → (List (Int × Int × List Int)) → (List Int) → Int → Int → Int → Int → Int → (List Bool) → (List Int) → Int → Int → Option γ) (lp6 : (List Int) → Int → (List Int) → (List (Int × Int × List Int)) → (List Int) → Int → Int → (List Int) → Int → (List Int) → (List (Int × Int × List Int)) → (List Int) → Int → Int → (List Bool) → (List Int) → Int → Int → Option γ) (v0 : List Int) (v1 : Int) (v2 : List Int) (v3 : List (Int × Int × List Int)) (v4 : List Int) (v5 : Int) (v6 : Int) (v7 : Int) (v8 : Int) (v9 : Int) (v10 : List Bool) (v11 : List Int) (v12 : Int) (v13 : Int) : Option γ :=
 bif decide (v13 < v12) then
  bif decide ((0 : Int) ≤ v13) then
   bif decide (v13.toNat < v11.length) then
    none
   else
    none
  else
   none
 else
  none
noncomputable def spec_PlaySink.t6 {γ : Type} (ret : ((List Int) × Int × (List Int) × (List (Int × Int × List Int)) × (List Int) × Int × Int × (List Bool) × Bool) → Option γ) (lp1006 : (List Int) → Int → (List Int) → (List (Int × Int × List Int)) → (List Int) → Int → Int → Int → Int → Int → (List Bool) → (List Int) → Int → Int → Option γ) (lp6 : (List Int) → Int → (List Int) → (List (Int × Int × List Int)) → (List Int) → Int → Int → (List Int) → Int → (List Int) → (List (Int × Int × List Int)) → (List Int) → Int → Int → (List Bool) → (List Int) → Int → Int → Option γ) (v0 : List Int) (v1 : Int) (v2 : List Int) (v3 : List (Int × Int × List Int)) (v4 : List Int) (v5 : Int) (v6 : Int) (v7 : List Int) (v8 : Int) (v9 : List Int) (v10 : List (Int × Int × List Int)) (v11 : List Int) (v12 : Int) (v13 : Int) (v14 : List Bool) (v15 : List Int) (v16 : Int) (v17 : Int) : Option γ :=
 bif decide (v17 < v16) then
  bif decide ((0 : Int) ≤ v17) then
   bif decide (v17.toNat < v15.length) then
    (spec_l16Own (v7) (v8) (v9) (v10) (v11) (v12) (v13)).bind fun (r1 : (List Int) × Int × (List Int) × (List (Int × Int × List Int)) × (List Int) × Int × Int) =>
    (spec_l16Step_3ad (r1.fst) (r1.snd.fst) (r1.snd.snd.fst) (r1.snd.snd.snd.fst) (r1.snd.snd.snd.snd.fst) (r1.snd.snd.snd.snd.snd.fst) (r1.snd.snd.snd.snd.snd.snd) (v15.getD v17.toNat (0 : Int))).bind fun (r2 : (Int × Int × Int × Bool × (List Int) × Int × (List Int) × (List (Int × Int × List Int)) × (List Int) × Int × Int) ⊕ ((List Int) × Int × (List Int) × (List (Int × Int × List Int)) × (List Int) × Int × Int × Bool × Int × Int × Int)) =>
    bif r2.isLeft then
     bif (inL r2 ((0 : Int), (0 : Int), (0 : Int), Bool.false, [], (0 : Int), [], [], [], (0 : Int), (0 : Int))).snd.snd.snd.fst then
      bif decide   (v14.length +       [(inL r2 ((0 : Int), (0 : Int), (0 : Int), Bool.false, [], (0 : Int), [], [], [], (0 : Int), (0 : Int))).snd.snd.snd.fst].length ≤     (4294967296 : Nat)) then
       lp1006 (v0) (v1) (v2) (v3) (v4) (v5) (v6) ((inL r2 ((0 : Int), (0 : Int), (0 : Int), Bool.false, [], (0 : Int), [], [], [], (0 : Int), (0 : Int))).fst) ((inL r2 ((0 : Int), (0 : Int), (0 : Int), Bool.false, [], (0 : Int), [], [], [], (0 : Int), (0 : Int))).snd.fst) ((inL r2 ((0 : Int), (0 : Int), (0 : Int), Bool.false, [], (0 : Int), [], [], [], (0 : Int), (0 : Int))).snd.snd.fst) (v14 ++   [(inL r2 ((0 : Int), (0 : Int), (0 : Int), Bool.false, [], (0 : Int), [], [], [], (0 : Int), (0 : Int))).snd.snd.snd.fst]) (v15) (v16) (IntKind.i64.wrap (v17 + (1 : Int)))
      else
       none
     else
      bif decide   (v14.length +       [(inL r2 ((0 : Int), (0 : Int), (0 : Int), Bool.false, [], (0 : Int), [], [], [], (0 : Int), (0 : Int))).snd.snd.snd.fst].length ≤     (4294967296 : Nat)) then
       lp6 (v0) (v1) (v2) (v3) (v4) (v5) (v6) (v7) (v8) (v9) (v10) (v11) (v12) (v13) (v14 ++   [(inL r2 ((0 : Int), (0 : Int), (0 : Int), Bool.false, [], (0 : Int), [], [], [], (0 : Int), (0 : Int))).snd.snd.snd.fst]) (v15) (v16) (IntKind.i64.wrap (v17 + (1 : Int)))
      else
       none
    else
     bif (inR r2 ([], (0 : Int), [], [], [], (0 : Int), (0 : Int), Bool.false, (0 : Int), (0 : Int), (0 : Int))).snd.snd.snd.snd.snd.snd.snd.fst then
      bif decide   (v14.length +       [(inR r2 ([], (0 : Int), [], [], [], (0 : Int), (0 : Int), Bool.false, (0 : Int), (0 : Int), (0 : Int))).snd.snd.snd.snd.snd.snd.snd.fst].length ≤     (4294967296 : Nat)) then
       lp6 (v0) (v1) (v2) (v3) (v4) (v5) (v6) ((inR r2 ([], (0 : Int), [], [], [], (0 : Int), (0 : Int), Bool.false, (0 : Int), (0 : Int), (0 : Int))).fst) ((inR r2 ([], (0 : Int), [], [], [], (0 : Int), (0 : Int), Bool.false, (0 : Int), (0 : Int), (0 : Int))).snd.fst) ((inR r2 ([], (0 : Int), [], [], [], (0 : Int), (0 : Int), Bool.false, (0 : Int), (0 : Int), (0 : Int))).snd.snd.fst) ((inR r2 ([], (0 : Int), [], [], [], (0 : Int), (0 : Int), Bool.false, (0 : Int), (0 : Int), (0 : Int))).snd.snd.snd.fst) ((inR r2 ([], (0 : Int), [], [], [], (0 : Int), (0 : Int), Bool.false, (0 : Int), (0 : Int), (0 : Int))).snd.snd.snd.snd.fst) ((inR r2 ([], (0 : Int), [], [], [], (0 : Int), (0 : Int), Bool.false, (0 : Int), (0 : Int), (0 : Int))).snd.snd.snd.snd.snd.fst) ((inR r2 ([], (0 : Int), [], [], [], (0 : Int), (0 : Int), Bool.false, (0 : Int), (0 : Int), (0 : Int))).snd.snd.snd.snd.snd.snd.fst) (v14 ++   [(inR r2 ([], (0 : Int), [], [], [], (0 : Int), (0 : Int), Bool.false, (0 : Int), (0 : Int), (0 : Int))).snd.snd.snd.snd.snd.snd.snd.fst]) (v15) (v16) (IntKind.i64.wrap (v17 + (1 : Int)))
      else
       none
     else
      bif decide   (v14.length +       [(inR r2 ([], (0 : Int), [], [], [], (0 : Int), (0 : Int), Bool.false, (0 : Int), (0 : Int), (0 : Int))).snd.snd.snd.snd.snd.snd.snd.fst].length ≤     (4294967296 : Nat)) then
       lp6 (v0) (v1) (v2) (v3) (v4) (v5) (v6) (v7) (v8) (v9) (v10) (v11) (v12) (v13) (v14 ++   [(inR r2 ([], (0 : Int), [], [], [], (0 : Int), (0 : Int), Bool.false, (0 : Int), (0 : Int), (0 : Int))).snd.snd.snd.snd.snd.snd.snd.fst]) (v15) (v16) (IntKind.i64.wrap (v17 + (1 : Int)))
      else
       none
   else
    none
  else
   none
 else
  (spec_l16Own (v7) (v8) (v9) (v10) (v11) (v12) (v13)).bind fun (r3 : (List Int) × Int × (List Int) × (List (Int × Int × List Int)) × (List Int) × Int × Int) =>
  ret (r3.fst, r3.snd.fst, r3.snd.snd.fst, r3.snd.snd.snd.fst, r3.snd.snd.snd.snd.fst, r3.snd.snd.snd.snd.snd.fst, r3.snd.snd.snd.snd.snd.snd, v14, Bool.true)
theorem spec_PlaySink.k (v0 : List Int) (v1 : List Int) : topL E (callT E tab) 56 Try.f56 (spec_PlaySink.c v0 v1) = spec_PlaySink.t (fun b => some (spec_PlaySink.mk b)) spec_PlaySink.q1006 spec_PlaySink.q6 v0 v1 := by kernel_rfl
theorem spec_PlaySink.k1006 (v0 : List Int) (v1 : Int) (v2 : List Int) (v3 : List (Int × Int × List Int)) (v4 : List Int) (v5 : Int) (v6 : Int) (v7 : Int) (v8 : Int) (v9 : Int) (v10 : List Bool) (v11 : List Int) (v12 : Int) (v13 : Int) : roundL E (callT E tab) 56 Try.f56 2 [.r, .r, .r, .r, .l, .r, .b] (nn 4 (⟨(.box false), [.d .deep (.sl (.int .i64)) v0, iL v1, .d .deep (.sl (.int .i64)) v2, .d .deep (.sl (.pair (.int .i64) (.pair (.int .i64) (.sl (.int .i64))))) v3, .d .deep (.sl (.int .i64)) v4, iL v5, iL v6], false, false, false, 0, 0⟩ :: nn 2 (⟨(.box false), [.dead, iL v7, .dead, .dead, .dead, iL v8, iL v9], false, false, false, 0, 0⟩ :: nn 1 (vc (.d .deep (.sl .bool) v10) :: nn 17 (vc (.d .fro (.sl (.int .i64)) v11) :: vc (iL v12) :: vc (iL v13) :: nn 20 ([])))))) = spec_PlaySink.t1006 (fun b => some (spec_PlaySink.mk b)) spec_PlaySink.q1006 spec_PlaySink.q6 v0 v1 v2 v3 v4 v5 v6 v7 v8 v9 v10 v11 v12 v13 := by kernel_rfl
theorem spec_PlaySink.k6 (v0 : List Int) (v1 : Int) (v2 : List Int) (v3 : List (Int × Int × List Int)) (v4 : List Int) (v5 : Int) (v6 : Int) (v7 : List Int) (v8 : Int) (v9 : List Int) (v10 : List (Int × Int × List Int)) (v11 : List Int) (v12 : Int) (v13 : Int) (v14 : List Bool) (v15 : List Int) (v16 : Int) (v17 : Int) : roundL E (callT E tab) 56 Try.f56 2 [.r, .r, .r, .r, .l, .r, .b] (nn 4 (⟨(.box false), [.d .deep (.sl (.int .i64)) v0, iL v1, .d .deep (.sl (.int .i64)) v2, .d .deep (.sl (.pair (.int .i64) (.pair (.int .i64) (.sl (.int .i64))))) v3, .d .deep (.sl (.int .i64)) v4, iL v5, iL v6], false, false, false, 0, 0⟩ :: nn 2 (⟨(.box false), [.d .deep (.sl (.int .i64)) v7, iL v8, .d .deep (.sl (.int .i64)) v9, .d .deep (.sl (.pair (.int .i64) (.pair (.int .i64) (.sl (.int .i64))))) v10, .d .deep (.sl (.int .i64)) v11, iL v12, iL v13], false, false, false, 0, 0⟩ :: nn 1 (vc (.d .deep (.sl .bool) v14) :: nn 17 (vc (.d .fro (.sl (.int .i64)) v15) :: vc (iL v16) :: vc (iL v17) :: nn 20 ([])))))) = spec_PlaySink.t6 (fun b => some (spec_PlaySink.mk b)) spec_PlaySink.q1006 spec_PlaySink.q6 v0 v1 v2 v3 v4 v5 v6 v7 v8 v9 v10 v11 v12 v13 v14 v15 v16 v17 := by kernel_rfl
theorem spec_PlaySink.eq (v0 : List Int) (v1 : List Int) {b : (List Int) × Int × (List Int) × (List (Int × Int × List Int)) × (List Int) × Int × Int × (List Bool) × Bool} (h : spec_PlaySink.t some spec_PlaySink.l1006 spec_PlaySink.l6 v0 v1 = some b) : spec_PlaySink v0 v1 = some b := tOf_intro spec_PlaySink.un (fun _ => by kernel_rfl) (vlim_fn (callT_le E tab) rfl rfl rfl ((spec_PlaySink.k v0 v1).trans ((by unfold spec_PlaySink.t; repeat' first | exact Sub.ret | exact Sub.none | exact Sub.loop | apply Sub.cond | (apply Sub.bind; intro _) : Sub spec_PlaySink.mk _ _) b h)))
theorem spec_PlaySink.eq1006 (v0 : List Int) (v1 : Int) (v2 : List Int) (v3 : List (Int × Int × List Int)) (v4 : List Int) (v5 : Int) (v6 : Int) (v7 : Int) (v8 : Int) (v9 : Int) (v10 : List Bool) (v11 : List Int) (v12 : Int) (v13 : Int) {b : (List Int) × Int × (List Int) × (List (Int × Int × List Int)) × (List Int) × Int × Int × (List Bool) × Bool} (h : spec_PlaySink.t1006 some spec_PlaySink.l1006 spec_PlaySink.l6 v0 v1 v2 v3 v4 v5 v6 v7 v8 v9 v10 v11 v12 v13 = some b) : spec_PlaySink.l1006 v0 v1 v2 v3 v4 v5 v6 v7 v8 v9 v10 v11 v12 v13 = some b := tOf_intro spec_PlaySink.un (fun _ => by kernel_rfl) (loopAtL_step ((spec_PlaySink.k1006 v0 v1 v2 v3 v4 v5 v6 v7 v8 v9 v10 v11 v12 v13).trans ((by unfold spec_PlaySink.t1006; repeat' first | exact Sub.ret | exact Sub.none | exact Sub.loop | apply Sub.cond | (apply Sub.bind; intro _) : Sub spec_PlaySink.mk _ _) b h)))
theorem spec_PlaySink.eq6 (v0 : List Int) (v1 : Int) (v2 : List Int) (v3 : List (Int × Int × List Int)) (v4 : List Int) (v5 : Int) (v6 : Int) (v7 : List Int) (v8 : Int) (v9 : List Int) (v10 : List (Int × Int × List Int)) (v11 : List Int) (v12 : Int) (v13 : Int) (v14 : List Bool) (v15 : List Int) (v16 : Int) (v17 : Int) {b : (List Int) × Int × (List Int) × (List (Int × Int × List Int)) × (List Int) × Int × Int × (List Bool) × Bool} (h : spec_PlaySink.t6 some spec_PlaySink.l1006 spec_PlaySink.l6 v0 v1 v2 v3 v4 v5 v6 v7 v8 v9 v10 v11 v12 v13 v14 v15 v16 v17 = some b) : spec_PlaySink.l6 v0 v1 v2 v3 v4 v5 v6 v7 v8 v9 v10 v11 v12 v13 v14 v15 v16 v17 = some b := tOf_intro spec_PlaySink.un (fun _ => by kernel_rfl) (loopAtL_step ((spec_PlaySink.k6 v0 v1 v2 v3 v4 v5 v6 v7 v8 v9 v10 v11 v12 v13 v14 v15 v16 v17).trans ((by unfold spec_PlaySink.t6; repeat' first | exact Sub.ret | exact Sub.none | exact Sub.loop | apply Sub.cond | (apply Sub.bind; intro _) : Sub spec_PlaySink.mk _ _) b h)))
noncomputable def spec_NewSink.t {γ : Type} (ret : ((List Int) × Int × (List Int) × (List (Int × Int × List Int)) × (List Int) × Int × Int × Bool) → Option γ) (v0 : List Int) : Option γ :=
 bif decide ((↑v0.length : Int) > (30 : Int)) then
  ret ([], (0 : Int), [], [], [], (0 : Int), (0 : Int), Bool.false)
 else
  bif decide (([] : List Int).length + v0.length ≤ (4294967296 : Nat)) then
   ret ([] ++ v0, (0 : Int), [], [], [], (0 : Int), (0 : Int), Bool.true)
  else
   none
theorem spec_NewSink.k (v0 : List Int) : topL E (callT E tab) 58 Try.f58 (spec_NewSink.c v0) = spec_NewSink.t (fun b => some (spec_NewSink.mk b)) v0 := by kernel_rfl
theorem spec_NewSink.eq (v0 : List Int) {b : (List Int) × Int × (List Int) × (List (Int × Int × List Int)) × (List Int) × Int × Int × Bool} (h : spec_NewSink.t some v0 = some b) : spec_NewSink v0 = some b := tOf_intro spec_NewSink.un (fun _ => by kernel_rfl) (vlim_fn (callT_le E tab) rfl rfl rfl ((spec_NewSink.k v0).trans ((by unfold spec_NewSink.t; repeat' first | exact Sub.ret | exact Sub.none | exact Sub.loop | apply Sub.cond | (apply Sub.bind; intro _) : Sub spec_NewSink.mk _ _) b h)))
noncomputable def impl_StepSink.t {γ : Type} (ret : ((List Int) × Int × (List Int) × (List (Int × Int × List Int)) × (List Int) × Int × Int × Bool) → Option γ) (v0 : List Int) (v1 : Int) (v2 : List Int) (v3 : List (Int × Int × List Int)) (v4 : List Int) (v5 : Int) (v6 : Int) (v7 : Int) : Option γ :=
 (impl_GoodSink (v0) (v1) (v2) (v3) (v4) (v5) (v6)).bind fun (r0 : Bool) =>
 bif !r0 then
  ret ([], (0 : Int), [], [], [], (0 : Int), (0 : Int), Bool.false)
 else
  (impl_Sink_own (v0) (v1) (v2) (v3) (v4) (v5) (v6)).bind fun (r1 : (List Int) × Int × (List Int) × (List (Int × Int × List Int)) × (List Int) × Int × Int) =>
  (impl_Sink_step_1e4 (r1.fst) (r1.snd.fst) (r1.snd.snd.fst) (r1.snd.snd.snd.fst) (r1.snd.snd.snd.snd.fst) (r1.snd.snd.snd.snd.snd.fst) (r1.snd.snd.snd.snd.snd.snd) (v7)).bind fun (r2 : Bool × (List Int) × Int × (List Int) × (List (Int × Int × List Int)) × (List Int) × Int × Int) =>
  bif !r2.fst then
   ret ([], (0 : Int), [], [], [], (0 : Int), (0 : Int), Bool.false)
  else
   (impl_Sink_own (r2.snd.fst) (r2.snd.snd.fst) (r2.snd.snd.snd.fst) (r2.snd.snd.snd.snd.fst) (r2.snd.snd.snd.snd.snd.fst) (r2.snd.snd.snd.snd.snd.snd.fst) (r2.snd.snd.snd.snd.snd.snd.snd)).bind fun (r3 : (List Int) × Int × (List Int) × (List (Int × Int × List Int)) × (List Int) × Int × Int) =>
   ret (r3.fst, r3.snd.fst, r3.snd.snd.fst, r3.snd.snd.snd.fst, r3.snd.snd.snd.snd.fst, r3.snd.snd.snd.snd.snd.fst, r3.snd.snd.snd.snd.snd.snd, Bool.true)
theorem impl_StepSink.k (v0 : List Int) (v1 : Int) (v2 : List Int) (v3 : List (Int × Int × List Int)) (v4 : List Int) (v5 : Int) (v6 : Int) (v7 : Int) : topL E (callT E tab) 16 Try.f16 (impl_StepSink.c v0 v1 v2 v3 v4 v5 v6 v7) = impl_StepSink.t (fun b => some (impl_StepSink.mk b)) v0 v1 v2 v3 v4 v5 v6 v7 := by kernel_rfl
theorem impl_StepSink.eq (v0 : List Int) (v1 : Int) (v2 : List Int) (v3 : List (Int × Int × List Int)) (v4 : List Int) (v5 : Int) (v6 : Int) (v7 : Int) {b : (List Int) × Int × (List Int) × (List (Int × Int × List Int)) × (List Int) × Int × Int × Bool} (h : impl_StepSink.t some v0 v1 v2 v3 v4 v5 v6 v7 = some b) : impl_StepSink v0 v1 v2 v3 v4 v5 v6 v7 = some b := tOf_intro impl_StepSink.un (fun _ => by kernel_rfl) (vlim_fn (callT_le E tab) rfl rfl rfl ((impl_StepSink.k v0 v1 v2 v3 v4 v5 v6 v7).trans ((by unfold impl_StepSink.t; repeat' first | exact Sub.ret | exact Sub.none | exact Sub.loop | apply Sub.cond | (apply Sub.bind; intro _) : Sub impl_StepSink.mk _ _) b h)))
noncomputable def spec_StepSink.t {γ : Type} (ret : ((List Int) × Int × (List Int) × (List (Int × Int × List Int)) × (List Int) × Int × Int × Bool) → Option γ) (v0 : List Int) (v1 : Int) (v2 : List Int) (v3 : List (Int × Int × List Int)) (v4 : List Int) (v5 : Int) (v6 : Int) (v7 : Int) : Option γ :=
 (spec_GoodSink (v0) (v1) (v2) (v3) (v4) (v5) (v6)).bind fun (r0 : Bool) =>
 bif !r0 then
  ret ([], (0 : Int), [], [], [], (0 : Int), (0 : Int), Bool.false)
 else
  (spec_l16Own (v0) (v1) (v2) (v3) (v4) (v5) (v6)).bind fun (r1 : (List Int) × Int × (List Int) × (List (Int × Int × List Int)) × (List Int) × Int × Int) =>
  (spec_l16Step_3ad (r1.fst) (r1.snd.fst) (r1.snd.snd.fst) (r1.snd.snd.snd.fst) (r1.snd.snd.snd.snd.fst) (r1.snd.snd.snd.snd.snd.fst) (r1.snd.snd.snd.snd.snd.snd) (v7)).bind fun (r2 : (Int × Int × Int × Bool × (List Int) × Int × (List Int) × (List (Int × Int × List Int)) × (List Int) × Int × Int) ⊕ ((List Int) × Int × (List Int) × (List (Int × Int × List Int)) × (List Int) × Int × Int × Bool × Int × Int × Int)) =>
  bif r2.isLeft then
   bif !(inL r2 ((0 : Int), (0 : Int), (0 : Int), Bool.false, [], (0 : Int), [], [], [], (0 : Int), (0 : Int))).snd.snd.snd.fst then
    ret ([], (0 : Int), [], [], [], (0 : Int), (0 : Int), Bool.false)
   else
    none
  else
   bif !(inR r2 ([], (0 : Int), [], [], [], (0 : Int), (0 : Int), Bool.false, (0 : Int), (0 : Int), (0 : Int))).snd.snd.snd.snd.snd.snd.snd.fst then
    ret ([], (0 : Int), [], [], [], (0 : Int), (0 : Int), Bool.false)
   else
    (spec_l16Own ((inR r2 ([], (0 : Int), [], [], [], (0 : Int), (0 : Int), Bool.false, (0 : Int), (0 : Int), (0 : Int))).fst) ((inR r2 ([], (0 : Int), [], [], [], (0 : Int), (0 : Int), Bool.false, (0 : Int), (0 : Int), (0 : Int))).snd.fst) ((inR r2 ([], (0 : Int), [], [], [], (0 : Int), (0 : Int), Bool.false, (0 : Int), (0 : Int), (0 : Int))).snd.snd.fst) ((inR r2 ([], (0 : Int), [], [], [], (0 : Int), (0 : Int), Bool.false, (0 : Int), (0 : Int), (0 : Int))).snd.snd.snd.fst) ((inR r2 ([], (0 : Int), [], [], [], (0 : Int), (0 : Int), Bool.false, (0 : Int), (0 : Int), (0 : Int))).snd.snd.snd.snd.fst) ((inR r2 ([], (0 : Int), [], [], [], (0 : Int), (0 : Int), Bool.false, (0 : Int), (0 : Int), (0 : Int))).snd.snd.snd.snd.snd.fst) ((inR r2 ([], (0 : Int), [], [], [], (0 : Int), (0 : Int), Bool.false, (0 : Int), (0 : Int), (0 : Int))).snd.snd.snd.snd.snd.snd.fst)).bind fun (r3 : (List Int) × Int × (List Int) × (List (Int × Int × List Int)) × (List Int) × Int × Int) =>
    ret (r3.fst, r3.snd.fst, r3.snd.snd.fst, r3.snd.snd.snd.fst, r3.snd.snd.snd.snd.fst, r3.snd.snd.snd.snd.snd.fst, r3.snd.snd.snd.snd.snd.snd, Bool.true)
theorem spec_StepSink.k (v0 : List Int) (v1 : Int) (v2 : List Int) (v3 : List (Int × Int × List Int)) (v4 : List Int) (v5 : Int) (v6 : Int) (v7 : Int) : topL E (callT E tab) 17 Try.f17 (spec_StepSink.c v0 v1 v2 v3 v4 v5 v6 v7) = spec_StepSink.t (fun b => some (spec_StepSink.mk b)) v0 v1 v2 v3 v4 v5 v6 v7 := by kernel_rfl
theorem spec_StepSink.eq (v0 : List Int) (v1 : Int) (v2 : List Int) (v3 : List (Int × Int × List Int)) (v4 : List Int) (v5 : Int) (v6 : Int) (v7 : Int) {b : (List Int) × Int × (List Int) × (List (Int × Int × List Int)) × (List Int) × Int × Int × Bool} (h : spec_StepSink.t some v0 v1 v2 v3 v4 v5 v6 v7 = some b) : spec_StepSink v0 v1 v2 v3 v4 v5 v6 v7 = some b := tOf_intro spec_StepSink.un (fun _ => by kernel_rfl) (vlim_fn (callT_le E tab) rfl rfl rfl ((spec_StepSink.k v0 v1 v2 v3 v4 v5 v6 v7).trans ((by unfold spec_StepSink.t; repeat' first | exact Sub.ret | exact Sub.none | exact Sub.loop | apply Sub.cond | (apply Sub.bind; intro _) : Sub spec_StepSink.mk _ _) b h)))
noncomputable def laws_sameSinks.q4 (v0 : List Int) (v1 : Int) (v2 : List Int) (v3 : List (Int × Int × List Int)) (v4 : List Int) (v5 : Int) (v6 : Int) (v7 : List Int) (v8 : Int) (v9 : List Int) (v10 : List (Int × Int × List Int)) (v11 : List Int) (v12 : Int) (v13 : Int) (v14 : Int) (v15 : Int) : Option R := loopAtL E (callT E tab) 18 Try.f18 2 [.r, .r, .l, .r, .b] (nn 2 (⟨(.box false), [.d .fro (.sl (.int .i64)) v0, iL v1, .d .fro (.sl (.int .i64)) v2, .d .fro (.sl (.pair (.int .i64) (.pair (.int .i64) (.sl (.int .i64))))) v3, .d .fro (.sl (.int .i64)) v4, iL v5, iL v6], false, false, false, 0, 0⟩ :: ⟨(.box false), [.d .fro (.sl (.int .i64)) v7, iL v8, .d .fro (.sl (.int .i64)) v9, .d .fro (.sl (.pair (.int .i64) (.pair (.int .i64) (.sl (.int .i64))))) v10, .d .fro (.sl (.int .i64)) v11, iL v12, iL v13], false, false, false, 0, 0⟩ :: nn 56 (vc (iL v14) :: vc (iL v15) :: nn 47 ([]))))
noncomputable def laws_sameSinks.l4 (v0 : List Int) (v1 : Int) (v2 : List Int) (v3 : List (Int × Int × List Int)) (v4 : List Int) (v5 : Int) (v6 : Int) (v7 : List Int) (v8 : Int) (v9 : List Int) (v10 : List (Int × Int × List Int)) (v11 : List Int) (v12 : Int) (v13 : Int) (v14 : Int) (v15 : Int) : Option (Bool) := tOf laws_sameSinks.mk (laws_sameSinks.q4 v0 v1 v2 v3 v4 v5 v6 v7 v8 v9 v10 v11 v12 v13 v14 v15)
noncomputable def laws_sameSinks.t {γ : Type} (ret : (Bool) → Option γ) (lp4 : (List Int) → Int → (List Int) → (List (Int × Int × List Int)) → (List Int) → Int → Int → (List Int) → Int → (List Int) → (List (Int × Int × List Int)) → (List Int) → Int → Int → Int → Int → Option γ) (v0 : List Int) (v1 : Int) (v2 : List Int) (v3 : List (Int × Int × List Int)) (v4 : List Int) (v5 : Int) (v6 : Int) (v7 : List Int) (v8 : Int) (v9 : List Int) (v10 : List (Int × Int × List Int)) (v11 : List Int) (v12 : Int) (v13 : Int) : Option γ :=
 (laws_sameInts (v0) (v7)).bind fun (r0 : Bool) =>
 bif !r0 then
  ret (Bool.false)
 else
  bif v1 != v8 then
   ret (Bool.false)
  else
   (laws_sameInts (v2) (v9)).bind fun (r1 : Bool) =>
   bif !r1 then
    ret (Bool.false)
   else
    (laws_sameInts (v4) (v11)).bind fun (r2 : Bool) =>
    bif !r2 then
     ret (Bool.false)
    else
     bif v5 != v12 then
      ret (Bool.false)
     else
      bif v6 != v13 then
       ret (Bool.false)
      else
       bif (↑v3.length : Int) != (↑v10.length : Int) then
        ret (Bool.false)
       else
        lp4 (v0) (v1) (v2) (v3) (v4) (v5) (v6) (v7) (v8) (v9) (v10) (v11) (v12) (v13) ((↑v3.length : Int)) ((0 : Int))
noncomputable def laws_sameSinks.t4 {γ : Type} (ret : (Bool) → Option γ) (lp4 : (List Int) → Int → (List Int) → (List (Int × Int × List Int)) → (List Int) → Int → Int → (List Int) → Int → (List Int) → (List (Int × Int × List Int)) → (List Int) → Int → Int → Int → Int → Option γ) (v0 : List Int) (v1 : Int) (v2 : List Int) (v3 : List (Int × Int × List Int)) (v4 : List Int) (v5 : Int) (v6 : Int) (v7 : List Int) (v8 : Int) (v9 : List Int) (v10 : List (Int × Int × List Int)) (v11 : List Int) (v12 : Int) (v13 : Int) (v14 : Int) (v15 : Int) : Option γ :=
 bif decide (v15 < v14) then
  bif decide ((0 : Int) ≤ v15) then
   bif decide (v15.toNat < v3.length) then
    bif decide ((0 : Int) ≤ v15) then
     bif decide (v15.toNat < v10.length) then
      bif (v3.getD v15.toNat ((0 : Int), (0 : Int), [])).fst != (v10.getD v15.toNat ((0 : Int), (0 : Int), [])).fst then
       ret (Bool.false)
      else
       bif decide ((0 : Int) ≤ v15) then
        bif decide (v15.toNat < v3.length) then
         bif decide ((0 : Int) ≤ v15) then
          bif decide (v15.toNat < v10.length) then
           bif (v3.getD v15.toNat ((0 : Int), (0 : Int), [])).snd.fst != (v10.getD v15.toNat ((0 : Int), (0 : Int), [])).snd.fst then
            ret (Bool.false)
           else
            bif decide ((0 : Int) ≤ v15) then
             bif decide (v15.toNat < v3.length) then
              bif decide ((0 : Int) ≤ v15) then
               bif decide (v15.toNat < v10.length) then
                (laws_sameInts ((v3.getD v15.toNat ((0 : Int), (0 : Int), [])).snd.snd) ((v10.getD v15.toNat ((0 : Int), (0 : Int), [])).snd.snd)).bind fun (r3 : Bool) =>
                bif !r3 then
                 ret (Bool.false)
                else
                 lp4 (v0) (v1) (v2) (v3) (v4) (v5) (v6) (v7) (v8) (v9) (v10) (v11) (v12) (v13) (v14) (IntKind.i64.wrap (v15 + (1 : Int)))
               else
                none
              else
               none
             else
              none
            else
             none
          else
           none
         else
          none
        else
         none
       else
        none
     else
      none
    else
     none
   else
    none
  else
   none
 else
  ret (Bool.true)
theorem laws_sameSinks.k (v0 : List Int) (v1 : Int) (v2 : List Int) (v3 : List (Int × Int × List Int)) (v4 : List Int) (v5 : Int) (v6 : Int) (v7 : List Int) (v8 : Int) (v9 : List Int) (v10 : List (Int × Int × List Int)) (v11 : List Int) (v12 : Int) (v13 : Int) : topL E (callT E tab) 18 Try.f18 (laws_sameSinks.c v0 v1 v2 v3 v4 v5 v6 v7 v8 v9 v10 v11 v12 v13) = laws_sameSinks.t (fun b => some (laws_sameSinks.mk b)) laws_sameSinks.q4 v0 v1 v2 v3 v4 v5 v6 v7 v8 v9 v10 v11 v12 v13 := by kernel_rfl
theorem laws_sameSinks.k4 (v0 : List Int) (v1 : Int) (v2 : List Int) (v3 : List (Int × Int × List Int)) (v4 : List Int) (v5 : Int) (v6 : Int) (v7 : List Int) (v8 : Int) (v9 : List Int) (v10 : List (Int × Int × List Int)) (v11 : List Int) (v12 : Int) (v13 : Int) (v14 : Int) (v15 : Int) : roundL E (callT E tab) 18 Try.f18 2 [.r, .r, .l, .r, .b] (nn 2 (⟨(.box false), [.d .fro (.sl (.int .i64)) v0, iL v1, .d .fro (.sl (.int .i64)) v2, .d .fro (.sl (.pair (.int .i64) (.pair (.int .i64) (.sl (.int .i64))))) v3, .d .fro (.sl (.int .i64)) v4, iL v5, iL v6], false, false, false, 0, 0⟩ :: ⟨(.box false), [.d .fro (.sl (.int .i64)) v7, iL v8, .d .fro (.sl (.int .i64)) v9, .d .fro (.sl (.pair (.int .i64) (.pair (.int .i64) (.sl (.int .i64))))) v10, .d .fro (.sl (.int .i64)) v11, iL v12, iL v13], false, false, false, 0, 0⟩ :: nn 56 (vc (iL v14) :: vc (iL v15) :: nn 47 ([])))) = laws_sameSinks.t4 (fun b => some (laws_sameSinks.mk b)) laws_sameSinks.q4 v0 v1 v2 v3 v4 v5 v6 v7 v8 v9 v10 v11 v12 v13 v14 v15 := by kernel_rfl
theorem laws_sameSinks.eq (v0 : List Int) (v1 : Int) (v2 : List Int) (v3 : List (Int × Int × List Int)) (v4 : List Int) (v5 : Int) (v6 : Int) (v7 : List Int) (v8 : Int) (v9 : List Int) (v10 : List (Int × Int × List Int)) (v11 : List Int) (v12 : Int) (v13 : Int) {b : Bool} (h : laws_sameSinks.t some laws_sameSinks.l4 v0 v1 v2 v3 v4 v5 v6 v7 v8 v9 v10 v11 v12 v13 = some b) : laws_sameSinks v0 v1 v2 v3 v4 v5 v6 v7 v8 v9 v10 v11 v12 v13 = some b := tOf_intro laws_sameSinks.un (fun _ => by kernel_rfl) (vlim_fn (callT_le E tab) rfl rfl rfl ((laws_sameSinks.k v0 v1 v2 v3 v4 v5 v6 v7 v8 v9 v10 v11 v12 v13).trans ((by unfold laws_sameSinks.t; repeat' first | exact Sub.ret | exact Sub.none | exact Sub.loop | apply Sub.cond | (apply Sub.bind; intro _) : Sub laws_sameSinks.mk _ _) b h)))
theorem laws_sameSinks.eq4 (v0 : List Int) (v1 : Int) (v2 : List Int) (v3 : List (Int × Int × List Int)) (v4 : List Int) (v5 : Int) (v6 : Int) (v7 : List Int) (v8 : Int) (v9 : List Int) (v10 : List (Int × Int × List Int)) (v11 : List Int) (v12 : Int) (v13 : Int) (v14 : Int) (v15 : Int) {b : Bool} (h : laws_sameSinks.t4 some laws_sameSinks.l4 v0 v1 v2 v3 v4 v5 v6 v7 v8 v9 v10 v11 v12 v13 v14 v15 = some b) : laws_sameSinks.l4 v0 v1 v2 v3 v4 v5 v6 v7 v8 v9 v10 v11 v12 v13 v14 v15 = some b := tOf_intro laws_sameSinks.un (fun _ => by kernel_rfl) (loopAtL_step ((laws_sameSinks.k4 v0 v1 v2 v3 v4 v5 v6 v7 v8 v9 v10 v11 v12 v13 v14 v15).trans ((by unfold laws_sameSinks.t4; repeat' first | exact Sub.ret | exact Sub.none | exact Sub.loop | apply Sub.cond | (apply Sub.bind; intro _) : Sub laws_sameSinks.mk _ _) b h)))
noncomputable def laws_sameInts.q4 (v0 : List Int) (v1 : List Int) (v2 : Int) (v3 : Int) : Option R := loopAtL E (callT E tab) 21 Try.f21 2 [.r, .r, .l, .r, .b] (vc (.d .fro (.sl (.int .i64)) v0) :: vc (.d .fro (.sl (.int .i64)) v1) :: nn 10 (vc (iL v2) :: vc (iL v3) :: nn 12 ([])))
noncomputable def laws_sameInts.l4 (v0 : List Int) (v1 : List Int) (v2 : Int) (v3 : Int) : Option (Bool) := tOf laws_sameInts.mk (laws_sameInts.q4 v0 v1 v2 v3)
noncomputable def laws_sameInts.t {γ : Type} (ret : (Bool) → Option γ) (lp4 : (List Int) → (List Int) → Int → Int → Option γ) (v0 : List Int) (v1 : List Int) : Option γ :=
 bif (↑v0.length : Int) != (↑v1.length : Int) then
  ret (Bool.false)
 else
  lp4 (v0) (v1) ((↑v0.length : Int)) ((0 : Int))
noncomputable def laws_sameInts.t4 {γ : Type} (ret : (Bool) → Option γ) (lp4 : (List Int) → (List Int) → Int → Int → Option γ) (v0 : List Int) (v1 : List Int) (v2 : Int) (v3 : Int) : Option γ :=
 bif decide (v3 < v2) then
  bif decide ((0 : Int) ≤ v3) then
   bif decide (v3.toNat < v0.length) then
    bif decide ((0 : Int) ≤ v3) then
     bif decide (v3.toNat < v1.length) then
      bif v0.getD v3.toNat (0 : Int) != v1.getD v3.toNat (0 : Int) then
       ret (Bool.false)
      else
       lp4 (v0) (v1) (v2) (IntKind.i64.wrap (v3 + (1 : Int)))
     else
      none
    else
     none
   else
    none
  else
   none
 else
  ret (Bool.true)
theorem laws_sameInts.k (v0 : List Int) (v1 : List Int) : topL E (callT E tab) 21 Try.f21 (laws_sameInts.c v0 v1) = laws_sameInts.t (fun b => some (laws_sameInts.mk b)) laws_sameInts.q4 v0 v1 := by kernel_rfl
theorem laws_sameInts.k4 (v0 : List Int) (v1 : List Int) (v2 : Int) (v3 : Int) : roundL E (callT E tab) 21 Try.f21 2 [.r, .r, .l, .r, .b] (vc (.d .fro (.sl (.int .i64)) v0) :: vc (.d .fro (.sl (.int .i64)) v1) :: nn 10 (vc (iL v2) :: vc (iL v3) :: nn 12 ([]))) = laws_sameInts.t4 (fun b => some (laws_sameInts.mk b)) laws_sameInts.q4 v0 v1 v2 v3 := by kernel_rfl
theorem laws_sameInts.eq (v0 : List Int) (v1 : List Int) {b : Bool} (h : laws_sameInts.t some laws_sameInts.l4 v0 v1 = some b) : laws_sameInts v0 v1 = some b := tOf_intro laws_sameInts.un (fun _ => by kernel_rfl) (vlim_fn (callT_le E tab) rfl rfl rfl ((laws_sameInts.k v0 v1).trans ((by unfold laws_sameInts.t; repeat' first | exact Sub.ret | exact Sub.none | exact Sub.loop | apply Sub.cond | (apply Sub.bind; intro _) : Sub laws_sameInts.mk _ _) b h)))
theorem laws_sameInts.eq4 (v0 : List Int) (v1 : List Int) (v2 : Int) (v3 : Int) {b : Bool} (h : laws_sameInts.t4 some laws_sameInts.l4 v0 v1 v2 v3 = some b) : laws_sameInts.l4 v0 v1 v2 v3 = some b := tOf_intro laws_sameInts.un (fun _ => by kernel_rfl) (loopAtL_step ((laws_sameInts.k4 v0 v1 v2 v3).trans ((by unfold laws_sameInts.t4; repeat' first | exact Sub.ret | exact Sub.none | exact Sub.loop | apply Sub.cond | (apply Sub.bind; intro _) : Sub laws_sameInts.mk _ _) b h)))
noncomputable def spec_DrawDrainSink.t {γ : Type} (ret : ((List Int) × Int × (List Int) × (List (Int × Int × List Int)) × (List Int) × Int × Int) → Option γ) (v0 : List Int) : Option γ :=
 (spec_DrawGoodSink (v0)).bind fun (r0 : (List Int) × Int × (List Int) × (List (Int × Int × List Int)) × (List Int) × Int × Int) =>
 ret (r0.fst, r0.snd.fst, r0.snd.snd.fst, r0.snd.snd.snd.fst, r0.snd.snd.snd.snd.fst, r0.snd.snd.snd.snd.snd.fst, r0.snd.snd.snd.snd.snd.snd)
theorem spec_DrawDrainSink.k (v0 : List Int) : topL E (callT E tab) 22 Try.f22 (spec_DrawDrainSink.c v0) = spec_DrawDrainSink.t (fun b => some (spec_DrawDrainSink.mk b)) v0 := by kernel_rfl
theorem spec_DrawDrainSink.eq (v0 : List Int) {b : (List Int) × Int × (List Int) × (List (Int × Int × List Int)) × (List Int) × Int × Int} (h : spec_DrawDrainSink.t some v0 = some b) : spec_DrawDrainSink v0 = some b := tOf_intro spec_DrawDrainSink.un (fun _ => by kernel_rfl) (vlim_fn (callT_le E tab) rfl rfl rfl ((spec_DrawDrainSink.k v0).trans ((by unfold spec_DrawDrainSink.t; repeat' first | exact Sub.ret | exact Sub.none | exact Sub.loop | apply Sub.cond | (apply Sub.bind; intro _) : Sub spec_DrawDrainSink.mk _ _) b h)))
noncomputable def spec_DrawGoodSink.t {γ : Type} (ret : ((List Int) × Int × (List Int) × (List (Int × Int × List Int)) × (List Int) × Int × Int) → Option γ) (v0 : List Int) : Option γ :=
 (xs0b (v0) ((0 : Int)) ((0 : Int))).bind fun (r0 : (List Int) × Int × (List Int) × (List (Int × Int × List Int)) × (List Int) × Int × Int × (List Int) × Int × Int) =>
 ret (r0.fst, r0.snd.fst, r0.snd.snd.fst, r0.snd.snd.snd.fst, r0.snd.snd.snd.snd.fst, r0.snd.snd.snd.snd.snd.fst, r0.snd.snd.snd.snd.snd.snd.fst)
theorem spec_DrawGoodSink.k (v0 : List Int) : topL E (callT E tab) 48 Try.f48 (spec_DrawGoodSink.c v0) = spec_DrawGoodSink.t (fun b => some (spec_DrawGoodSink.mk b)) v0 := by kernel_rfl
theorem spec_DrawGoodSink.eq (v0 : List Int) {b : (List Int) × Int × (List Int) × (List (Int × Int × List Int)) × (List Int) × Int × Int} (h : spec_DrawGoodSink.t some v0 = some b) : spec_DrawGoodSink v0 = some b := tOf_intro spec_DrawGoodSink.un (fun _ => by kernel_rfl) (vlim_fn (callT_le E tab) rfl rfl rfl ((spec_DrawGoodSink.k v0).trans ((by unfold spec_DrawGoodSink.t; repeat' first | exact Sub.ret | exact Sub.none | exact Sub.loop | apply Sub.cond | (apply Sub.bind; intro _) : Sub spec_DrawGoodSink.mk _ _) b h)))
end GoV
