/- A part of the proof of FnExactPlaySink: an interpreter of the model over plain data, its soundness, and what it makes of the functions that the statement reaches. Conditions: none beyond what the given statement itself says. -/
import Derived.Test.YtnfegdcbofnjhaaTH
set_option linter.unusedVariables false
set_option linter.unusedSimpArgs false
set_option linter.unnecessarySimpa false
set_option linter.unusedSectionVars false
/- The functions of the program, each told by what it answers in the end (printed by wip/tools/emit.py). -/
/-! Names of functions here: xl00 = laws_markPreparedS_f51, xi01 = impl_Sink_prepare_dfc, xi02 = impl_Sink_commit_dfc, xl03 = laws_FnExactPlaySink, xs04 = slices_Clone_int_int, xi05 = impl_Sink_crash_dfc -/
namespace GoV
open Go Go.Proofs
set_option maxRecDepth 100000

def xl03.c (v0 : List Int) (v1 : List Int) : List Cell := vc (.d .fro (.sl (.int .i64)) v0) :: vc (.d .fro (.sl (.int .i64)) v1) :: []
def xl03.mk (b : Bool) : R := (⟨.one, [bL b]⟩, nn 2 ([]))
def xl03.un (r : R) : Bool := ((leafR r 0).dat .bool)
noncomputable def xl03 (v0 : List Int) (v1 : List Int) : Option (Bool) := tOf xl03.mk (vlim E 4 (xl03.c v0 v1))
def laws_toIntS.c (v0 : List Int) : List Cell := vc (.d .fro (.sl (.int .i64)) v0) :: []
def laws_toIntS.mk (b : (List Int)) : R := (⟨.one, [.d .deep (.sl (.int .i64)) b]⟩, nn 1 ([]))
def laws_toIntS.un (r : R) : (List Int) := ((leafR r 0).dat (.sl (.int .i64)))
noncomputable def laws_toIntS (v0 : List Int) : Option ((List Int)) := tOf laws_toIntS.mk (vlim E 19 (laws_toIntS.c v0))
def spec_PlaySink.c (v0 : List Int) (v1 : List Int) : List Cell := vc (.d .fro (.sl (.int .i64)) v0) :: vc (.d .fro (.sl (.int .i64)) v1) :: []
def spec_PlaySink.mk (b : (List Int) × Int × (List Int) × (List (Int × Int × List Int)) × (List Int) × Int × Int × (List Bool) × Bool) : R := (⟨(.tup [some 7, none, none]), [.d .deep (.sl (.int .i64)) b.1, iL b.2.1, .d .deep (.sl (.int .i64)) b.2.2.1, .d .deep (.sl (.pair (.int .i64) (.pair (.int .i64) (.sl (.int .i64))))) b.2.2.2.1, .d .deep (.sl (.int .i64)) b.2.2.2.2.1, iL b.2.2.2.2.2.1, iL b.2.2.2.2.2.2.1, .d .deep (.sl .bool) b.2.2.2.2.2.2.2.1, bL b.2.2.2.2.2.2.2.2]⟩, nn 2 ([]))
def spec_PlaySink.un (r : R) : (List Int) × Int × (List Int) × (List (Int × Int × List Int)) × (List Int) × Int × Int × (List Bool) × Bool := ((leafR r 0).dat (.sl (.int .i64)), (leafR r 1).dat (.int .i64), (leafR r 2).dat (.sl (.int .i64)), (leafR r 3).dat (.sl (.pair (.int .i64) (.pair (.int .i64) (.sl (.int .i64))))), (leafR r 4).dat (.sl (.int .i64)), (leafR r 5).dat (.int .i64), (leafR r 6).dat (.int .i64), (leafR r 7).dat (.sl .bool), (leafR r 8).dat .bool)
noncomputable def spec_PlaySink (v0 : List Int) (v1 : List Int) : Option ((List Int) × Int × (List Int) × (List (Int × Int × List Int)) × (List Int) × Int × Int × (List Bool) × Bool) := tOf spec_PlaySink.mk (vlim E 18 (spec_PlaySink.c v0 v1))
def spec_NewSink.c (v0 : List Int) : List Cell := vc (.d .fro (.sl (.int .i64)) v0) :: []
def spec_NewSink.mk (b : (List Int) × Int × (List Int) × (List (Int × Int × List Int)) × (List Int) × Int × Int × Bool) : R := (⟨(.tup [some 7, none]), [.d .deep (.sl (.int .i64)) b.1, iL b.2.1, .d .deep (.sl (.int .i64)) b.2.2.1, .d .deep (.sl (.pair (.int .i64) (.pair (.int .i64) (.sl (.int .i64))))) b.2.2.2.1, .d .deep (.sl (.int .i64)) b.2.2.2.2.1, iL b.2.2.2.2.2.1, iL b.2.2.2.2.2.2.1, bL b.2.2.2.2.2.2.2]⟩, nn 1 ([]))
def spec_NewSink.un (r : R) : (List Int) × Int × (List Int) × (List (Int × Int × List Int)) × (List Int) × Int × Int × Bool := ((leafR r 0).dat (.sl (.int .i64)), (leafR r 1).dat (.int .i64), (leafR r 2).dat (.sl (.int .i64)), (leafR r 3).dat (.sl (.pair (.int .i64) (.pair (.int .i64) (.sl (.int .i64))))), (leafR r 4).dat (.sl (.int .i64)), (leafR r 5).dat (.int .i64), (leafR r 6).dat (.int .i64), (leafR r 7).dat .bool)
noncomputable def spec_NewSink (v0 : List Int) : Option ((List Int) × Int × (List Int) × (List (Int × Int × List Int)) × (List Int) × Int × Int × Bool) := tOf spec_NewSink.mk (vlim E 60 (spec_NewSink.c v0))
def spec_l16Own.c (v0 : List Int) (v1 : Int) (v2 : List Int) (v3 : List (Int × Int × List Int)) (v4 : List Int) (v5 : Int) (v6 : Int) : List Cell := ac [.d .fro (.sl (.int .i64)) v0, iL v1, .d .fro (.sl (.int .i64)) v2, .d .fro (.sl (.pair (.int .i64) (.pair (.int .i64) (.sl (.int .i64))))) v3, .d .fro (.sl (.int .i64)) v4, iL v5, iL v6] :: []
def spec_l16Own.mk (b : (List Int) × Int × (List Int) × (List (Int × Int × List Int)) × (List Int) × Int × Int) : R := (⟨.agg, [.d .deep (.sl (.int .i64)) b.1, iL b.2.1, .d .deep (.sl (.int .i64)) b.2.2.1, .d .deep (.sl (.pair (.int .i64) (.pair (.int .i64) (.sl (.int .i64))))) b.2.2.2.1, .d .deep (.sl (.int .i64)) b.2.2.2.2.1, iL b.2.2.2.2.2.1, iL b.2.2.2.2.2.2]⟩, nn 1 ([]))
def spec_l16Own.un (r : R) : (List Int) × Int × (List Int) × (List (Int × Int × List Int)) × (List Int) × Int × Int := ((leafR r 0).dat (.sl (.int .i64)), (leafR r 1).dat (.int .i64), (leafR r 2).dat (.sl (.int .i64)), (leafR r 3).dat (.sl (.pair (.int .i64) (.pair (.int .i64) (.sl (.int .i64))))), (leafR r 4).dat (.sl (.int .i64)), (leafR r 5).dat (.int .i64), (leafR r 6).dat (.int .i64))
noncomputable def spec_l16Own (v0 : List Int) (v1 : Int) (v2 : List Int) (v3 : List (Int × Int × List Int)) (v4 : List Int) (v5 : Int) (v6 : Int) : Option ((List Int) × Int × (List Int) × (List (Int × Int × List Int)) × (List Int) × Int × Int) := tOf spec_l16Own.mk (vlim E 62 (spec_l16Own.c v0 v1 v2 v3 v4 v5 v6))
def spec_l16Step_27a.c (v0 : List Int) (v1 : Int) (v2 : List Int) (v3 : List (Int × Int × List Int)) (v4 : List Int) (v5 : Int) (v6 : Int) (v7 : Int) : List Cell := ac [.d .deep (.sl (.int .i64)) v0, iL v1, .d .deep (.sl (.int .i64)) v2, .d .deep (.sl (.pair (.int .i64) (.pair (.int .i64) (.sl (.int .i64))))) v3, .d .deep (.sl (.int .i64)) v4, iL v5, iL v6] :: vc (iL v7) :: []
def spec_l16Step_27a.mk (b : (List Int) × Int × (List Int) × (List (Int × Int × List Int)) × (List Int) × Int × Int × Bool) : R := (⟨(.tup [some 7, none]), [.d .deep (.sl (.int .i64)) b.1, iL b.2.1, .d .deep (.sl (.int .i64)) b.2.2.1, .d .deep (.sl (.pair (.int .i64) (.pair (.int .i64) (.sl (.int .i64))))) b.2.2.2.1, .d .deep (.sl (.int .i64)) b.2.2.2.2.1, iL b.2.2.2.2.2.1, iL b.2.2.2.2.2.2.1, bL b.2.2.2.2.2.2.2]⟩, nn 2 ([]))
def spec_l16Step_27a.un (r : R) : (List Int) × Int × (List Int) × (List (Int × Int × List Int)) × (List Int) × Int × Int × Bool := ((leafR r 0).dat (.sl (.int .i64)), (leafR r 1).dat (.int .i64), (leafR r 2).dat (.sl (.int .i64)), (leafR r 3).dat (.sl (.pair (.int .i64) (.pair (.int .i64) (.sl (.int .i64))))), (leafR r 4).dat (.sl (.int .i64)), (leafR r 5).dat (.int .i64), (leafR r 6).dat (.int .i64), (leafR r 7).dat .bool)
noncomputable def spec_l16Step_27a (v0 : List Int) (v1 : Int) (v2 : List Int) (v3 : List (Int × Int × List Int)) (v4 : List Int) (v5 : Int) (v6 : Int) (v7 : Int) : Option ((List Int) × Int × (List Int) × (List (Int × Int × List Int)) × (List Int) × Int × Int × Bool) := tOf spec_l16Step_27a.mk (vlim E 61 (spec_l16Step_27a.c v0 v1 v2 v3 v4 v5 v6 v7))
def spec_l16Crash_5b7.c (v0 : List Int) (v1 : Int) (v2 : List Int) (v3 : List (Int × Int × List Int)) (v4 : List Int) (v5 : Int) (v6 : Int) : List Cell := ac [.d .deep (.sl (.int .i64)) v0, iL v1, .d .deep (.sl (.int .i64)) v2, .d .deep (.sl (.pair (.int .i64) (.pair (.int .i64) (.sl (.int .i64))))) v3, .d .deep (.sl (.int .i64)) v4, iL v5, iL v6] :: []
def spec_l16Crash_5b7.mk (b : (List Int) × Int × (List Int) × (List (Int × Int × List Int)) × (List Int) × Int × Int) : R := (⟨.agg, [.d .deep (.sl (.int .i64)) b.1, iL b.2.1, .d .deep (.sl (.int .i64)) b.2.2.1, .d .deep (.sl (.pair (.int .i64) (.pair (.int .i64) (.sl (.int .i64))))) b.2.2.2.1, .d .deep (.sl (.int .i64)) b.2.2.2.2.1, iL b.2.2.2.2.2.1, iL b.2.2.2.2.2.2]⟩, nn 1 ([]))
def spec_l16Crash_5b7.un (r : R) : (List Int) × Int × (List Int) × (List (Int × Int × List Int)) × (List Int) × Int × Int := ((leafR r 0).dat (.sl (.int .i64)), (leafR r 1).dat (.int .i64), (leafR r 2).dat (.sl (.int .i64)), (leafR r 3).dat (.sl (.pair (.int .i64) (.pair (.int .i64) (.sl (.int .i64))))), (leafR r 4).dat (.sl (.int .i64)), (leafR r 5).dat (.int .i64), (leafR r 6).dat (.int .i64))
noncomputable def spec_l16Crash_5b7 (v0 : List Int) (v1 : Int) (v2 : List Int) (v3 : List (Int × Int × List Int)) (v4 : List Int) (v5 : Int) (v6 : Int) : Option ((List Int) × Int × (List Int) × (List (Int × Int × List Int)) × (List Int) × Int × Int) := tOf spec_l16Crash_5b7.mk (vlim E 74 (spec_l16Crash_5b7.c v0 v1 v2 v3 v4 v5 v6))
def spec_l16From.c (v0 : List Int) (v1 : Int) (v2 : List Int) (v3 : List (Int × Int × List Int)) (v4 : List Int) (v5 : Int) (v6 : Int) : List Cell := ac [.d .fro (.sl (.int .i64)) v0, iL v1, .d .fro (.sl (.int .i64)) v2, .d .fro (.sl (.pair (.int .i64) (.pair (.int .i64) (.sl (.int .i64))))) v3, .d .fro (.sl (.int .i64)) v4, iL v5, iL v6] :: []
def spec_l16From.mk (b : Int) : R := (⟨.one, [iL b]⟩, nn 1 ([]))
def spec_l16From.un (r : R) : Int := ((leafR r 0).dat (.int .i64))
noncomputable def spec_l16From (v0 : List Int) (v1 : Int) (v2 : List Int) (v3 : List (Int × Int × List Int)) (v4 : List Int) (v5 : Int) (v6 : Int) : Option (Int) := tOf spec_l16From.mk (vlim E 103 (spec_l16From.c v0 v1 v2 v3 v4 v5 v6))
def impl_PlaySink.c (v0 : List Int) (v1 : List Int) : List Cell := vc (.d .fro (.sl (.int .i64)) v0) :: vc (.d .fro (.sl (.int .i64)) v1) :: []
def impl_PlaySink.mk (b : (List Int) × Int × (List Int) × (List (Int × Int × List Int)) × (List Int) × Int × Int × (List Bool) × Bool) : R := (⟨(.tup [some 7, none, none]), [.d .deep (.sl (.int .i64)) b.1, iL b.2.1, .d .deep (.sl (.int .i64)) b.2.2.1, .d .deep (.sl (.pair (.int .i64) (.pair (.int .i64) (.sl (.int .i64))))) b.2.2.2.1, .d .deep (.sl (.int .i64)) b.2.2.2.2.1, iL b.2.2.2.2.2.1, iL b.2.2.2.2.2.2.1, .d .deep (.sl .bool) b.2.2.2.2.2.2.2.1, bL b.2.2.2.2.2.2.2.2]⟩, nn 2 ([]))
def impl_PlaySink.un (r : R) : (List Int) × Int × (List Int) × (List (Int × Int × List Int)) × (List Int) × Int × Int × (List Bool) × Bool := ((leafR r 0).dat (.sl (.int .i64)), (leafR r 1).dat (.int .i64), (leafR r 2).dat (.sl (.int .i64)), (leafR r 3).dat (.sl (.pair (.int .i64) (.pair (.int .i64) (.sl (.int .i64))))), (leafR r 4).dat (.sl (.int .i64)), (leafR r 5).dat (.int .i64), (leafR r 6).dat (.int .i64), (leafR r 7).dat (.sl .bool), (leafR r 8).dat .bool)
noncomputable def impl_PlaySink (v0 : List Int) (v1 : List Int) : Option ((List Int) × Int × (List Int) × (List (Int × Int × List Int)) × (List Int) × Int × Int × (List Bool) × Bool) := tOf impl_PlaySink.mk (vlim E 20 (impl_PlaySink.c v0 v1))
def impl_NewSink.c (v0 : List Int) : List Cell := vc (.d .fro (.sl (.int .i64)) v0) :: []
def impl_NewSink.mk (b : (List Int) × Int × (List Int) × (List (Int × Int × List Int)) × (List Int) × Int × Int × Bool) : R := (⟨(.tup [some 7, none]), [.d .deep (.sl (.int .i64)) b.1, iL b.2.1, .d .deep (.sl (.int .i64)) b.2.2.1, .d .deep (.sl (.pair (.int .i64) (.pair (.int .i64) (.sl (.int .i64))))) b.2.2.2.1, .d .deep (.sl (.int .i64)) b.2.2.2.2.1, iL b.2.2.2.2.2.1, iL b.2.2.2.2.2.2.1, bL b.2.2.2.2.2.2.2]⟩, nn 1 ([]))
def impl_NewSink.un (r : R) : (List Int) × Int × (List Int) × (List (Int × Int × List Int)) × (List Int) × Int × Int × Bool := ((leafR r 0).dat (.sl (.int .i64)), (leafR r 1).dat (.int .i64), (leafR r 2).dat (.sl (.int .i64)), (leafR r 3).dat (.sl (.pair (.int .i64) (.pair (.int .i64) (.sl (.int .i64))))), (leafR r 4).dat (.sl (.int .i64)), (leafR r 5).dat (.int .i64), (leafR r 6).dat (.int .i64), (leafR r 7).dat .bool)
noncomputable def impl_NewSink (v0 : List Int) : Option ((List Int) × Int × (List Int) × (List (Int × Int × List Int)) × (List Int) × Int × Int × Bool) := tOf impl_NewSink.mk (vlim E 63 (impl_NewSink.c v0))
def xs04.c (v0 : List Int) : List Cell := vc (.d .fro (.sl (.int .i64)) v0) :: []
def xs04.mk (b : (List Int)) : R := (⟨.one, [.d .deep (.sl (.int .i64)) b]⟩, nn 1 ([]))
def xs04.un (r : R) : (List Int) := ((leafR r 0).dat (.sl (.int .i64)))
noncomputable def xs04 (v0 : List Int) : Option ((List Int)) := tOf xs04.mk (vlim E 87 (xs04.c v0))
def impl_Sink_step_1e4.c (v0 : List Int) (v1 : Int) (v2 : List Int) (v3 : List (Int × Int × List Int)) (v4 : List Int) (v5 : Int) (v6 : Int) (v7 : Int) : List Cell := ⟨(.box false), [.d .deep (.sl (.int .i64)) v0, iL v1, .d .deep (.sl (.int .i64)) v2, .d .deep (.sl (.pair (.int .i64) (.pair (.int .i64) (.sl (.int .i64))))) v3, .d .deep (.sl (.int .i64)) v4, iL v5, iL v6], true, false, false, 0, 0⟩ :: vc (iL v7) :: []
def impl_Sink_step_1e4.mk (b : Bool × (List Int) × Int × (List Int) × (List (Int × Int × List Int)) × (List Int) × Int × Int) : R := (⟨.one, [bL b.1]⟩, ⟨(.box false), [.d .deep (.sl (.int .i64)) b.2.1, iL b.2.2.1, .d .deep (.sl (.int .i64)) b.2.2.2.1, .d .deep (.sl (.pair (.int .i64) (.pair (.int .i64) (.sl (.int .i64))))) b.2.2.2.2.1, .d .deep (.sl (.int .i64)) b.2.2.2.2.2.1, iL b.2.2.2.2.2.2.1, iL b.2.2.2.2.2.2.2], true, false, false, 0, 0⟩ :: nn 1 ([]))
def impl_Sink_step_1e4.un (r : R) : Bool × (List Int) × Int × (List Int) × (List (Int × Int × List Int)) × (List Int) × Int × Int := ((leafR r 0).dat .bool, (leafF r 0 0).dat (.sl (.int .i64)), (leafF r 0 1).dat (.int .i64), (leafF r 0 2).dat (.sl (.int .i64)), (leafF r 0 3).dat (.sl (.pair (.int .i64) (.pair (.int .i64) (.sl (.int .i64))))), (leafF r 0 4).dat (.sl (.int .i64)), (leafF r 0 5).dat (.int .i64), (leafF r 0 6).dat (.int .i64))
noncomputable def impl_Sink_step_1e4 (v0 : List Int) (v1 : Int) (v2 : List Int) (v3 : List (Int × Int × List Int)) (v4 : List Int) (v5 : Int) (v6 : Int) (v7 : Int) : Option (Bool × (List Int) × Int × (List Int) × (List (Int × Int × List Int)) × (List Int) × Int × Int) := tOf impl_Sink_step_1e4.mk (vlim E 64 (impl_Sink_step_1e4.c v0 v1 v2 v3 v4 v5 v6 v7))
def impl_Sink_read_dfc.c (v0 : List Int) (v1 : Int) (v2 : List Int) (v3 : List (Int × Int × List Int)) (v4 : List Int) (v5 : Int) (v6 : Int) : List Cell := ⟨(.box false), [.d .deep (.sl (.int .i64)) v0, iL v1, .d .deep (.sl (.int .i64)) v2, .d .deep (.sl (.pair (.int .i64) (.pair (.int .i64) (.sl (.int .i64))))) v3, .d .deep (.sl (.int .i64)) v4, iL v5, iL v6], true, false, false, 0, 0⟩ :: []
def impl_Sink_read_dfc.mk (b : Bool × (List Int) × Int × (List Int) × (List (Int × Int × List Int)) × (List Int) × Int × Int) : R := (⟨.one, [bL b.1]⟩, ⟨(.box false), [.d .deep (.sl (.int .i64)) b.2.1, iL b.2.2.1, .d .deep (.sl (.int .i64)) b.2.2.2.1, .d .deep (.sl (.pair (.int .i64) (.pair (.int .i64) (.sl (.int .i64))))) b.2.2.2.2.1, .d .deep (.sl (.int .i64)) b.2.2.2.2.2.1, iL b.2.2.2.2.2.2.1, iL b.2.2.2.2.2.2.2], true, false, false, 0, 0⟩ :: [])
def impl_Sink_read_dfc.un (r : R) : Bool × (List Int) × Int × (List Int) × (List (Int × Int × List Int)) × (List Int) × Int × Int := ((leafR r 0).dat .bool, (leafF r 0 0).dat (.sl (.int .i64)), (leafF r 0 1).dat (.int .i64), (leafF r 0 2).dat (.sl (.int .i64)), (leafF r 0 3).dat (.sl (.pair (.int .i64) (.pair (.int .i64) (.sl (.int .i64))))), (leafF r 0 4).dat (.sl (.int .i64)), (leafF r 0 5).dat (.int .i64), (leafF r 0 6).dat (.int .i64))
noncomputable def impl_Sink_read_dfc (v0 : List Int) (v1 : Int) (v2 : List Int) (v3 : List (Int × Int × List Int)) (v4 : List Int) (v5 : Int) (v6 : Int) : Option (Bool × (List Int) × Int × (List Int) × (List (Int × Int × List Int)) × (List Int) × Int × Int) := tOf impl_Sink_read_dfc.mk (vlim E 98 (impl_Sink_read_dfc.c v0 v1 v2 v3 v4 v5 v6))
def xi01.c (v0 : List Int) (v1 : Int) (v2 : List Int) (v3 : List (Int × Int × List Int)) (v4 : List Int) (v5 : Int) (v6 : Int) : List Cell := ⟨(.box false), [.d .deep (.sl (.int .i64)) v0, iL v1, .d .deep (.sl (.int .i64)) v2, .d .deep (.sl (.pair (.int .i64) (.pair (.int .i64) (.sl (.int .i64))))) v3, .d .deep (.sl (.int .i64)) v4, iL v5, iL v6], true, false, false, 0, 0⟩ :: []
def xi01.mk (b : Bool × (List Int) × Int × (List Int) × (List (Int × Int × List Int)) × (List Int) × Int × Int) : R := (⟨.one, [bL b.1]⟩, ⟨(.box false), [.d .deep (.sl (.int .i64)) b.2.1, iL b.2.2.1, .d .deep (.sl (.int .i64)) b.2.2.2.1, .d .deep (.sl (.pair (.int .i64) (.pair (.int .i64) (.sl (.int .i64))))) b.2.2.2.2.1, .d .deep (.sl (.int .i64)) b.2.2.2.2.2.1, iL b.2.2.2.2.2.2.1, iL b.2.2.2.2.2.2.2], true, false, false, 0, 0⟩ :: [])
def xi01.un (r : R) : Bool × (List Int) × Int × (List Int) × (List (Int × Int × List Int)) × (List Int) × Int × Int := ((leafR r 0).dat .bool, (leafF r 0 0).dat (.sl (.int .i64)), (leafF r 0 1).dat (.int .i64), (leafF r 0 2).dat (.sl (.int .i64)), (leafF r 0 3).dat (.sl (.pair (.int .i64) (.pair (.int .i64) (.sl (.int .i64))))), (leafF r 0 4).dat (.sl (.int .i64)), (leafF r 0 5).dat (.int .i64), (leafF r 0 6).dat (.int .i64))
noncomputable def xi01 (v0 : List Int) (v1 : Int) (v2 : List Int) (v3 : List (Int × Int × List Int)) (v4 : List Int) (v5 : Int) (v6 : Int) : Option (Bool × (List Int) × Int × (List Int) × (List (Int × Int × List Int)) × (List Int) × Int × Int) := tOf xi01.mk (vlim E 77 (xi01.c v0 v1 v2 v3 v4 v5 v6))
def xi02.c (v0 : List Int) (v1 : Int) (v2 : List Int) (v3 : List (Int × Int × List Int)) (v4 : List Int) (v5 : Int) (v6 : Int) : List Cell := ⟨(.box false), [.d .deep (.sl (.int .i64)) v0, iL v1, .d .deep (.sl (.int .i64)) v2, .d .deep (.sl (.pair (.int .i64) (.pair (.int .i64) (.sl (.int .i64))))) v3, .d .deep (.sl (.int .i64)) v4, iL v5, iL v6], true, false, false, 0, 0⟩ :: []
def xi02.mk (b : Bool × (List Int) × Int × (List Int) × (List (Int × Int × List Int)) × (List Int) × Int × Int) : R := (⟨.one, [bL b.1]⟩, ⟨(.box false), [.d .deep (.sl (.int .i64)) b.2.1, iL b.2.2.1, .d .deep (.sl (.int .i64)) b.2.2.2.1, .d .deep (.sl (.pair (.int .i64) (.pair (.int .i64) (.sl (.int .i64))))) b.2.2.2.2.1, .d .deep (.sl (.int .i64)) b.2.2.2.2.2.1, iL b.2.2.2.2.2.2.1, iL b.2.2.2.2.2.2.2], true, false, false, 0, 0⟩ :: [])
def xi02.un (r : R) : Bool × (List Int) × Int × (List Int) × (List (Int × Int × List Int)) × (List Int) × Int × Int := ((leafR r 0).dat .bool, (leafF r 0 0).dat (.sl (.int .i64)), (leafF r 0 1).dat (.int .i64), (leafF r 0 2).dat (.sl (.int .i64)), (leafF r 0 3).dat (.sl (.pair (.int .i64) (.pair (.int .i64) (.sl (.int .i64))))), (leafF r 0 4).dat (.sl (.int .i64)), (leafF r 0 5).dat (.int .i64), (leafF r 0 6).dat (.int .i64))
noncomputable def xi02 (v0 : List Int) (v1 : Int) (v2 : List Int) (v3 : List (Int × Int × List Int)) (v4 : List Int) (v5 : Int) (v6 : Int) : Option (Bool × (List Int) × Int × (List Int) × (List (Int × Int × List Int)) × (List Int) × Int × Int) := tOf xi02.mk (vlim E 99 (xi02.c v0 v1 v2 v3 v4 v5 v6))
def xi05.c (v0 : List Int) (v1 : Int) (v2 : List Int) (v3 : List (Int × Int × List Int)) (v4 : List Int) (v5 : Int) (v6 : Int) : List Cell := ⟨(.box false), [.d .deep (.sl (.int .i64)) v0, iL v1, .d .deep (.sl (.int .i64)) v2, .d .deep (.sl (.pair (.int .i64) (.pair (.int .i64) (.sl (.int .i64))))) v3, .d .deep (.sl (.int .i64)) v4, iL v5, iL v6], true, false, false, 0, 0⟩ :: []
def xi05.mk (b : Bool × (List Int) × Int × (List Int) × (List (Int × Int × List Int)) × (List Int) × Int × Int) : R := (⟨.one, [bL b.1]⟩, ⟨(.box false), [.d .deep (.sl (.int .i64)) b.2.1, iL b.2.2.1, .d .deep (.sl (.int .i64)) b.2.2.2.1, .d .deep (.sl (.pair (.int .i64) (.pair (.int .i64) (.sl (.int .i64))))) b.2.2.2.2.1, .d .deep (.sl (.int .i64)) b.2.2.2.2.2.1, iL b.2.2.2.2.2.2.1, iL b.2.2.2.2.2.2.2], true, false, false, 0, 0⟩ :: [])
def xi05.un (r : R) : Bool × (List Int) × Int × (List Int) × (List (Int × Int × List Int)) × (List Int) × Int × Int := ((leafR r 0).dat .bool, (leafF r 0 0).dat (.sl (.int .i64)), (leafF r 0 1).dat (.int .i64), (leafF r 0 2).dat (.sl (.int .i64)), (leafF r 0 3).dat (.sl (.pair (.int .i64) (.pair (.int .i64) (.sl (.int .i64))))), (leafF r 0 4).dat (.sl (.int .i64)), (leafF r 0 5).dat (.int .i64), (leafF r 0 6).dat (.int .i64))
noncomputable def xi05 (v0 : List Int) (v1 : Int) (v2 : List Int) (v3 : List (Int × Int × List Int)) (v4 : List Int) (v5 : Int) (v6 : Int) : Option (Bool × (List Int) × Int × (List Int) × (List (Int × Int × List Int)) × (List Int) × Int × Int) := tOf xi05.mk (vlim E 75 (xi05.c v0 v1 v2 v3 v4 v5 v6))
def impl_Sink_stored.c (v0 : List Int) (v1 : Int) (v2 : List Int) (v3 : List (Int × Int × List Int)) (v4 : List Int) (v5 : Int) (v6 : Int) : List Cell := ac [.d .fro (.sl (.int .i64)) v0, iL v1, .d .fro (.sl (.int .i64)) v2, .d .fro (.sl (.pair (.int .i64) (.pair (.int .i64) (.sl (.int .i64))))) v3, .d .fro (.sl (.int .i64)) v4, iL v5, iL v6] :: []
def impl_Sink_stored.mk (b : Int) : R := (⟨.one, [iL b]⟩, nn 1 ([]))
def impl_Sink_stored.un (r : R) : Int := ((leafR r 0).dat (.int .i64))
noncomputable def impl_Sink_stored (v0 : List Int) (v1 : Int) (v2 : List Int) (v3 : List (Int × Int × List Int)) (v4 : List Int) (v5 : Int) (v6 : Int) : Option (Int) := tOf impl_Sink_stored.mk (vlim E 104 (impl_Sink_stored.c v0 v1 v2 v3 v4 v5 v6))
def impl_Sink_own.c (v0 : List Int) (v1 : Int) (v2 : List Int) (v3 : List (Int × Int × List Int)) (v4 : List Int) (v5 : Int) (v6 : Int) : List Cell := ac [.d .fro (.sl (.int .i64)) v0, iL v1, .d .fro (.sl (.int .i64)) v2, .d .fro (.sl (.pair (.int .i64) (.pair (.int .i64) (.sl (.int .i64))))) v3, .d .fro (.sl (.int .i64)) v4, iL v5, iL v6] :: []
def impl_Sink_own.mk (b : (List Int) × Int × (List Int) × (List (Int × Int × List Int)) × (List Int) × Int × Int) : R := (⟨.agg, [.d .deep (.sl (.int .i64)) b.1, iL b.2.1, .d .deep (.sl (.int .i64)) b.2.2.1, .d .deep (.sl (.pair (.int .i64) (.pair (.int .i64) (.sl (.int .i64))))) b.2.2.2.1, .d .deep (.sl (.int .i64)) b.2.2.2.2.1, iL b.2.2.2.2.2.1, iL b.2.2.2.2.2.2]⟩, nn 1 ([]))
def impl_Sink_own.un (r : R) : (List Int) × Int × (List Int) × (List (Int × Int × List Int)) × (List Int) × Int × Int := ((leafR r 0).dat (.sl (.int .i64)), (leafR r 1).dat (.int .i64), (leafR r 2).dat (.sl (.int .i64)), (leafR r 3).dat (.sl (.pair (.int .i64) (.pair (.int .i64) (.sl (.int .i64))))), (leafR r 4).dat (.sl (.int .i64)), (leafR r 5).dat (.int .i64), (leafR r 6).dat (.int .i64))
noncomputable def impl_Sink_own (v0 : List Int) (v1 : Int) (v2 : List Int) (v3 : List (Int × Int × List Int)) (v4 : List Int) (v5 : Int) (v6 : Int) : Option ((List Int) × Int × (List Int) × (List (Int × Int × List Int)) × (List Int) × Int × Int) := tOf impl_Sink_own.mk (vlim E 65 (impl_Sink_own.c v0 v1 v2 v3 v4 v5 v6))
def laws_eqSink.c (v0 : List Int) (v1 : Int) (v2 : List Int) (v3 : List (Int × Int × List Int)) (v4 : List Int) (v5 : Int) (v6 : Int) (v7 : List Int) (v8 : Int) (v9 : List Int) (v10 : List (Int × Int × List Int)) (v11 : List Int) (v12 : Int) (v13 : Int) : List Cell := ac [.d .fro (.sl (.int .i64)) v0, iL v1, .d .fro (.sl (.int .i64)) v2, .d .fro (.sl (.pair (.int .i64) (.pair (.int .i64) (.sl (.int .i64))))) v3, .d .fro (.sl (.int .i64)) v4, iL v5, iL v6] :: ac [.d .fro (.sl (.int .i64)) v7, iL v8, .d .fro (.sl (.int .i64)) v9, .d .fro (.sl (.pair (.int .i64) (.pair (.int .i64) (.sl (.int .i64))))) v10, .d .fro (.sl (.int .i64)) v11, iL v12, iL v13] :: []
def laws_eqSink.mk (b : Bool) : R := (⟨.one, [bL b]⟩, nn 2 ([]))
def laws_eqSink.un (r : R) : Bool := ((leafR r 0).dat .bool)
noncomputable def laws_eqSink (v0 : List Int) (v1 : Int) (v2 : List Int) (v3 : List (Int × Int × List Int)) (v4 : List Int) (v5 : Int) (v6 : Int) (v7 : List Int) (v8 : Int) (v9 : List Int) (v10 : List (Int × Int × List Int)) (v11 : List Int) (v12 : Int) (v13 : Int) : Option (Bool) := tOf laws_eqSink.mk (vlim E 21 (laws_eqSink.c v0 v1 v2 v3 v4 v5 v6 v7 v8 v9 v10 v11 v12 v13))
def laws_eqIntS.c (v0 : List Int) (v1 : List Int) : List Cell := vc (.d .fro (.sl (.int .i64)) v0) :: vc (.d .fro (.sl (.int .i64)) v1) :: []
def laws_eqIntS.mk (b : Bool) : R := (⟨.one, [bL b]⟩, nn 2 ([]))
def laws_eqIntS.un (r : R) : Bool := ((leafR r 0).dat .bool)
noncomputable def laws_eqIntS (v0 : List Int) (v1 : List Int) : Option (Bool) := tOf laws_eqIntS.mk (vlim E 23 (laws_eqIntS.c v0 v1))
def laws_eqPreparedS.c (v0 : List (Int × Int × List Int)) (v1 : List (Int × Int × List Int)) : List Cell := vc (.d .fro (.sl (.pair (.int .i64) (.pair (.int .i64) (.sl (.int .i64))))) v0) :: vc (.d .fro (.sl (.pair (.int .i64) (.pair (.int .i64) (.sl (.int .i64))))) v1) :: []
def laws_eqPreparedS.mk (b : Bool) : R := (⟨.one, [bL b]⟩, nn 2 ([]))
def laws_eqPreparedS.un (r : R) : Bool := ((leafR r 0).dat .bool)
noncomputable def laws_eqPreparedS (v0 : List (Int × Int × List Int)) (v1 : List (Int × Int × List Int)) : Option (Bool) := tOf laws_eqPreparedS.mk (vlim E 66 (laws_eqPreparedS.c v0 v1))
def laws_eqPrepared.c (v0 : Int) (v1 : Int) (v2 : List Int) (v3 : Int) (v4 : Int) (v5 : List Int) : List Cell := ac [iL v0, iL v1, .d .fro (.sl (.int .i64)) v2] :: ac [iL v3, iL v4, .d .fro (.sl (.int .i64)) v5] :: []
def laws_eqPrepared.mk (b : Bool) : R := (⟨.one, [bL b]⟩, nn 2 ([]))
def laws_eqPrepared.un (r : R) : Bool := ((leafR r 0).dat .bool)
noncomputable def laws_eqPrepared (v0 : Int) (v1 : Int) (v2 : List Int) (v3 : Int) (v4 : Int) (v5 : List Int) : Option (Bool) := tOf laws_eqPrepared.mk (vlim E 100 (laws_eqPrepared.c v0 v1 v2 v3 v4 v5))
def laws_eqBoolS.c (v0 : List Bool) (v1 : List Bool) : List Cell := vc (.d .fro (.sl .bool) v0) :: vc (.d .fro (.sl .bool) v1) :: []
def laws_eqBoolS.mk (b : Bool) : R := (⟨.one, [bL b]⟩, nn 2 ([]))
def laws_eqBoolS.un (r : R) : Bool := ((leafR r 0).dat .bool)
noncomputable def laws_eqBoolS (v0 : List Bool) (v1 : List Bool) : Option (Bool) := tOf laws_eqBoolS.mk (vlim E 22 (laws_eqBoolS.c v0 v1))
def laws_markIntS_83f.c (v0 : List Int) (v1 : Int) : List Cell := ⟨(.val .one), [.d .deep (.sl (.int .i64)) v0], true, false, false, 0, 0⟩ :: vc (iL v1) :: []
def laws_markIntS_83f.mk (b : Int × (List Int)) : R := (⟨.one, [iL b.1]⟩, ⟨(.val .one), [.d .deep (.sl (.int .i64)) b.2], true, false, false, 0, 0⟩ :: nn 1 ([]))
def laws_markIntS_83f.un (r : R) : Int × (List Int) := ((leafR r 0).dat (.int .i64), (leafF r 0 0).dat (.sl (.int .i64)))
noncomputable def laws_markIntS_83f (v0 : List Int) (v1 : Int) : Option (Int × (List Int)) := tOf laws_markIntS_83f.mk (vlim E 24 (laws_markIntS_83f.c v0 v1))
def laws_markSink_3ad.c (v0 : List Int) (v1 : Int) (v2 : List Int) (v3 : List (Int × Int × List Int)) (v4 : List Int) (v5 : Int) (v6 : Int) (v7 : Int) : List Cell := ⟨(.val .agg), [.d .deep (.sl (.int .i64)) v0, iL v1, .d .deep (.sl (.int .i64)) v2, .d .deep (.sl (.pair (.int .i64) (.pair (.int .i64) (.sl (.int .i64))))) v3, .d .deep (.sl (.int .i64)) v4, iL v5, iL v6], true, false, false, 0, 0⟩ :: vc (iL v7) :: []
def laws_markSink_3ad.mk (b : Int × (List Int) × Int × (List Int) × (List (Int × Int × List Int)) × (List Int) × Int × Int) : R := (⟨.one, [iL b.1]⟩, ⟨(.val .agg), [.d .deep (.sl (.int .i64)) b.2.1, iL b.2.2.1, .d .deep (.sl (.int .i64)) b.2.2.2.1, .d .deep (.sl (.pair (.int .i64) (.pair (.int .i64) (.sl (.int .i64))))) b.2.2.2.2.1, .d .deep (.sl (.int .i64)) b.2.2.2.2.2.1, iL b.2.2.2.2.2.2.1, iL b.2.2.2.2.2.2.2], true, false, false, 0, 0⟩ :: nn 1 ([]))
def laws_markSink_3ad.un (r : R) : Int × (List Int) × Int × (List Int) × (List (Int × Int × List Int)) × (List Int) × Int × Int := ((leafR r 0).dat (.int .i64), (leafF r 0 0).dat (.sl (.int .i64)), (leafF r 0 1).dat (.int .i64), (leafF r 0 2).dat (.sl (.int .i64)), (leafF r 0 3).dat (.sl (.pair (.int .i64) (.pair (.int .i64) (.sl (.int .i64))))), (leafF r 0 4).dat (.sl (.int .i64)), (leafF r 0 5).dat (.int .i64), (leafF r 0 6).dat (.int .i64))
noncomputable def laws_markSink_3ad (v0 : List Int) (v1 : Int) (v2 : List Int) (v3 : List (Int × Int × List Int)) (v4 : List Int) (v5 : Int) (v6 : Int) (v7 : Int) : Option (Int × (List Int) × Int × (List Int) × (List (Int × Int × List Int)) × (List Int) × Int × Int) := tOf laws_markSink_3ad.mk (vlim E 25 (laws_markSink_3ad.c v0 v1 v2 v3 v4 v5 v6 v7))
def xl00.c (v0 : List (Int × Int × List Int)) (v1 : Int) : List Cell := ⟨(.val .one), [.d .deep (.sl (.pair (.int .i64) (.pair (.int .i64) (.sl (.int .i64))))) v0], true, false, false, 0, 0⟩ :: vc (iL v1) :: []
def xl00.mk (b : Int × (List (Int × Int × List Int))) : R := (⟨.one, [iL b.1]⟩, ⟨(.val .one), [.d .deep (.sl (.pair (.int .i64) (.pair (.int .i64) (.sl (.int .i64))))) b.2], true, false, false, 0, 0⟩ :: nn 1 ([]))
def xl00.un (r : R) : Int × (List (Int × Int × List Int)) := ((leafR r 0).dat (.int .i64), (leafF r 0 0).dat (.sl (.pair (.int .i64) (.pair (.int .i64) (.sl (.int .i64))))))
noncomputable def xl00 (v0 : List (Int × Int × List Int)) (v1 : Int) : Option (Int × (List (Int × Int × List Int))) := tOf xl00.mk (vlim E 67 (xl00.c v0 v1))
def laws_markBoolS_0b1.c (v0 : List Bool) (v1 : Int) : List Cell := ⟨(.val .one), [.d .deep (.sl .bool) v0], true, false, false, 0, 0⟩ :: vc (iL v1) :: []
def laws_markBoolS_0b1.mk (b : Int × (List Bool)) : R := (⟨.one, [iL b.1]⟩, ⟨(.val .one), [.d .deep (.sl .bool) b.2], true, false, false, 0, 0⟩ :: nn 1 ([]))
def laws_markBoolS_0b1.un (r : R) : Int × (List Bool) := ((leafR r 0).dat (.int .i64), (leafF r 0 0).dat (.sl .bool))
noncomputable def laws_markBoolS_0b1 (v0 : List Bool) (v1 : Int) : Option (Int × (List Bool)) := tOf laws_markBoolS_0b1.mk (vlim E 26 (laws_markBoolS_0b1.c v0 v1))
def laws_heldSink.c (v0 : List Int) (v1 : Int) (v2 : List Int) (v3 : List (Int × Int × List Int)) (v4 : List Int) (v5 : Int) (v6 : Int) (v7 : Int) : List Cell := ac [.d .fro (.sl (.int .i64)) v0, iL v1, .d .fro (.sl (.int .i64)) v2, .d .fro (.sl (.pair (.int .i64) (.pair (.int .i64) (.sl (.int .i64))))) v3, .d .fro (.sl (.int .i64)) v4, iL v5, iL v6] :: vc (iL v7) :: []
def laws_heldSink.mk (b : Int) : R := (⟨.one, [iL b]⟩, nn 2 ([]))
def laws_heldSink.un (r : R) : Int := ((leafR r 0).dat (.int .i64))
noncomputable def laws_heldSink (v0 : List Int) (v1 : Int) (v2 : List Int) (v3 : List (Int × Int × List Int)) (v4 : List Int) (v5 : Int) (v6 : Int) (v7 : Int) : Option (Int) := tOf laws_heldSink.mk (vlim E 27 (laws_heldSink.c v0 v1 v2 v3 v4 v5 v6 v7))
def laws_heldIntS.c (v0 : List Int) (v1 : Int) : List Cell := vc (.d .fro (.sl (.int .i64)) v0) :: vc (iL v1) :: []
def laws_heldIntS.mk (b : Int) : R := (⟨.one, [iL b]⟩, nn 2 ([]))
def laws_heldIntS.un (r : R) : Int := ((leafR r 0).dat (.int .i64))
noncomputable def laws_heldIntS (v0 : List Int) (v1 : Int) : Option (Int) := tOf laws_heldIntS.mk (vlim E 68 (laws_heldIntS.c v0 v1))
def laws_heldPreparedS.c (v0 : List (Int × Int × List Int)) (v1 : Int) : List Cell := vc (.d .fro (.sl (.pair (.int .i64) (.pair (.int .i64) (.sl (.int .i64))))) v0) :: vc (iL v1) :: []
def laws_heldPreparedS.mk (b : Int) : R := (⟨.one, [iL b]⟩, nn 2 ([]))
def laws_heldPreparedS.un (r : R) : Int := ((leafR r 0).dat (.int .i64))
noncomputable def laws_heldPreparedS (v0 : List (Int × Int × List Int)) (v1 : Int) : Option (Int) := tOf laws_heldPreparedS.mk (vlim E 69 (laws_heldPreparedS.c v0 v1))
def laws_heldBoolS.c (v0 : List Bool) (v1 : Int) : List Cell := vc (.d .fro (.sl .bool) v0) :: vc (iL v1) :: []
def laws_heldBoolS.mk (b : Int) : R := (⟨.one, [iL b]⟩, nn 2 ([]))
def laws_heldBoolS.un (r : R) : Int := ((leafR r 0).dat (.int .i64))
noncomputable def laws_heldBoolS (v0 : List Bool) (v1 : Int) : Option (Int) := tOf laws_heldBoolS.mk (vlim E 28 (laws_heldBoolS.c v0 v1))
def tabT : List (Nat × List (List Cell × Tb)) := [
 (4, [(xl03.c [] [], ⟨Bool, xl03.mk⟩)]),
 (18, [(spec_PlaySink.c [] [], ⟨(List Int) × Int × (List Int) × (List (Int × Int × List Int)) × (List Int) × Int × Int × (List Bool) × Bool, spec_PlaySink.mk⟩)]),
 (19, [(laws_toIntS.c [], ⟨(List Int), laws_toIntS.mk⟩)]),
 (20, [(impl_PlaySink.c [] [], ⟨(List Int) × Int × (List Int) × (List (Int × Int × List Int)) × (List Int) × Int × Int × (List Bool) × Bool, impl_PlaySink.mk⟩)]),
 (21, [(laws_eqSink.c [] 0 [] [] [] 0 0 [] 0 [] [] [] 0 0, ⟨Bool, laws_eqSink.mk⟩)]),
 (22, [(laws_eqBoolS.c [] [], ⟨Bool, laws_eqBoolS.mk⟩)]),
 (23, [(laws_eqIntS.c [] [], ⟨Bool, laws_eqIntS.mk⟩)]),
 (24, [(laws_markIntS_83f.c [] 0, ⟨Int × (List Int), laws_markIntS_83f.mk⟩)]),
 (25, [(laws_markSink_3ad.c [] 0 [] [] [] 0 0 0, ⟨Int × (List Int) × Int × (List Int) × (List (Int × Int × List Int)) × (List Int) × Int × Int, laws_markSink_3ad.mk⟩)]),
 (26, [(laws_markBoolS_0b1.c [] 0, ⟨Int × (List Bool), laws_markBoolS_0b1.mk⟩)]),
 (27, [(laws_heldSink.c [] 0 [] [] [] 0 0 0, ⟨Int, laws_heldSink.mk⟩)]),
 (28, [(laws_heldBoolS.c [] 0, ⟨Int, laws_heldBoolS.mk⟩)]),
 (60, [(spec_NewSink.c [], ⟨(List Int) × Int × (List Int) × (List (Int × Int × List Int)) × (List Int) × Int × Int × Bool, spec_NewSink.mk⟩)]),
 (61, [(spec_l16Step_27a.c [] 0 [] [] [] 0 0 0, ⟨(List Int) × Int × (List Int) × (List (Int × Int × List Int)) × (List Int) × Int × Int × Bool, spec_l16Step_27a.mk⟩)]),
 (62, [(spec_l16Own.c [] 0 [] [] [] 0 0, ⟨(List Int) × Int × (List Int) × (List (Int × Int × List Int)) × (List Int) × Int × Int, spec_l16Own.mk⟩)]),
 (63, [(impl_NewSink.c [], ⟨(List Int) × Int × (List Int) × (List (Int × Int × List Int)) × (List Int) × Int × Int × Bool, impl_NewSink.mk⟩)]),
 (64, [(impl_Sink_step_1e4.c [] 0 [] [] [] 0 0 0, ⟨Bool × (List Int) × Int × (List Int) × (List (Int × Int × List Int)) × (List Int) × Int × Int, impl_Sink_step_1e4.mk⟩)]),
 (65, [(impl_Sink_own.c [] 0 [] [] [] 0 0, ⟨(List Int) × Int × (List Int) × (List (Int × Int × List Int)) × (List Int) × Int × Int, impl_Sink_own.mk⟩)]),
 (66, [(laws_eqPreparedS.c [] [], ⟨Bool, laws_eqPreparedS.mk⟩)]),
 (67, [(xl00.c [] 0, ⟨Int × (List (Int × Int × List Int)), xl00.mk⟩)]),
 (68, [(laws_heldIntS.c [] 0, ⟨Int, laws_heldIntS.mk⟩)]),
 (69, [(laws_heldPreparedS.c [] 0, ⟨Int, laws_heldPreparedS.mk⟩)]),
 (74, [(spec_l16Crash_5b7.c [] 0 [] [] [] 0 0, ⟨(List Int) × Int × (List Int) × (List (Int × Int × List Int)) × (List Int) × Int × Int, spec_l16Crash_5b7.mk⟩)]),
 (75, [(xi05.c [] 0 [] [] [] 0 0, ⟨Bool × (List Int) × Int × (List Int) × (List (Int × Int × List Int)) × (List Int) × Int × Int, xi05.mk⟩)]),
 (77, [(xi01.c [] 0 [] [] [] 0 0, ⟨Bool × (List Int) × Int × (List Int) × (List (Int × Int × List Int)) × (List Int) × Int × Int, xi01.mk⟩)]),
 (87, [(xs04.c [], ⟨(List Int), xs04.mk⟩)]),
 (98, [(impl_Sink_read_dfc.c [] 0 [] [] [] 0 0, ⟨Bool × (List Int) × Int × (List Int) × (List (Int × Int × List Int)) × (List Int) × Int × Int, impl_Sink_read_dfc.mk⟩)]),
 (99, [(xi02.c [] 0 [] [] [] 0 0, ⟨Bool × (List Int) × Int × (List Int) × (List (Int × Int × List Int)) × (List Int) × Int × Int, xi02.mk⟩)]),
 (100, [(laws_eqPrepared.c 0 0 [] 0 0 [], ⟨Bool, laws_eqPrepared.mk⟩)]),
 (103, [(spec_l16From.c [] 0 [] [] [] 0 0, ⟨Int, spec_l16From.mk⟩)]),
 (104, [(impl_Sink_stored.c [] 0 [] [] [] 0 0, ⟨Int, impl_Sink_stored.mk⟩)])]
def tab : FuncId → List Cell → Tb := fun g cs => match assoc tabT g with | some l => pickT l cs | none => ⟨Unit, fun _ => (⟨.one, []⟩, [])⟩
end GoV

/- Equations of the program's functions (printed by wip/tools/emit.py). -/
namespace GoV
open Go Go.Proofs
set_option maxRecDepth 100000

noncomputable def xl03.t {γ : Type} (ret : (Bool) → Option γ) (v0 : List Int) (v1 : List Int) : Option γ :=
 bif decide ((↑v0.length : Int) > (1048576 : Int)) then
  ret (Bool.true)
 else
  bif decide ((↑v1.length : Int) > (1048576 : Int)) then
   ret (Bool.true)
  else
   (laws_toIntS (v0)).bind fun (r0 : (List Int)) =>
   (laws_toIntS (v1)).bind fun (r1 : (List Int)) =>
   (spec_PlaySink (r0) (r1)).bind fun (r2 : (List Int) × Int × (List Int) × (List (Int × Int × List Int)) × (List Int) × Int × Int × (List Bool) × Bool) =>
   (laws_toIntS (v0)).bind fun (r3 : (List Int)) =>
   (laws_toIntS (v1)).bind fun (r4 : (List Int)) =>
   (impl_PlaySink (r3) (r4)).bind fun (r5 : (List Int) × Int × (List Int) × (List (Int × Int × List Int)) × (List Int) × Int × Int × (List Bool) × Bool) =>
   (laws_eqSink (r5.fst) (r5.snd.fst) (r5.snd.snd.fst) (r5.snd.snd.snd.fst) (r5.snd.snd.snd.snd.fst) (r5.snd.snd.snd.snd.snd.fst) (r5.snd.snd.snd.snd.snd.snd.fst) (r2.fst) (r2.snd.fst) (r2.snd.snd.fst) (r2.snd.snd.snd.fst) (r2.snd.snd.snd.snd.fst) (r2.snd.snd.snd.snd.snd.fst) (r2.snd.snd.snd.snd.snd.snd.fst)).bind fun (r6 : Bool) =>
   bif !r6 then
    ret (Bool.false)
   else
    (laws_eqBoolS (r5.snd.snd.snd.snd.snd.snd.snd.fst) (r2.snd.snd.snd.snd.snd.snd.snd.fst)).bind fun (r7 : Bool) =>
    bif !r7 then
     ret (Bool.false)
    else
     bif !r5.snd.snd.snd.snd.snd.snd.snd.snd == r2.snd.snd.snd.snd.snd.snd.snd.snd then
      ret (Bool.false)
     else
      (laws_toIntS (v0)).bind fun (r8 : (List Int)) =>
      (laws_eqIntS (r3) (r8)).bind fun (r9 : Bool) =>
      bif !r9 then
       ret (Bool.false)
      else
       (laws_toIntS (v1)).bind fun (r10 : (List Int)) =>
       (laws_eqIntS (r4) (r10)).bind fun (r11 : Bool) =>
       bif !r11 then
        ret (Bool.false)
       else
        (laws_markIntS_83f (r3) ((1 : Int))).bind fun (r12 : Int × (List Int)) =>
        (laws_markIntS_83f (r4) (r12.fst)).bind fun (r13 : Int × (List Int)) =>
        bif decide (r13.fst < (0 : Int)) then
         ret (Bool.false)
        else
         (laws_eqSink (r5.fst) (r5.snd.fst) (r5.snd.snd.fst) (r5.snd.snd.snd.fst) (r5.snd.snd.snd.snd.fst) (r5.snd.snd.snd.snd.snd.fst) (r5.snd.snd.snd.snd.snd.snd.fst) (r2.fst) (r2.snd.fst) (r2.snd.snd.fst) (r2.snd.snd.snd.fst) (r2.snd.snd.snd.snd.fst) (r2.snd.snd.snd.snd.snd.fst) (r2.snd.snd.snd.snd.snd.snd.fst)).bind fun (r14 : Bool) =>
         bif !r14 then
          ret (Bool.false)
         else
          (laws_eqBoolS (r5.snd.snd.snd.snd.snd.snd.snd.fst) (r2.snd.snd.snd.snd.snd.snd.snd.fst)).bind fun (r15 : Bool) =>
          bif !r15 then
           ret (Bool.false)
          else
           bif !r5.snd.snd.snd.snd.snd.snd.snd.snd == r2.snd.snd.snd.snd.snd.snd.snd.snd then
            ret (Bool.false)
           else
            (laws_markSink_3ad (r5.fst) (r5.snd.fst) (r5.snd.snd.fst) (r5.snd.snd.snd.fst) (r5.snd.snd.snd.snd.fst) (r5.snd.snd.snd.snd.snd.fst) (r5.snd.snd.snd.snd.snd.snd.fst) ((1 : Int))).bind fun (r16 : Int × (List Int) × Int × (List Int) × (List (Int × Int × List Int)) × (List Int) × Int × Int) =>
            (laws_markBoolS_0b1 (r5.snd.snd.snd.snd.snd.snd.snd.fst) (r16.fst)).bind fun (r17 : Int × (List Bool)) =>
            (laws_heldSink (r16.snd.fst) (r5.snd.fst) (r16.snd.snd.snd.fst) (r16.snd.snd.snd.snd.fst) (r16.snd.snd.snd.snd.snd.fst) (r5.snd.snd.snd.snd.snd.fst) (r5.snd.snd.snd.snd.snd.snd.fst) ((1 : Int))).bind fun (r18 : Int) =>
            bif decide (r18 < (0 : Int)) then
             ret (Bool.false)
            else
             (laws_heldBoolS (r17.snd) (r18)).bind fun (r19 : Int) =>
             bif decide (r19 < (0 : Int)) then
              ret (Bool.false)
             else
              bif r19 != r17.fst then
               ret (Bool.false)
              else
               (laws_toIntS (v0)).bind fun (r20 : (List Int)) =>
               (laws_toIntS (v1)).bind fun (r21 : (List Int)) =>
               (impl_PlaySink (r20) (r21)).bind fun (r22 : (List Int) × Int × (List Int) × (List (Int × Int × List Int)) × (List Int) × Int × Int × (List Bool) × Bool) =>
               (laws_eqSink (r22.fst) (r22.snd.fst) (r22.snd.snd.fst) (r22.snd.snd.snd.fst) (r22.snd.snd.snd.snd.fst) (r22.snd.snd.snd.snd.snd.fst) (r22.snd.snd.snd.snd.snd.snd.fst) (r2.fst) (r2.snd.fst) (r2.snd.snd.fst) (r2.snd.snd.snd.fst) (r2.snd.snd.snd.snd.fst) (r2.snd.snd.snd.snd.snd.fst) (r2.snd.snd.snd.snd.snd.snd.fst)).bind fun (r23 : Bool) =>
               bif !r23 then
                ret (Bool.false)
               else
                (laws_eqBoolS (r22.snd.snd.snd.snd.snd.snd.snd.fst) (r2.snd.snd.snd.snd.snd.snd.snd.fst)).bind fun (r24 : Bool) =>
                bif !r24 then
                 ret (Bool.false)
                else
                 bif !r22.snd.snd.snd.snd.snd.snd.snd.snd == r2.snd.snd.snd.snd.snd.snd.snd.snd then
                  ret (Bool.false)
                 else
                  (laws_heldSink (r16.snd.fst) (r5.snd.fst) (r16.snd.snd.snd.fst) (r16.snd.snd.snd.snd.fst) (r16.snd.snd.snd.snd.snd.fst) (r5.snd.snd.snd.snd.snd.fst) (r5.snd.snd.snd.snd.snd.snd.fst) ((1 : Int))).bind fun (r25 : Int) =>
                  bif decide (r25 < (0 : Int)) then
                   ret (Bool.false)
                  else
                   (laws_heldBoolS (r17.snd) (r25)).bind fun (r26 : Int) =>
                   bif decide (r26 < (0 : Int)) then
                    ret (Bool.false)
                   else
                    bif r26 != r17.fst then
                     ret (Bool.false)
                    else
                     ret (Bool.true)
theorem xl03.k (v0 : List Int) (v1 : List Int) : topL E (callT E tab) 4 Try.f4 (xl03.c v0 v1) = xl03.t (fun b => some (xl03.mk b)) v0 v1 := by kernel_rfl
theorem xl03.eq (v0 : List Int) (v1 : List Int) {b : Bool} (h : xl03.t some v0 v1 = some b) : xl03 v0 v1 = some b := tOf_intro xl03.un (fun _ => by kernel_rfl) (vlim_fn (callT_le E tab) rfl rfl rfl ((xl03.k v0 v1).trans ((by unfold xl03.t; repeat' first | exact Sub.ret | exact Sub.none | exact Sub.loop | apply Sub.cond | (apply Sub.bind; intro _) : Sub xl03.mk _ _) b h)))
noncomputable def laws_toIntS.q3 (v0 : List Int) (v1 : List Int) (v2 : Int) : Option R := loopAtL E (callT E tab) 19 Try.f19 1 [.r, .r, .l, .r, .b] (vc (.d .fro (.sl (.int .i64)) v0) :: nn 2 (vc (.d .deep (.sl (.int .i64)) v1) :: vc (iL v2) :: nn 17 ([])))
noncomputable def laws_toIntS.l3 (v0 : List Int) (v1 : List Int) (v2 : Int) : Option ((List Int)) := tOf laws_toIntS.mk (laws_toIntS.q3 v0 v1 v2)
noncomputable def laws_toIntS.t {γ : Type} (ret : ((List Int)) → Option γ) (lp3 : (List Int) → (List Int) → Int → Option γ) (v0 : List Int) : Option γ :=
 bif decide ((↑v0.length : Int) = (↑v0.length : Int)) then
  bif decide ((↑v0.length : Int) ≤ (↑(4294967296 : Nat) : Int)) then
   lp3 (v0) (List.replicate (↑v0.length : Int).toNat (0 : Int)) ((0 : Int))
  else
   none
 else
  none
noncomputable def laws_toIntS.t3 {γ : Type} (ret : ((List Int)) → Option γ) (lp3 : (List Int) → (List Int) → Int → Option γ) (v0 : List Int) (v1 : List Int) (v2 : Int) : Option γ :=
 bif decide (v2 < (↑v0.length : Int)) then
  bif decide ((0 : Int) ≤ v2) then
   bif decide (v2.toNat < v0.length) then
    bif decide ((0 : Int) ≤ v2) then
     bif decide (v2.toNat < v1.length) then
      bif decide (v2.toNat < v1.length) then
       lp3 (v0) (v1.set v2.toNat (v0.getD v2.toNat (0 : Int))) (IntKind.i64.wrap (v2 + (1 : Int)))
      else
       none
     else
      none
    else
     none
   else
    none
  else
   none
 else
  ret (v1)
theorem laws_toIntS.k (v0 : List Int) : topL E (callT E tab) 19 Try.f19 (laws_toIntS.c v0) = laws_toIntS.t (fun b => some (laws_toIntS.mk b)) laws_toIntS.q3 v0 := by kernel_rfl
theorem laws_toIntS.k3 (v0 : List Int) (v1 : List Int) (v2 : Int) : roundL E (callT E tab) 19 Try.f19 1 [.r, .r, .l, .r, .b] (vc (.d .fro (.sl (.int .i64)) v0) :: nn 2 (vc (.d .deep (.sl (.int .i64)) v1) :: vc (iL v2) :: nn 17 ([]))) = laws_toIntS.t3 (fun b => some (laws_toIntS.mk b)) laws_toIntS.q3 v0 v1 v2 := by kernel_rfl
theorem laws_toIntS.eq (v0 : List Int) {b : (List Int)} (h : laws_toIntS.t some laws_toIntS.l3 v0 = some b) : laws_toIntS v0 = some b := tOf_intro laws_toIntS.un (fun _ => by kernel_rfl) (vlim_fn (callT_le E tab) rfl rfl rfl ((laws_toIntS.k v0).trans ((by unfold laws_toIntS.t; repeat' first | exact Sub.ret | exact Sub.none | exact Sub.loop | apply Sub.cond | (apply Sub.bind; intro _) : Sub laws_toIntS.mk _ _) b h)))
theorem laws_toIntS.eq3 (v0 : List Int) (v1 : List Int) (v2 : Int) {b : (List Int)} (h : laws_toIntS.t3 some laws_toIntS.l3 v0 v1 v2 = some b) : laws_toIntS.l3 v0 v1 v2 = some b := tOf_intro laws_toIntS.un (fun _ => by kernel_rfl) (loopAtL_step ((laws_toIntS.k3 v0 v1 v2).trans ((by unfold laws_toIntS.t3; repeat' first | exact Sub.ret | exact Sub.none | exact Sub.loop | apply Sub.cond | (apply Sub.bind; intro _) : Sub laws_toIntS.mk _ _) b h)))
noncomputable def spec_PlaySink.q6 (v0 : List Int) (v1 : Int) (v2 : List Int) (v3 : List (Int × Int × List Int)) (v4 : List Int) (v5 : Int) (v6 : Int) (v7 : List Int) (v8 : Int) (v9 : List Int) (v10 : List (Int × Int × List Int)) (v11 : List Int) (v12 : Int) (v13 : Int) (v14 : List Bool) (v15 : List Int) (v16 : Int) (v17 : Int) : Option R := loopAtL E (callT E tab) 18 Try.f18 2 [.r, .r, .r, .r, .l, .r, .b] (nn 4 (⟨(.box false), [.d .deep (.sl (.int .i64)) v0, iL v1, .d .deep (.sl (.int .i64)) v2, .d .deep (.sl (.pair (.int .i64) (.pair (.int .i64) (.sl (.int .i64))))) v3, .d .deep (.sl (.int .i64)) v4, iL v5, iL v6], false, false, false, 0, 0⟩ :: nn 2 (⟨(.box false), [.d .deep (.sl (.int .i64)) v7, iL v8, .d .deep (.sl (.int .i64)) v9, .d .deep (.sl (.pair (.int .i64) (.pair (.int .i64) (.sl (.int .i64))))) v10, .d .deep (.sl (.int .i64)) v11, iL v12, iL v13], false, false, false, 0, 0⟩ :: nn 1 (vc (.d .deep (.sl .bool) v14) :: nn 17 (vc (.d .fro (.sl (.int .i64)) v15) :: vc (iL v16) :: vc (iL v17) :: nn 20 ([]))))))
noncomputable def spec_PlaySink.l6 (v0 : List Int) (v1 : Int) (v2 : List Int) (v3 : List (Int × Int × List Int)) (v4 : List Int) (v5 : Int) (v6 : Int) (v7 : List Int) (v8 : Int) (v9 : List Int) (v10 : List (Int × Int × List Int)) (v11 : List Int) (v12 : Int) (v13 : Int) (v14 : List Bool) (v15 : List Int) (v16 : Int) (v17 : Int) : Option ((List Int) × Int × (List Int) × (List (Int × Int × List Int)) × (List Int) × Int × Int × (List Bool) × Bool) := tOf spec_PlaySink.mk (spec_PlaySink.q6 v0 v1 v2 v3 v4 v5 v6 v7 v8 v9 v10 v11 v12 v13 v14 v15 v16 v17)
noncomputable def spec_PlaySink.t {γ : Type} (ret : ((List Int) × Int × (List Int) × (List (Int × Int × List Int)) × (List Int) × Int × Int × (List Bool) × Bool) → Option γ) (lp6 : (List Int) → Int → (List Int) → (List (Int × Int × List Int)) → (List Int) → Int → Int → (List Int) → Int → (List Int) → (List (Int × Int × List Int)) → (List Int) → Int → Int → (List Bool) → (List Int) → Int → Int → Option γ) (v0 : List Int) (v1 : List Int) : Option γ :=
 (spec_NewSink (v0)).bind fun (r0 : (List Int) × Int × (List Int) × (List (Int × Int × List Int)) × (List Int) × Int × Int × Bool) =>
 bif !r0.snd.snd.snd.snd.snd.snd.snd then
  ret ([], (0 : Int), [], [], [], (0 : Int), (0 : Int), [], Bool.false)
 else
  bif decide ((↑v1.length : Int) > (120 : Int)) then
   ret ([], (0 : Int), [], [], [], (0 : Int), (0 : Int), [], Bool.false)
  else
   lp6 ([]) ((0 : Int)) ([]) ([]) ([]) ((0 : Int)) ((0 : Int)) (r0.fst) (r0.snd.fst) (r0.snd.snd.fst) (r0.snd.snd.snd.fst) (r0.snd.snd.snd.snd.fst) (r0.snd.snd.snd.snd.snd.fst) (r0.snd.snd.snd.snd.snd.snd.fst) ([]) (v1) ((↑v1.length : Int)) ((0 : Int))
noncomputable def spec_PlaySink.t6 {γ : Type} (ret : ((List Int) × Int × (List Int) × (List (Int × Int × List Int)) × (List Int) × Int × Int × (List Bool) × Bool) → Option γ) (lp6 : (List Int) → Int → (List Int) → (List (Int × Int × List Int)) → (List Int) → Int → Int → (List Int) → Int → (List Int) → (List (Int × Int × List Int)) → (List Int) → Int → Int → (List Bool) → (List Int) → Int → Int → Option γ) (v0 : List Int) (v1 : Int) (v2 : List Int) (v3 : List (Int × Int × List Int)) (v4 : List Int) (v5 : Int) (v6 : Int) (v7 : List Int) (v8 : Int) (v9 : List Int) (v10 : List (Int × Int × List Int)) (v11 : List Int) (v12 : Int) (v13 : Int) (v14 : List Bool) (v15 : List Int) (v16 : Int) (v17 : Int) : Option γ :=
 bif decide (v17 < v16) then
  bif decide ((0 : Int) ≤ v17) then
   bif decide (v17.toNat < v15.length) then
    (spec_l16Own (v7) (v8) (v9) (v10) (v11) (v12) (v13)).bind fun (r1 : (List Int) × Int × (List Int) × (List (Int × Int × List Int)) × (List Int) × Int × Int) =>
    (spec_l16Step_27a (r1.fst) (r1.snd.fst) (r1.snd.snd.fst) (r1.snd.snd.snd.fst) (r1.snd.snd.snd.snd.fst) (r1.snd.snd.snd.snd.snd.fst) (r1.snd.snd.snd.snd.snd.snd) (v15.getD v17.toNat (0 : Int))).bind fun (r2 : (List Int) × Int × (List Int) × (List (Int × Int × List Int)) × (List Int) × Int × Int × Bool) =>
    bif r2.snd.snd.snd.snd.snd.snd.snd then
     bif decide (v14.length + [r2.snd.snd.snd.snd.snd.snd.snd].length ≤ (4294967296 : Nat)) then
      lp6 (v0) (v1) (v2) (v3) (v4) (v5) (v6) (r2.fst) (r2.snd.fst) (r2.snd.snd.fst) (r2.snd.snd.snd.fst) (r2.snd.snd.snd.snd.fst) (r2.snd.snd.snd.snd.snd.fst) (r2.snd.snd.snd.snd.snd.snd.fst) (v14 ++ [r2.snd.snd.snd.snd.snd.snd.snd]) (v15) (v16) (IntKind.i64.wrap (v17 + (1 : Int)))
     else
      none
    else
     bif decide (v14.length + [r2.snd.snd.snd.snd.snd.snd.snd].length ≤ (4294967296 : Nat)) then
      lp6 (v0) (v1) (v2) (v3) (v4) (v5) (v6) (v7) (v8) (v9) (v10) (v11) (v12) (v13) (v14 ++ [r2.snd.snd.snd.snd.snd.snd.snd]) (v15) (v16) (IntKind.i64.wrap (v17 + (1 : Int)))
     else
      none
   else
    none
  else
   none
 else
  (spec_l16Own (v7) (v8) (v9) (v10) (v11) (v12) (v13)).bind fun (r3 : (List Int) × Int × (List Int) × (List (Int × Int × List Int)) × (List Int) × Int × Int) =>
  ret (r3.fst, r3.snd.fst, r3.snd.snd.fst, r3.snd.snd.snd.fst, r3.snd.snd.snd.snd.fst, r3.snd.snd.snd.snd.snd.fst, r3.snd.snd.snd.snd.snd.snd, v14, Bool.true)
theorem spec_PlaySink.k (v0 : List Int) (v1 : List Int) : topL E (callT E tab) 18 Try.f18 (spec_PlaySink.c v0 v1) = spec_PlaySink.t (fun b => some (spec_PlaySink.mk b)) spec_PlaySink.q6 v0 v1 := by kernel_rfl
theorem spec_PlaySink.k6 (v0 : List Int) (v1 : Int) (v2 : List Int) (v3 : List (Int × Int × List Int)) (v4 : List Int) (v5 : Int) (v6 : Int) (v7 : List Int) (v8 : Int) (v9 : List Int) (v10 : List (Int × Int × List Int)) (v11 : List Int) (v12 : Int) (v13 : Int) (v14 : List Bool) (v15 : List Int) (v16 : Int) (v17 : Int) : roundL E (callT E tab) 18 Try.f18 2 [.r, .r, .r, .r, .l, .r, .b] (nn 4 (⟨(.box false), [.d .deep (.sl (.int .i64)) v0, iL v1, .d .deep (.sl (.int .i64)) v2, .d .deep (.sl (.pair (.int .i64) (.pair (.int .i64) (.sl (.int .i64))))) v3, .d .deep (.sl (.int .i64)) v4, iL v5, iL v6], false, false, false, 0, 0⟩ :: nn 2 (⟨(.box false), [.d .deep (.sl (.int .i64)) v7, iL v8, .d .deep (.sl (.int .i64)) v9, .d .deep (.sl (.pair (.int .i64) (.pair (.int .i64) (.sl (.int .i64))))) v10, .d .deep (.sl (.int .i64)) v11, iL v12, iL v13], false, false, false, 0, 0⟩ :: nn 1 (vc (.d .deep (.sl .bool) v14) :: nn 17 (vc (.d .fro (.sl (.int .i64)) v15) :: vc (iL v16) :: vc (iL v17) :: nn 20 ([])))))) = spec_PlaySink.t6 (fun b => some (spec_PlaySink.mk b)) spec_PlaySink.q6 v0 v1 v2 v3 v4 v5 v6 v7 v8 v9 v10 v11 v12 v13 v14 v15 v16 v17 := by kernel_rfl
theorem spec_PlaySink.eq (v0 : List Int) (v1 : List Int) {b : (List Int) × Int × (List Int) × (List (Int × Int × List Int)) × (List Int) × Int × Int × (List Bool) × Bool} (h : spec_PlaySink.t some spec_PlaySink.l6 v0 v1 = some b) : spec_PlaySink v0 v1 = some b := tOf_intro spec_PlaySink.un (fun _ => by kernel_rfl) (vlim_fn (callT_le E tab) rfl rfl rfl ((spec_PlaySink.k v0 v1).trans ((by unfold spec_PlaySink.t; repeat' first | exact Sub.ret | exact Sub.none | exact Sub.loop | apply Sub.cond | (apply Sub.bind; intro _) : Sub spec_PlaySink.mk _ _) b h)))
theorem spec_PlaySink.eq6 (v0 : List Int) (v1 : Int) (v2 : List Int) (v3 : List (Int × Int × List Int)) (v4 : List Int) (v5 : Int) (v6 : Int) (v7 : List Int) (v8 : Int) (v9 : List Int) (v10 : List (Int × Int × List Int)) (v11 : List Int) (v12 : Int) (v13 : Int) (v14 : List Bool) (v15 : List Int) (v16 : Int) (v17 : Int) {b : (List Int) × Int × (List Int) × (List (Int × Int × List Int)) × (List Int) × Int × Int × (List Bool) × Bool} (h : spec_PlaySink.t6 some spec_PlaySink.l6 v0 v1 v2 v3 v4 v5 v6 v7 v8 v9 v10 v11 v12 v13 v14 v15 v16 v17 = some b) : spec_PlaySink.l6 v0 v1 v2 v3 v4 v5 v6 v7 v8 v9 v10 v11 v12 v13 v14 v15 v16 v17 = some b := tOf_intro spec_PlaySink.un (fun _ => by kernel_rfl) (loopAtL_step ((spec_PlaySink.k6 v0 v1 v2 v3 v4 v5 v6 v7 v8 v9 v10 v11 v12 v13 v14 v15 v16 v17).trans ((by unfold spec_PlaySink.t6; repeat' first | exact Sub.ret | exact Sub.none | exact Sub.loop | apply Sub.cond | (apply Sub.bind; intro _) : Sub spec_PlaySink.mk _ _) b h)))
noncomputable def spec_NewSink.t {γ : Type} (ret : ((List Int) × Int × (List Int) × (List (Int × Int × List Int)) × (List Int) × Int × Int × Bool) → Option γ) (v0 : List Int) : Option γ :=
 bif decide ((↑v0.length : Int) > (30 : Int)) then
  ret ([], (0 : Int), [], [], [], (0 : Int), (0 : Int), Bool.false)
 else
  bif decide (([] : List Int).length + v0.length ≤ (4294967296 : Nat)) then
   ret ([] ++ v0, (0 : Int), [], [], [], (0 : Int), (0 : Int), Bool.true)
  else
   none
theorem spec_NewSink.k (v0 : List Int) : topL E (callT E tab) 60 Try.f60 (spec_NewSink.c v0) = spec_NewSink.t (fun b => some (spec_NewSink.mk b)) v0 := by kernel_rfl
theorem spec_NewSink.eq (v0 : List Int) {b : (List Int) × Int × (List Int) × (List (Int × Int × List Int)) × (List Int) × Int × Int × Bool} (h : spec_NewSink.t some v0 = some b) : spec_NewSink v0 = some b := tOf_intro spec_NewSink.un (fun _ => by kernel_rfl) (vlim_fn (callT_le E tab) rfl rfl rfl ((spec_NewSink.k v0).trans ((by unfold spec_NewSink.t; repeat' first | exact Sub.ret | exact Sub.none | exact Sub.loop | apply Sub.cond | (apply Sub.bind; intro _) : Sub spec_NewSink.mk _ _) b h)))
noncomputable def spec_l16Own.q6 (v0 : List Int) (v1 : Int) (v2 : List Int) (v3 : List (Int × Int × List Int)) (v4 : List Int) (v5 : Int) (v6 : Int) (v7 : List Int) (v8 : Int) (v9 : List Int) (v10 : List (Int × Int × List Int)) (v11 : List Int) (v12 : Int) (v13 : Int) (v14 : List (Int × Int × List Int)) (v15 : List (Int × Int × List Int)) (v16 : Int) (v17 : Int) : Option R := loopAtL E (callT E tab) 62 Try.f62 1 [.r, .r, .r, .r, .r, .l, .r, .b] (nn 1 (⟨(.box false), [.d .deep (.sl (.int .i64)) v0, iL v1, .d .deep (.sl (.int .i64)) v2, .d .fro (.sl (.pair (.int .i64) (.pair (.int .i64) (.sl (.int .i64))))) v3, .d .deep (.sl (.int .i64)) v4, iL v5, iL v6], false, false, false, 0, 0⟩ :: ⟨(.box false), [.d .deep (.sl (.int .i64)) v7, iL v8, .d .deep (.sl (.int .i64)) v9, .d .deep (.sl (.pair (.int .i64) (.pair (.int .i64) (.sl (.int .i64))))) v10, .d .deep (.sl (.int .i64)) v11, iL v12, iL v13], false, false, false, 0, 0⟩ :: vc (.d .deep (.sl (.pair (.int .i64) (.pair (.int .i64) (.sl (.int .i64))))) v14) :: nn 18 (vc (.d .fro (.sl (.pair (.int .i64) (.pair (.int .i64) (.sl (.int .i64))))) v15) :: vc (iL v16) :: vc (iL v17) :: nn 19 ([]))))
noncomputable def spec_l16Own.l6 (v0 : List Int) (v1 : Int) (v2 : List Int) (v3 : List (Int × Int × List Int)) (v4 : List Int) (v5 : Int) (v6 : Int) (v7 : List Int) (v8 : Int) (v9 : List Int) (v10 : List (Int × Int × List Int)) (v11 : List Int) (v12 : Int) (v13 : Int) (v14 : List (Int × Int × List Int)) (v15 : List (Int × Int × List Int)) (v16 : Int) (v17 : Int) : Option ((List Int) × Int × (List Int) × (List (Int × Int × List Int)) × (List Int) × Int × Int) := tOf spec_l16Own.mk (spec_l16Own.q6 v0 v1 v2 v3 v4 v5 v6 v7 v8 v9 v10 v11 v12 v13 v14 v15 v16 v17)
noncomputable def spec_l16Own.t {γ : Type} (ret : ((List Int) × Int × (List Int) × (List (Int × Int × List Int)) × (List Int) × Int × Int) → Option γ) (lp6 : (List Int) → Int → (List Int) → (List (Int × Int × List Int)) → (List Int) → Int → Int → (List Int) → Int → (List Int) → (List (Int × Int × List Int)) → (List Int) → Int → Int → (List (Int × Int × List Int)) → (List (Int × Int × List Int)) → Int → Int → Option γ) (v0 : List Int) (v1 : Int) (v2 : List Int) (v3 : List (Int × Int × List Int)) (v4 : List Int) (v5 : Int) (v6 : Int) : Option γ :=
 bif decide (([] : List Int).length + v0.length ≤ (4294967296 : Nat)) then
  bif decide (([] : List Int).length + v2.length ≤ (4294967296 : Nat)) then
   bif decide (([] : List Int).length + v4.length ≤ (4294967296 : Nat)) then
    lp6 ([] ++ v0) (v1) ([] ++ v2) (v3) ([] ++ v4) (v5) (v6) ([]) ((0 : Int)) ([]) ([]) ([]) ((0 : Int)) ((0 : Int)) ([]) (v3) ((↑v3.length : Int)) ((0 : Int))
   else
    none
  else
   none
 else
  none
noncomputable def spec_l16Own.t6 {γ : Type} (ret : ((List Int) × Int × (List Int) × (List (Int × Int × List Int)) × (List Int) × Int × Int) → Option γ) (lp6 : (List Int) → Int → (List Int) → (List (Int × Int × List Int)) → (List Int) → Int → Int → (List Int) → Int → (List Int) → (List (Int × Int × List Int)) → (List Int) → Int → Int → (List (Int × Int × List Int)) → (List (Int × Int × List Int)) → Int → Int → Option γ) (v0 : List Int) (v1 : Int) (v2 : List Int) (v3 : List (Int × Int × List Int)) (v4 : List Int) (v5 : Int) (v6 : Int) (v7 : List Int) (v8 : Int) (v9 : List Int) (v10 : List (Int × Int × List Int)) (v11 : List Int) (v12 : Int) (v13 : Int) (v14 : List (Int × Int × List Int)) (v15 : List (Int × Int × List Int)) (v16 : Int) (v17 : Int) : Option γ :=
 bif decide (v17 < v16) then
  bif decide ((0 : Int) ≤ v17) then
   bif decide (v17.toNat < v15.length) then
    bif decide (([] : List Int).length + (v15.getD v17.toNat ((0 : Int), (0 : Int), [])).snd.snd.length ≤ (4294967296 : Nat)) then
     bif decide   (v14.length +       [((v15.getD v17.toNat ((0 : Int), (0 : Int), [])).fst, (v15.getD v17.toNat ((0 : Int), (0 : Int), [])).snd.fst,             [] ++ (v15.getD v17.toNat ((0 : Int), (0 : Int), [])).snd.snd)].length ≤     (4294967296 : Nat)) then
      lp6 (v0) (v1) (v2) (v3) (v4) (v5) (v6) (v7) (v8) (v9) (v10) (v11) (v12) (v13) (v14 ++   [((v15.getD v17.toNat ((0 : Int), (0 : Int), [])).fst, (v15.getD v17.toNat ((0 : Int), (0 : Int), [])).snd.fst,       [] ++ (v15.getD v17.toNat ((0 : Int), (0 : Int), [])).snd.snd)]) (v15) (v16) (IntKind.i64.wrap (v17 + (1 : Int)))
     else
      none
    else
     none
   else
    none
  else
   none
 else
  ret (v0, v1, v2, v14, v4, v5, v6)
theorem spec_l16Own.k (v0 : List Int) (v1 : Int) (v2 : List Int) (v3 : List (Int × Int × List Int)) (v4 : List Int) (v5 : Int) (v6 : Int) : topL E (callT E tab) 62 Try.f62 (spec_l16Own.c v0 v1 v2 v3 v4 v5 v6) = spec_l16Own.t (fun b => some (spec_l16Own.mk b)) spec_l16Own.q6 v0 v1 v2 v3 v4 v5 v6 := by kernel_rfl
theorem spec_l16Own.k6 (v0 : List Int) (v1 : Int) (v2 : List Int) (v3 : List (Int × Int × List Int)) (v4 : List Int) (v5 : Int) (v6 : Int) (v7 : List Int) (v8 : Int) (v9 : List Int) (v10 : List (Int × Int × List Int)) (v11 : List Int) (v12 : Int) (v13 : Int) (v14 : List (Int × Int × List Int)) (v15 : List (Int × Int × List Int)) (v16 : Int) (v17 : Int) : roundL E (callT E tab) 62 Try.f62 1 [.r, .r, .r, .r, .r, .l, .r, .b] (nn 1 (⟨(.box false), [.d .deep (.sl (.int .i64)) v0, iL v1, .d .deep (.sl (.int .i64)) v2, .d .fro (.sl (.pair (.int .i64) (.pair (.int .i64) (.sl (.int .i64))))) v3, .d .deep (.sl (.int .i64)) v4, iL v5, iL v6], false, false, false, 0, 0⟩ :: ⟨(.box false), [.d .deep (.sl (.int .i64)) v7, iL v8, .d .deep (.sl (.int .i64)) v9, .d .deep (.sl (.pair (.int .i64) (.pair (.int .i64) (.sl (.int .i64))))) v10, .d .deep (.sl (.int .i64)) v11, iL v12, iL v13], false, false, false, 0, 0⟩ :: vc (.d .deep (.sl (.pair (.int .i64) (.pair (.int .i64) (.sl (.int .i64))))) v14) :: nn 18 (vc (.d .fro (.sl (.pair (.int .i64) (.pair (.int .i64) (.sl (.int .i64))))) v15) :: vc (iL v16) :: vc (iL v17) :: nn 19 ([])))) = spec_l16Own.t6 (fun b => some (spec_l16Own.mk b)) spec_l16Own.q6 v0 v1 v2 v3 v4 v5 v6 v7 v8 v9 v10 v11 v12 v13 v14 v15 v16 v17 := by kernel_rfl
theorem spec_l16Own.eq (v0 : List Int) (v1 : Int) (v2 : List Int) (v3 : List (Int × Int × List Int)) (v4 : List Int) (v5 : Int) (v6 : Int) {b : (List Int) × Int × (List Int) × (List (Int × Int × List Int)) × (List Int) × Int × Int} (h : spec_l16Own.t some spec_l16Own.l6 v0 v1 v2 v3 v4 v5 v6 = some b) : spec_l16Own v0 v1 v2 v3 v4 v5 v6 = some b := tOf_intro spec_l16Own.un (fun _ => by kernel_rfl) (vlim_fn (callT_le E tab) rfl rfl rfl ((spec_l16Own.k v0 v1 v2 v3 v4 v5 v6).trans ((by unfold spec_l16Own.t; repeat' first | exact Sub.ret | exact Sub.none | exact Sub.loop | apply Sub.cond | (apply Sub.bind; intro _) : Sub spec_l16Own.mk _ _) b h)))
theorem spec_l16Own.eq6 (v0 : List Int) (v1 : Int) (v2 : List Int) (v3 : List (Int × Int × List Int)) (v4 : List Int) (v5 : Int) (v6 : Int) (v7 : List Int) (v8 : Int) (v9 : List Int) (v10 : List (Int × Int × List Int)) (v11 : List Int) (v12 : Int) (v13 : Int) (v14 : List (Int × Int × List Int)) (v15 : List (Int × Int × List Int)) (v16 : Int) (v17 : Int) {b : (List Int) × Int × (List Int) × (List (Int × Int × List Int)) × (List Int) × Int × Int} (h : spec_l16Own.t6 some spec_l16Own.l6 v0 v1 v2 v3 v4 v5 v6 v7 v8 v9 v10 v11 v12 v13 v14 v15 v16 v17 = some b) : spec_l16Own.l6 v0 v1 v2 v3 v4 v5 v6 v7 v8 v9 v10 v11 v12 v13 v14 v15 v16 v17 = some b := tOf_intro spec_l16Own.un (fun _ => by kernel_rfl) (loopAtL_step ((spec_l16Own.k6 v0 v1 v2 v3 v4 v5 v6 v7 v8 v9 v10 v11 v12 v13 v14 v15 v16 v17).trans ((by unfold spec_l16Own.t6; repeat' first | exact Sub.ret | exact Sub.none | exact Sub.loop | apply Sub.cond | (apply Sub.bind; intro _) : Sub spec_l16Own.mk _ _) b h)))
noncomputable def spec_l16Step_27a.t {γ : Type} (ret : ((List Int) × Int × (List Int) × (List (Int × Int × List Int)) × (List Int) × Int × Int × Bool) → Option γ) (v0 : List Int) (v1 : Int) (v2 : List Int) (v3 : List (Int × Int × List Int)) (v4 : List Int) (v5 : Int) (v6 : Int) (v7 : Int) : Option γ :=
 bif v7 == (1 : Int) then
  bif v1 == (↑v0.length : Int) then
   ret (v0, v1, v2, v3, v4, v5, v6, Bool.false)
  else
   bif decide ((0 : Int) ≤ v1) then
    bif decide (v1.toNat < v0.length) then
     bif decide (v1.toNat < v0.length) then
      bif decide (v2.length + [v0.getD v1.toNat (0 : Int)].length ≤ (4294967296 : Nat)) then
       ret (v0, IntKind.i64.wrap (v1 + (1 : Int)), v2 ++ [v0.getD v1.toNat (0 : Int)], v3, v4, v5, v6, Bool.true)
      else
       none
     else
      none
    else
     none
   else
    none
 else
  bif v7 == (2 : Int) then
   bif (↑v2.length : Int) == (0 : Int) then
    ret (v0, v1, v2, v3, v4, v5, v6, Bool.false)
   else
    bif decide ((↑v3.length : Int) ≥ (4 : Int)) then
     ret (v0, v1, v2, v3, v4, v5, v6, Bool.false)
    else
     bif decide (IntKind.i64.wrap (v5 + (↑v3.length : Int)) ≥ (1000 : Int)) then
      ret (v0, v1, v2, v3, v4, v5, v6, Bool.false)
     else
      bif decide   (v3.length + [(IntKind.i64.wrap (IntKind.i64.wrap (v5 + (↑v3.length : Int)) + (1 : Int)), v1, v2)].length ≤     (4294967296 : Nat)) then
       ret (v0, v1, [], v3 ++ [(IntKind.i64.wrap (IntKind.i64.wrap (v5 + (↑v3.length : Int)) + (1 : Int)), v1, v2)], v4, v5, v6, Bool.true)
      else
       none
  else
   bif v7 == (3 : Int) then
    bif (↑v3.length : Int) == (0 : Int) then
     ret (v0, v1, v2, v3, v4, v5, v6, Bool.false)
    else
     bif decide (Int.toNat (0 : Int) < v3.length) then
      bif decide (Int.toNat (0 : Int) < v3.length) then
       bif decide (Int.toNat (0 : Int) < v3.length) then
        bif decide (Int.toNat (0 : Int) < v3.length) then
         bif decide   (v4.length + (v3.getD (Int.toNat (0 : Int)) ((0 : Int), (0 : Int), [])).snd.snd.length ≤ (4294967296 : Nat)) then
          bif decide ((Option.some (1 : Int)).getD (0 : Int) ≤ (↑v3.length : Int)) then
           ret (v0, v1, v2, List.drop ((Option.some (1 : Int)).getD (0 : Int)).toNat v3, v4 ++ (v3.getD (Int.toNat (0 : Int)) ((0 : Int), (0 : Int), [])).snd.snd, (v3.getD (Int.toNat (0 : Int)) ((0 : Int), (0 : Int), [])).fst, (v3.getD (Int.toNat (0 : Int)) ((0 : Int), (0 : Int), [])).snd.fst, Bool.true)
          else
           none
         else
          none
        else
         none
       else
        none
      else
       none
     else
      none
   else
    bif v7 == (4 : Int) then
     (spec_l16Crash_5b7 (v0) (v1) (v2) (v3) (v4) (v5) (v6)).bind fun (r0 : (List Int) × Int × (List Int) × (List (Int × Int × List Int)) × (List Int) × Int × Int) =>
     ret (r0.fst, r0.snd.fst, r0.snd.snd.fst, r0.snd.snd.snd.fst, r0.snd.snd.snd.snd.fst, r0.snd.snd.snd.snd.snd.fst, r0.snd.snd.snd.snd.snd.snd, Bool.true)
    else
     bif v7 == (5 : Int) then
      bif decide ((↑v3.length : Int) < (2 : Int)) then
       ret (v0, v1, v2, v3, v4, v5, v6, Bool.false)
      else
       bif decide (Option.none.getD (0 : Int) ≤ IntKind.i64.wrap ((↑v3.length : Int) - (1 : Int))) then
        bif decide (IntKind.i64.wrap ((↑v3.length : Int) - (1 : Int)) ≤ (↑v3.length : Int)) then
         (spec_l16Crash_5b7 (v0) (v1) (v2) (List.take (IntKind.i64.wrap ((↑v3.length : Int) - (1 : Int)) - Option.none.getD (0 : Int)).toNat   (List.drop (Option.none.getD (0 : Int)).toNat v3)) (v4) (v5) (v6)).bind fun (r1 : (List Int) × Int × (List Int) × (List (Int × Int × List Int)) × (List Int) × Int × Int) =>
         ret (r1.fst, r1.snd.fst, r1.snd.snd.fst, r1.snd.snd.snd.fst, r1.snd.snd.snd.snd.fst, r1.snd.snd.snd.snd.snd.fst, r1.snd.snd.snd.snd.snd.snd, Bool.true)
        else
         none
       else
        none
     else
      ret (v0, v1, v2, v3, v4, v5, v6, Bool.false)
theorem spec_l16Step_27a.k (v0 : List Int) (v1 : Int) (v2 : List Int) (v3 : List (Int × Int × List Int)) (v4 : List Int) (v5 : Int) (v6 : Int) (v7 : Int) : topL E (callT E tab) 61 Try.f61 (spec_l16Step_27a.c v0 v1 v2 v3 v4 v5 v6 v7) = spec_l16Step_27a.t (fun b => some (spec_l16Step_27a.mk b)) v0 v1 v2 v3 v4 v5 v6 v7 := by kernel_rfl
theorem spec_l16Step_27a.eq (v0 : List Int) (v1 : Int) (v2 : List Int) (v3 : List (Int × Int × List Int)) (v4 : List Int) (v5 : Int) (v6 : Int) (v7 : Int) {b : (List Int) × Int × (List Int) × (List (Int × Int × List Int)) × (List Int) × Int × Int × Bool} (h : spec_l16Step_27a.t some v0 v1 v2 v3 v4 v5 v6 v7 = some b) : spec_l16Step_27a v0 v1 v2 v3 v4 v5 v6 v7 = some b := tOf_intro spec_l16Step_27a.un (fun _ => by kernel_rfl) (vlim_fn (callT_le E tab) rfl rfl rfl ((spec_l16Step_27a.k v0 v1 v2 v3 v4 v5 v6 v7).trans ((by unfold spec_l16Step_27a.t; repeat' first | exact Sub.ret | exact Sub.none | exact Sub.loop | apply Sub.cond | (apply Sub.bind; intro _) : Sub spec_l16Step_27a.mk _ _) b h)))
noncomputable def spec_l16Crash_5b7.t {γ : Type} (ret : ((List Int) × Int × (List Int) × (List (Int × Int × List Int)) × (List Int) × Int × Int) → Option γ) (v0 : List Int) (v1 : Int) (v2 : List Int) (v3 : List (Int × Int × List Int)) (v4 : List Int) (v5 : Int) (v6 : Int) : Option γ :=
 (spec_l16From (v0) (v1) (v2) (v3) (v4) (v5) (v6)).bind fun (r0 : Int) =>
 ret (v0, r0, [], v3, v4, v5, v6)
theorem spec_l16Crash_5b7.k (v0 : List Int) (v1 : Int) (v2 : List Int) (v3 : List (Int × Int × List Int)) (v4 : List Int) (v5 : Int) (v6 : Int) : topL E (callT E tab) 74 Try.f74 (spec_l16Crash_5b7.c v0 v1 v2 v3 v4 v5 v6) = spec_l16Crash_5b7.t (fun b => some (spec_l16Crash_5b7.mk b)) v0 v1 v2 v3 v4 v5 v6 := by kernel_rfl
theorem spec_l16Crash_5b7.eq (v0 : List Int) (v1 : Int) (v2 : List Int) (v3 : List (Int × Int × List Int)) (v4 : List Int) (v5 : Int) (v6 : Int) {b : (List Int) × Int × (List Int) × (List (Int × Int × List Int)) × (List Int) × Int × Int} (h : spec_l16Crash_5b7.t some v0 v1 v2 v3 v4 v5 v6 = some b) : spec_l16Crash_5b7 v0 v1 v2 v3 v4 v5 v6 = some b := tOf_intro spec_l16Crash_5b7.un (fun _ => by kernel_rfl) (vlim_fn (callT_le E tab) rfl rfl rfl ((spec_l16Crash_5b7.k v0 v1 v2 v3 v4 v5 v6).trans ((by unfold spec_l16Crash_5b7.t; repeat' first | exact Sub.ret | exact Sub.none | exact Sub.loop | apply Sub.cond | (apply Sub.bind; intro _) : Sub spec_l16Crash_5b7.mk _ _) b h)))
noncomputable def spec_l16From.t {γ : Type} (ret : (Int) → Option γ) (v0 : List Int) (v1 : Int) (v2 : List Int) (v3 : List (Int × Int × List Int)) (v4 : List Int) (v5 : Int) (v6 : Int) : Option γ :=
 bif decide ((↑v3.length : Int) > (0 : Int)) then
  bif decide ((0 : Int) ≤ IntKind.i64.wrap ((↑v3.length : Int) - (1 : Int))) then
   bif decide ((IntKind.i64.wrap ((↑v3.length : Int) - (1 : Int))).toNat < v3.length) then
    ret ((v3.getD (IntKind.i64.wrap ((↑v3.length : Int) - (1 : Int))).toNat ((0 : Int), (0 : Int), [])).snd.fst)
   else
    none
  else
   none
 else
  ret (v6)
theorem spec_l16From.k (v0 : List Int) (v1 : Int) (v2 : List Int) (v3 : List (Int × Int × List Int)) (v4 : List Int) (v5 : Int) (v6 : Int) : topL E (callT E tab) 103 Try.f103 (spec_l16From.c v0 v1 v2 v3 v4 v5 v6) = spec_l16From.t (fun b => some (spec_l16From.mk b)) v0 v1 v2 v3 v4 v5 v6 := by kernel_rfl
theorem spec_l16From.eq (v0 : List Int) (v1 : Int) (v2 : List Int) (v3 : List (Int × Int × List Int)) (v4 : List Int) (v5 : Int) (v6 : Int) {b : Int} (h : spec_l16From.t some v0 v1 v2 v3 v4 v5 v6 = some b) : spec_l16From v0 v1 v2 v3 v4 v5 v6 = some b := tOf_intro spec_l16From.un (fun _ => by kernel_rfl) (vlim_fn (callT_le E tab) rfl rfl rfl ((spec_l16From.k v0 v1 v2 v3 v4 v5 v6).trans ((by unfold spec_l16From.t; repeat' first | exact Sub.ret | exact Sub.none | exact Sub.loop | apply Sub.cond | (apply Sub.bind; intro _) : Sub spec_l16From.mk _ _) b h)))
noncomputable def impl_PlaySink.q6 (v0 : List Int) (v1 : Int) (v2 : List Int) (v3 : List (Int × Int × List Int)) (v4 : List Int) (v5 : Int) (v6 : Int) (v7 : List Int) (v8 : Int) (v9 : List Int) (v10 : List (Int × Int × List Int)) (v11 : List Int) (v12 : Int) (v13 : Int) (v14 : List Bool) (v15 : List Int) (v16 : Int) (v17 : Int) : Option R := loopAtL E (callT E tab) 20 Try.f20 2 [.r, .r, .r, .r, .l, .r, .b] (nn 4 (⟨(.box false), [.d .deep (.sl (.int .i64)) v0, iL v1, .d .deep (.sl (.int .i64)) v2, .d .deep (.sl (.pair (.int .i64) (.pair (.int .i64) (.sl (.int .i64))))) v3, .d .deep (.sl (.int .i64)) v4, iL v5, iL v6], false, false, false, 0, 0⟩ :: nn 2 (⟨(.box false), [.d .deep (.sl (.int .i64)) v7, iL v8, .d .deep (.sl (.int .i64)) v9, .d .deep (.sl (.pair (.int .i64) (.pair (.int .i64) (.sl (.int .i64))))) v10, .d .deep (.sl (.int .i64)) v11, iL v12, iL v13], false, false, false, 0, 0⟩ :: nn 1 (vc (.d .deep (.sl .bool) v14) :: nn 15 (vc (.d .fro (.sl (.int .i64)) v15) :: vc (iL v16) :: vc (iL v17) :: nn 12 ([]))))))
noncomputable def impl_PlaySink.l6 (v0 : List Int) (v1 : Int) (v2 : List Int) (v3 : List (Int × Int × List Int)) (v4 : List Int) (v5 : Int) (v6 : Int) (v7 : List Int) (v8 : Int) (v9 : List Int) (v10 : List (Int × Int × List Int)) (v11 : List Int) (v12 : Int) (v13 : Int) (v14 : List Bool) (v15 : List Int) (v16 : Int) (v17 : Int) : Option ((List Int) × Int × (List Int) × (List (Int × Int × List Int)) × (List Int) × Int × Int × (List Bool) × Bool) := tOf impl_PlaySink.mk (impl_PlaySink.q6 v0 v1 v2 v3 v4 v5 v6 v7 v8 v9 v10 v11 v12 v13 v14 v15 v16 v17)
noncomputable def impl_PlaySink.t {γ : Type} (ret : ((List Int) × Int × (List Int) × (List (Int × Int × List Int)) × (List Int) × Int × Int × (List Bool) × Bool) → Option γ) (lp6 : (List Int) → Int → (List Int) → (List (Int × Int × List Int)) → (List Int) → Int → Int → (List Int) → Int → (List Int) → (List (Int × Int × List Int)) → (List Int) → Int → Int → (List Bool) → (List Int) → Int → Int → Option γ) (v0 : List Int) (v1 : List Int) : Option γ :=
 (impl_NewSink (v0)).bind fun (r0 : (List Int) × Int × (List Int) × (List (Int × Int × List Int)) × (List Int) × Int × Int × Bool) =>
 bif !r0.snd.snd.snd.snd.snd.snd.snd then
  ret ([], (0 : Int), [], [], [], (0 : Int), (0 : Int), [], Bool.false)
 else
  bif decide ((↑v1.length : Int) > (120 : Int)) then
   ret ([], (0 : Int), [], [], [], (0 : Int), (0 : Int), [], Bool.false)
  else
   lp6 ([]) ((0 : Int)) ([]) ([]) ([]) ((0 : Int)) ((0 : Int)) (r0.fst) (r0.snd.fst) (r0.snd.snd.fst) (r0.snd.snd.snd.fst) (r0.snd.snd.snd.snd.fst) (r0.snd.snd.snd.snd.snd.fst) (r0.snd.snd.snd.snd.snd.snd.fst) ([]) (v1) ((↑v1.length : Int)) ((0 : Int))
noncomputable def impl_PlaySink.t6 {γ : Type} (ret : ((List Int) × Int × (List Int) × (List (Int × Int × List Int)) × (List Int) × Int × Int × (List Bool) × Bool) → Option γ) (lp6 : (List Int) → Int → (List Int) → (List (Int × Int × List Int)) → (List Int) → Int → Int → (List Int) → Int → (List Int) → (List (Int × Int × List Int)) → (List Int) → Int → Int → (List Bool) → (List Int) → Int → Int → Option γ) (v0 : List Int) (v1 : Int) (v2 : List Int) (v3 : List (Int × Int × List Int)) (v4 : List Int) (v5 : Int) (v6 : Int) (v7 : List Int) (v8 : Int) (v9 : List Int) (v10 : List (Int × Int × List Int)) (v11 : List Int) (v12 : Int) (v13 : Int) (v14 : List Bool) (v15 : List Int) (v16 : Int) (v17 : Int) : Option γ :=
 bif decide (v17 < v16) then
  bif decide ((0 : Int) ≤ v17) then
   bif decide (v17.toNat < v15.length) then
    (impl_Sink_step_1e4 (v7) (v8) (v9) (v10) (v11) (v12) (v13) (v15.getD v17.toNat (0 : Int))).bind fun (r1 : Bool × (List Int) × Int × (List Int) × (List (Int × Int × List Int)) × (List Int) × Int × Int) =>
    bif decide (v14.length + [r1.fst].length ≤ (4294967296 : Nat)) then
     lp6 (v0) (v1) (v2) (v3) (v4) (v5) (v6) (r1.snd.fst) (r1.snd.snd.fst) (r1.snd.snd.snd.fst) (r1.snd.snd.snd.snd.fst) (r1.snd.snd.snd.snd.snd.fst) (r1.snd.snd.snd.snd.snd.snd.fst) (r1.snd.snd.snd.snd.snd.snd.snd) (v14 ++ [r1.fst]) (v15) (v16) (IntKind.i64.wrap (v17 + (1 : Int)))
    else
     none
   else
    none
  else
   none
 else
  (impl_Sink_own (v7) (v8) (v9) (v10) (v11) (v12) (v13)).bind fun (r2 : (List Int) × Int × (List Int) × (List (Int × Int × List Int)) × (List Int) × Int × Int) =>
  ret (r2.fst, r2.snd.fst, r2.snd.snd.fst, r2.snd.snd.snd.fst, r2.snd.snd.snd.snd.fst, r2.snd.snd.snd.snd.snd.fst, r2.snd.snd.snd.snd.snd.snd, v14, Bool.true)
theorem impl_PlaySink.k (v0 : List Int) (v1 : List Int) : topL E (callT E tab) 20 Try.f20 (impl_PlaySink.c v0 v1) = impl_PlaySink.t (fun b => some (impl_PlaySink.mk b)) impl_PlaySink.q6 v0 v1 := by kernel_rfl
theorem impl_PlaySink.k6 (v0 : List Int) (v1 : Int) (v2 : List Int) (v3 : List (Int × Int × List Int)) (v4 : List Int) (v5 : Int) (v6 : Int) (v7 : List Int) (v8 : Int) (v9 : List Int) (v10 : List (Int × Int × List Int)) (v11 : List Int) (v12 : Int) (v13 : Int) (v14 : List Bool) (v15 : List Int) (v16 : Int) (v17 : Int) : roundL E (callT E tab) 20 Try.f20 2 [.r, .r, .r, .r, .l, .r, .b] (nn 4 (⟨(.box false), [.d .deep (.sl (.int .i64)) v0, iL v1, .d .deep (.sl (.int .i64)) v2, .d .deep (.sl (.pair (.int .i64) (.pair (.int .i64) (.sl (.int .i64))))) v3, .d .deep (.sl (.int .i64)) v4, iL v5, iL v6], false, false, false, 0, 0⟩ :: nn 2 (⟨(.box false), [.d .deep (.sl (.int .i64)) v7, iL v8, .d .deep (.sl (.int .i64)) v9, .d .deep (.sl (.pair (.int .i64) (.pair (.int .i64) (.sl (.int .i64))))) v10, .d .deep (.sl (.int .i64)) v11, iL v12, iL v13], false, false, false, 0, 0⟩ :: nn 1 (vc (.d .deep (.sl .bool) v14) :: nn 15 (vc (.d .fro (.sl (.int .i64)) v15) :: vc (iL v16) :: vc (iL v17) :: nn 12 ([])))))) = impl_PlaySink.t6 (fun b => some (impl_PlaySink.mk b)) impl_PlaySink.q6 v0 v1 v2 v3 v4 v5 v6 v7 v8 v9 v10 v11 v12 v13 v14 v15 v16 v17 := by kernel_rfl
theorem impl_PlaySink.eq (v0 : List Int) (v1 : List Int) {b : (List Int) × Int × (List Int) × (List (Int × Int × List Int)) × (List Int) × Int × Int × (List Bool) × Bool} (h : impl_PlaySink.t some impl_PlaySink.l6 v0 v1 = some b) : impl_PlaySink v0 v1 = some b := tOf_intro impl_PlaySink.un (fun _ => by kernel_rfl) (vlim_fn (callT_le E tab) rfl rfl rfl ((impl_PlaySink.k v0 v1).trans ((by unfold impl_PlaySink.t; repeat' first | exact Sub.ret | exact Sub.none | exact Sub.loop | apply Sub.cond | (apply Sub.bind; intro _) : Sub impl_PlaySink.mk _ _) b h)))
theorem impl_PlaySink.eq6 (v0 : List Int) (v1 : Int) (v2 : List Int) (v3 : List (Int × Int × List Int)) (v4 : List Int) (v5 : Int) (v6 : Int) (v7 : List Int) (v8 : Int) (v9 : List Int) (v10 : List (Int × Int × List Int)) (v11 : List Int) (v12 : Int) (v13 : Int) (v14 : List Bool) (v15 : List Int) (v16 : Int) (v17 : Int) {b : (List Int) × Int × (List Int) × (List (Int × Int × List Int)) × (List Int) × Int × Int × (List Bool) × Bool} (h : impl_PlaySink.t6 some impl_PlaySink.l6 v0 v1 v2 v3 v4 v5 v6 v7 v8 v9 v10 v11 v12 v13 v14 v15 v16 v17 = some b) : impl_PlaySink.l6 v0 v1 v2 v3 v4 v5 v6 v7 v8 v9 v10 v11 v12 v13 v14 v15 v16 v17 = some b := tOf_intro impl_PlaySink.un (fun _ => by kernel_rfl) (loopAtL_step ((impl_PlaySink.k6 v0 v1 v2 v3 v4 v5 v6 v7 v8 v9 v10 v11 v12 v13 v14 v15 v16 v17).trans ((by unfold impl_PlaySink.t6; repeat' first | exact Sub.ret | exact Sub.none | exact Sub.loop | apply Sub.cond | (apply Sub.bind; intro _) : Sub impl_PlaySink.mk _ _) b h)))
noncomputable def impl_NewSink.t {γ : Type} (ret : ((List Int) × Int × (List Int) × (List (Int × Int × List Int)) × (List Int) × Int × Int × Bool) → Option γ) (v0 : List Int) : Option γ :=
 bif decide ((↑v0.length : Int) > (30 : Int)) then
  ret ([], (0 : Int), [], [], [], (0 : Int), (0 : Int), Bool.false)
 else
  (xs04 (v0)).bind fun (r0 : (List Int)) =>
  ret (r0, (0 : Int), [], [], [], (0 : Int), (0 : Int), Bool.true)
theorem impl_NewSink.k (v0 : List Int) : topL E (callT E tab) 63 Try.f63 (impl_NewSink.c v0) = impl_NewSink.t (fun b => some (impl_NewSink.mk b)) v0 := by kernel_rfl
theorem impl_NewSink.eq (v0 : List Int) {b : (List Int) × Int × (List Int) × (List (Int × Int × List Int)) × (List Int) × Int × Int × Bool} (h : impl_NewSink.t some v0 = some b) : impl_NewSink v0 = some b := tOf_intro impl_NewSink.un (fun _ => by kernel_rfl) (vlim_fn (callT_le E tab) rfl rfl rfl ((impl_NewSink.k v0).trans ((by unfold impl_NewSink.t; repeat' first | exact Sub.ret | exact Sub.none | exact Sub.loop | apply Sub.cond | (apply Sub.bind; intro _) : Sub impl_NewSink.mk _ _) b h)))
noncomputable def xs04.t {γ : Type} (ret : ((List Int)) → Option γ) (v0 : List Int) : Option γ :=
 bif decide (v0.length ≤ (4294967296 : Nat)) then
  ret (v0)
 else
  none
theorem xs04.k (v0 : List Int) : extOf 87 (xs04.c v0) = xs04.t (fun b => some (xs04.mk b)) v0 := by kernel_rfl
theorem xs04.eq (v0 : List Int) {b : (List Int)} (h : xs04.t some v0 = some b) : xs04 v0 = some b := tOf_intro xs04.un (fun _ => by kernel_rfl) (vlim_ext (g := extOf 87) rfl ((xs04.k v0).trans ((by unfold xs04.t; repeat' first | exact Sub.ret | exact Sub.none | exact Sub.loop | apply Sub.cond | (apply Sub.bind; intro _) : Sub xs04.mk _ _) b h)))
noncomputable def impl_Sink_step_1e4.t {γ : Type} (ret : (Bool × (List Int) × Int × (List Int) × (List (Int × Int × List Int)) × (List Int) × Int × Int) → Option γ) (v0 : List Int) (v1 : Int) (v2 : List Int) (v3 : List (Int × Int × List Int)) (v4 : List Int) (v5 : Int) (v6 : Int) (v7 : Int) : Option γ :=
 bif v7 == (1 : Int) then
  (impl_Sink_read_dfc (v0) (v1) (v2) (v3) (v4) (v5) (v6)).bind fun (r0 : Bool × (List Int) × Int × (List Int) × (List (Int × Int × List Int)) × (List Int) × Int × Int) =>
  ret (r0.fst, r0.snd.fst, r0.snd.snd.fst, r0.snd.snd.snd.fst, r0.snd.snd.snd.snd.fst, r0.snd.snd.snd.snd.snd.fst, r0.snd.snd.snd.snd.snd.snd.fst, r0.snd.snd.snd.snd.snd.snd.snd)
 else
  bif v7 == (2 : Int) then
   (xi01 (v0) (v1) (v2) (v3) (v4) (v5) (v6)).bind fun (r1 : Bool × (List Int) × Int × (List Int) × (List (Int × Int × List Int)) × (List Int) × Int × Int) =>
   ret (r1.fst, r1.snd.fst, r1.snd.snd.fst, r1.snd.snd.snd.fst, r1.snd.snd.snd.snd.fst, r1.snd.snd.snd.snd.snd.fst, r1.snd.snd.snd.snd.snd.snd.fst, r1.snd.snd.snd.snd.snd.snd.snd)
  else
   bif v7 == (3 : Int) then
    (xi02 (v0) (v1) (v2) (v3) (v4) (v5) (v6)).bind fun (r2 : Bool × (List Int) × Int × (List Int) × (List (Int × Int × List Int)) × (List Int) × Int × Int) =>
    ret (r2.fst, r2.snd.fst, r2.snd.snd.fst, r2.snd.snd.snd.fst, r2.snd.snd.snd.snd.fst, r2.snd.snd.snd.snd.snd.fst, r2.snd.snd.snd.snd.snd.snd.fst, r2.snd.snd.snd.snd.snd.snd.snd)
   else
    bif v7 == (4 : Int) then
     (xi05 (v0) (v1) (v2) (v3) (v4) (v5) (v6)).bind fun (r3 : Bool × (List Int) × Int × (List Int) × (List (Int × Int × List Int)) × (List Int) × Int × Int) =>
     ret (r3.fst, r3.snd.fst, r3.snd.snd.fst, r3.snd.snd.snd.fst, r3.snd.snd.snd.snd.fst, r3.snd.snd.snd.snd.snd.fst, r3.snd.snd.snd.snd.snd.snd.fst, r3.snd.snd.snd.snd.snd.snd.snd)
    else
     bif v7 == (5 : Int) then
      bif decide ((↑v3.length : Int) < (2 : Int)) then
       ret (Bool.false, v0, v1, v2, v3, v4, v5, v6)
      else
       bif decide (Option.none.getD (0 : Int) ≤ IntKind.i64.wrap ((↑v3.length : Int) - (1 : Int))) then
        bif decide (IntKind.i64.wrap ((↑v3.length : Int) - (1 : Int)) ≤ (↑v3.length : Int)) then
         (xi05 (v0) (v1) (v2) (List.take (IntKind.i64.wrap ((↑v3.length : Int) - (1 : Int)) - Option.none.getD (0 : Int)).toNat   (List.drop (Option.none.getD (0 : Int)).toNat v3)) (v4) (v5) (v6)).bind fun (r4 : Bool × (List Int) × Int × (List Int) × (List (Int × Int × List Int)) × (List Int) × Int × Int) =>
         ret (r4.fst, r4.snd.fst, r4.snd.snd.fst, r4.snd.snd.snd.fst, r4.snd.snd.snd.snd.fst, r4.snd.snd.snd.snd.snd.fst, r4.snd.snd.snd.snd.snd.snd.fst, r4.snd.snd.snd.snd.snd.snd.snd)
        else
         none
       else
        none
     else
      ret (Bool.false, v0, v1, v2, v3, v4, v5, v6)
theorem impl_Sink_step_1e4.k (v0 : List Int) (v1 : Int) (v2 : List Int) (v3 : List (Int × Int × List Int)) (v4 : List Int) (v5 : Int) (v6 : Int) (v7 : Int) : topL E (callT E tab) 64 Try.f64 (impl_Sink_step_1e4.c v0 v1 v2 v3 v4 v5 v6 v7) = impl_Sink_step_1e4.t (fun b => some (impl_Sink_step_1e4.mk b)) v0 v1 v2 v3 v4 v5 v6 v7 := by kernel_rfl
theorem impl_Sink_step_1e4.eq (v0 : List Int) (v1 : Int) (v2 : List Int) (v3 : List (Int × Int × List Int)) (v4 : List Int) (v5 : Int) (v6 : Int) (v7 : Int) {b : Bool × (List Int) × Int × (List Int) × (List (Int × Int × List Int)) × (List Int) × Int × Int} (h : impl_Sink_step_1e4.t some v0 v1 v2 v3 v4 v5 v6 v7 = some b) : impl_Sink_step_1e4 v0 v1 v2 v3 v4 v5 v6 v7 = some b := tOf_intro impl_Sink_step_1e4.un (fun _ => by kernel_rfl) (vlim_fn (callT_le E tab) rfl rfl rfl ((impl_Sink_step_1e4.k v0 v1 v2 v3 v4 v5 v6 v7).trans ((by unfold impl_Sink_step_1e4.t; repeat' first | exact Sub.ret | exact Sub.none | exact Sub.loop | apply Sub.cond | (apply Sub.bind; intro _) : Sub impl_Sink_step_1e4.mk _ _) b h)))
noncomputable def impl_Sink_read_dfc.t {γ : Type} (ret : (Bool × (List Int) × Int × (List Int) × (List (Int × Int × List Int)) × (List Int) × Int × Int) → Option γ) (v0 : List Int) (v1 : Int) (v2 : List Int) (v3 : List (Int × Int × List Int)) (v4 : List Int) (v5 : Int) (v6 : Int) : Option γ :=
 bif v1 == (↑v0.length : Int) then
  ret (Bool.false, v0, v1, v2, v3, v4, v5, v6)
 else
  bif decide ((0 : Int) ≤ v1) then
   bif decide (v1.toNat < v0.length) then
    bif decide (v1.toNat < v0.length) then
     bif decide (v2.length + [v0.getD v1.toNat (0 : Int)].length ≤ (4294967296 : Nat)) then
      ret (Bool.true, v0, IntKind.i64.wrap (v1 + (1 : Int)), v2 ++ [v0.getD v1.toNat (0 : Int)], v3, v4, v5, v6)
     else
      none
    else
     none
   else
    none
  else
   none
theorem impl_Sink_read_dfc.k (v0 : List Int) (v1 : Int) (v2 : List Int) (v3 : List (Int × Int × List Int)) (v4 : List Int) (v5 : Int) (v6 : Int) : topL E (callT E tab) 98 Try.f98 (impl_Sink_read_dfc.c v0 v1 v2 v3 v4 v5 v6) = impl_Sink_read_dfc.t (fun b => some (impl_Sink_read_dfc.mk b)) v0 v1 v2 v3 v4 v5 v6 := by kernel_rfl
theorem impl_Sink_read_dfc.eq (v0 : List Int) (v1 : Int) (v2 : List Int) (v3 : List (Int × Int × List Int)) (v4 : List Int) (v5 : Int) (v6 : Int) {b : Bool × (List Int) × Int × (List Int) × (List (Int × Int × List Int)) × (List Int) × Int × Int} (h : impl_Sink_read_dfc.t some v0 v1 v2 v3 v4 v5 v6 = some b) : impl_Sink_read_dfc v0 v1 v2 v3 v4 v5 v6 = some b := tOf_intro impl_Sink_read_dfc.un (fun _ => by kernel_rfl) (vlim_fn (callT_le E tab) rfl rfl rfl ((impl_Sink_read_dfc.k v0 v1 v2 v3 v4 v5 v6).trans ((by unfold impl_Sink_read_dfc.t; repeat' first | exact Sub.ret | exact Sub.none | exact Sub.loop | apply Sub.cond | (apply Sub.bind; intro _) : Sub impl_Sink_read_dfc.mk _ _) b h)))
noncomputable def xi01.t {γ : Type} (ret : (Bool × (List Int) × Int × (List Int) × (List (Int × Int × List Int)) × (List Int) × Int × Int) → Option γ) (v0 : List Int) (v1 : Int) (v2 : List Int) (v3 : List (Int × Int × List Int)) (v4 : List Int) (v5 : Int) (v6 : Int) : Option γ :=
 bif (↑v2.length : Int) == (0 : Int) then
  ret (Bool.false, v0, v1, v2, v3, v4, v5, v6)
 else
  bif decide ((↑v3.length : Int) ≥ (4 : Int)) then
   ret (Bool.false, v0, v1, v2, v3, v4, v5, v6)
  else
   bif decide (IntKind.i64.wrap (v5 + (↑v3.length : Int)) ≥ (1000 : Int)) then
    ret (Bool.false, v0, v1, v2, v3, v4, v5, v6)
   else
    bif decide   (v3.length + [(IntKind.i64.wrap (IntKind.i64.wrap (v5 + (↑v3.length : Int)) + (1 : Int)), v1, v2)].length ≤     (4294967296 : Nat)) then
     ret (Bool.true, v0, v1, [], v3 ++ [(IntKind.i64.wrap (IntKind.i64.wrap (v5 + (↑v3.length : Int)) + (1 : Int)), v1, v2)], v4, v5, v6)
    else
     none
theorem xi01.k (v0 : List Int) (v1 : Int) (v2 : List Int) (v3 : List (Int × Int × List Int)) (v4 : List Int) (v5 : Int) (v6 : Int) : topL E (callT E tab) 77 Try.f77 (xi01.c v0 v1 v2 v3 v4 v5 v6) = xi01.t (fun b => some (xi01.mk b)) v0 v1 v2 v3 v4 v5 v6 := by kernel_rfl
theorem xi01.eq (v0 : List Int) (v1 : Int) (v2 : List Int) (v3 : List (Int × Int × List Int)) (v4 : List Int) (v5 : Int) (v6 : Int) {b : Bool × (List Int) × Int × (List Int) × (List (Int × Int × List Int)) × (List Int) × Int × Int} (h : xi01.t some v0 v1 v2 v3 v4 v5 v6 = some b) : xi01 v0 v1 v2 v3 v4 v5 v6 = some b := tOf_intro xi01.un (fun _ => by kernel_rfl) (vlim_fn (callT_le E tab) rfl rfl rfl ((xi01.k v0 v1 v2 v3 v4 v5 v6).trans ((by unfold xi01.t; repeat' first | exact Sub.ret | exact Sub.none | exact Sub.loop | apply Sub.cond | (apply Sub.bind; intro _) : Sub xi01.mk _ _) b h)))
noncomputable def xi02.t {γ : Type} (ret : (Bool × (List Int) × Int × (List Int) × (List (Int × Int × List Int)) × (List Int) × Int × Int) → Option γ) (v0 : List Int) (v1 : Int) (v2 : List Int) (v3 : List (Int × Int × List Int)) (v4 : List Int) (v5 : Int) (v6 : Int) : Option γ :=
 bif (↑v3.length : Int) == (0 : Int) then
  ret (Bool.false, v0, v1, v2, v3, v4, v5, v6)
 else
  bif decide (Int.toNat (0 : Int) < v3.length) then
   bif decide (Int.toNat (0 : Int) < v3.length) then
    bif decide (Int.toNat (0 : Int) < v3.length) then
     bif decide (Int.toNat (0 : Int) < v3.length) then
      bif decide   (v4.length + (v3.getD (Int.toNat (0 : Int)) ((0 : Int), (0 : Int), [])).snd.snd.length ≤ (4294967296 : Nat)) then
       bif decide ((Option.some (1 : Int)).getD (0 : Int) ≤ (↑v3.length : Int)) then
        ret (Bool.true, v0, v1, v2, List.drop ((Option.some (1 : Int)).getD (0 : Int)).toNat v3, v4 ++ (v3.getD (Int.toNat (0 : Int)) ((0 : Int), (0 : Int), [])).snd.snd, (v3.getD (Int.toNat (0 : Int)) ((0 : Int), (0 : Int), [])).fst, (v3.getD (Int.toNat (0 : Int)) ((0 : Int), (0 : Int), [])).snd.fst)
       else
        none
      else
       none
     else
      none
    else
     none
   else
    none
  else
   none
theorem xi02.k (v0 : List Int) (v1 : Int) (v2 : List Int) (v3 : List (Int × Int × List Int)) (v4 : List Int) (v5 : Int) (v6 : Int) : topL E (callT E tab) 99 Try.f99 (xi02.c v0 v1 v2 v3 v4 v5 v6) = xi02.t (fun b => some (xi02.mk b)) v0 v1 v2 v3 v4 v5 v6 := by kernel_rfl
theorem xi02.eq (v0 : List Int) (v1 : Int) (v2 : List Int) (v3 : List (Int × Int × List Int)) (v4 : List Int) (v5 : Int) (v6 : Int) {b : Bool × (List Int) × Int × (List Int) × (List (Int × Int × List Int)) × (List Int) × Int × Int} (h : xi02.t some v0 v1 v2 v3 v4 v5 v6 = some b) : xi02 v0 v1 v2 v3 v4 v5 v6 = some b := tOf_intro xi02.un (fun _ => by kernel_rfl) (vlim_fn (callT_le E tab) rfl rfl rfl ((xi02.k v0 v1 v2 v3 v4 v5 v6).trans ((by unfold xi02.t; repeat' first | exact Sub.ret | exact Sub.none | exact Sub.loop | apply Sub.cond | (apply Sub.bind; intro _) : Sub xi02.mk _ _) b h)))
noncomputable def xi05.t {γ : Type} (ret : (Bool × (List Int) × Int × (List Int) × (List (Int × Int × List Int)) × (List Int) × Int × Int) → Option γ) (v0 : List Int) (v1 : Int) (v2 : List Int) (v3 : List (Int × Int × List Int)) (v4 : List Int) (v5 : Int) (v6 : Int) : Option γ :=
 (impl_Sink_stored (v0) (v1) (v2) (v3) (v4) (v5) (v6)).bind fun (r0 : Int) =>
 ret (Bool.true, v0, r0, [], v3, v4, v5, v6)
theorem xi05.k (v0 : List Int) (v1 : Int) (v2 : List Int) (v3 : List (Int × Int × List Int)) (v4 : List Int) (v5 : Int) (v6 : Int) : topL E (callT E tab) 75 Try.f75 (xi05.c v0 v1 v2 v3 v4 v5 v6) = xi05.t (fun b => some (xi05.mk b)) v0 v1 v2 v3 v4 v5 v6 := by kernel_rfl
theorem xi05.eq (v0 : List Int) (v1 : Int) (v2 : List Int) (v3 : List (Int × Int × List Int)) (v4 : List Int) (v5 : Int) (v6 : Int) {b : Bool × (List Int) × Int × (List Int) × (List (Int × Int × List Int)) × (List Int) × Int × Int} (h : xi05.t some v0 v1 v2 v3 v4 v5 v6 = some b) : xi05 v0 v1 v2 v3 v4 v5 v6 = some b := tOf_intro xi05.un (fun _ => by kernel_rfl) (vlim_fn (callT_le E tab) rfl rfl rfl ((xi05.k v0 v1 v2 v3 v4 v5 v6).trans ((by unfold xi05.t; repeat' first | exact Sub.ret | exact Sub.none | exact Sub.loop | apply Sub.cond | (apply Sub.bind; intro _) : Sub xi05.mk _ _) b h)))
noncomputable def impl_Sink_stored.t {γ : Type} (ret : (Int) → Option γ) (v0 : List Int) (v1 : Int) (v2 : List Int) (v3 : List (Int × Int × List Int)) (v4 : List Int) (v5 : Int) (v6 : Int) : Option γ :=
 bif decide (IntKind.i64.wrap ((↑v3.length : Int) - (1 : Int)) ≥ (0 : Int)) then
  bif decide ((0 : Int) ≤ IntKind.i64.wrap ((↑v3.length : Int) - (1 : Int))) then
   bif decide ((IntKind.i64.wrap ((↑v3.length : Int) - (1 : Int))).toNat < v3.length) then
    ret ((v3.getD (IntKind.i64.wrap ((↑v3.length : Int) - (1 : Int))).toNat ((0 : Int), (0 : Int), [])).snd.fst)
   else
    none
  else
   none
 else
  ret (v6)
theorem impl_Sink_stored.k (v0 : List Int) (v1 : Int) (v2 : List Int) (v3 : List (Int × Int × List Int)) (v4 : List Int) (v5 : Int) (v6 : Int) : topL E (callT E tab) 104 Try.f104 (impl_Sink_stored.c v0 v1 v2 v3 v4 v5 v6) = impl_Sink_stored.t (fun b => some (impl_Sink_stored.mk b)) v0 v1 v2 v3 v4 v5 v6 := by kernel_rfl
theorem impl_Sink_stored.eq (v0 : List Int) (v1 : Int) (v2 : List Int) (v3 : List (Int × Int × List Int)) (v4 : List Int) (v5 : Int) (v6 : Int) {b : Int} (h : impl_Sink_stored.t some v0 v1 v2 v3 v4 v5 v6 = some b) : impl_Sink_stored v0 v1 v2 v3 v4 v5 v6 = some b := tOf_intro impl_Sink_stored.un (fun _ => by kernel_rfl) (vlim_fn (callT_le E tab) rfl rfl rfl ((impl_Sink_stored.k v0 v1 v2 v3 v4 v5 v6).trans ((by unfold impl_Sink_stored.t; repeat' first | exact Sub.ret | exact Sub.none | exact Sub.loop | apply Sub.cond | (apply Sub.bind; intro _) : Sub impl_Sink_stored.mk _ _) b h)))
noncomputable def impl_Sink_own.q4 (v0 : List Int) (v1 : Int) (v2 : List Int) (v3 : List (Int × Int × List Int)) (v4 : List Int) (v5 : Int) (v6 : Int) (v7 : List Int) (v8 : Int) (v9 : List Int) (v10 : List (Int × Int × List Int)) (v11 : List Int) (v12 : Int) (v13 : Int) (v14 : List (Int × Int × List Int)) (v15 : List (Int × Int × List Int)) (v16 : Int) (v17 : Int) : Option R := loopAtL E (callT E tab) 65 Try.f65 1 [.r, .r, .r, .l, .r, .b] (nn 1 (⟨(.box false), [.d .deep (.sl (.int .i64)) v0, iL v1, .d .deep (.sl (.int .i64)) v2, .d .fro (.sl (.pair (.int .i64) (.pair (.int .i64) (.sl (.int .i64))))) v3, .d .deep (.sl (.int .i64)) v4, iL v5, iL v6], false, false, false, 0, 0⟩ :: ⟨(.box false), [.d .deep (.sl (.int .i64)) v7, iL v8, .d .deep (.sl (.int .i64)) v9, .d .deep (.sl (.pair (.int .i64) (.pair (.int .i64) (.sl (.int .i64))))) v10, .d .deep (.sl (.int .i64)) v11, iL v12, iL v13], false, false, false, 0, 0⟩ :: vc (.d .deep (.sl (.pair (.int .i64) (.pair (.int .i64) (.sl (.int .i64))))) v14) :: nn 15 (vc (.d .fro (.sl (.pair (.int .i64) (.pair (.int .i64) (.sl (.int .i64))))) v15) :: vc (iL v16) :: vc (iL v17) :: nn 18 ([]))))
noncomputable def impl_Sink_own.l4 (v0 : List Int) (v1 : Int) (v2 : List Int) (v3 : List (Int × Int × List Int)) (v4 : List Int) (v5 : Int) (v6 : Int) (v7 : List Int) (v8 : Int) (v9 : List Int) (v10 : List (Int × Int × List Int)) (v11 : List Int) (v12 : Int) (v13 : Int) (v14 : List (Int × Int × List Int)) (v15 : List (Int × Int × List Int)) (v16 : Int) (v17 : Int) : Option ((List Int) × Int × (List Int) × (List (Int × Int × List Int)) × (List Int) × Int × Int) := tOf impl_Sink_own.mk (impl_Sink_own.q4 v0 v1 v2 v3 v4 v5 v6 v7 v8 v9 v10 v11 v12 v13 v14 v15 v16 v17)
noncomputable def impl_Sink_own.t {γ : Type} (ret : ((List Int) × Int × (List Int) × (List (Int × Int × List Int)) × (List Int) × Int × Int) → Option γ) (lp4 : (List Int) → Int → (List Int) → (List (Int × Int × List Int)) → (List Int) → Int → Int → (List Int) → Int → (List Int) → (List (Int × Int × List Int)) → (List Int) → Int → Int → (List (Int × Int × List Int)) → (List (Int × Int × List Int)) → Int → Int → Option γ) (v0 : List Int) (v1 : Int) (v2 : List Int) (v3 : List (Int × Int × List Int)) (v4 : List Int) (v5 : Int) (v6 : Int) : Option γ :=
 (xs04 (v0)).bind fun (r0 : (List Int)) =>
 (xs04 (v2)).bind fun (r1 : (List Int)) =>
 (xs04 (v4)).bind fun (r2 : (List Int)) =>
 lp4 (r0) (v1) (r1) (v3) (r2) (v5) (v6) ([]) ((0 : Int)) ([]) ([]) ([]) ((0 : Int)) ((0 : Int)) ([]) (v3) ((↑v3.length : Int)) ((0 : Int))
noncomputable def impl_Sink_own.t4 {γ : Type} (ret : ((List Int) × Int × (List Int) × (List (Int × Int × List Int)) × (List Int) × Int × Int) → Option γ) (lp4 : (List Int) → Int → (List Int) → (List (Int × Int × List Int)) → (List Int) → Int → Int → (List Int) → Int → (List Int) → (List (Int × Int × List Int)) → (List Int) → Int → Int → (List (Int × Int × List Int)) → (List (Int × Int × List Int)) → Int → Int → Option γ) (v0 : List Int) (v1 : Int) (v2 : List Int) (v3 : List (Int × Int × List Int)) (v4 : List Int) (v5 : Int) (v6 : Int) (v7 : List Int) (v8 : Int) (v9 : List Int) (v10 : List (Int × Int × List Int)) (v11 : List Int) (v12 : Int) (v13 : Int) (v14 : List (Int × Int × List Int)) (v15 : List (Int × Int × List Int)) (v16 : Int) (v17 : Int) : Option γ :=
 bif decide (v17 < v16) then
  bif decide ((0 : Int) ≤ v17) then
   bif decide (v17.toNat < v15.length) then
    (xs04 ((v15.getD v17.toNat ((0 : Int), (0 : Int), [])).snd.snd)).bind fun (r3 : (List Int)) =>
    bif decide   (v14.length +       [((v15.getD v17.toNat ((0 : Int), (0 : Int), [])).fst, (v15.getD v17.toNat ((0 : Int), (0 : Int), [])).snd.fst,             r3)].length ≤     (4294967296 : Nat)) then
     lp4 (v0) (v1) (v2) (v3) (v4) (v5) (v6) (v7) (v8) (v9) (v10) (v11) (v12) (v13) (v14 ++   [((v15.getD v17.toNat ((0 : Int), (0 : Int), [])).fst, (v15.getD v17.toNat ((0 : Int), (0 : Int), [])).snd.fst, r3)]) (v15) (v16) (IntKind.i64.wrap (v17 + (1 : Int)))
    else
     none
   else
    none
  else
   none
 else
  ret (v0, v1, v2, v14, v4, v5, v6)
theorem impl_Sink_own.k (v0 : List Int) (v1 : Int) (v2 : List Int) (v3 : List (Int × Int × List Int)) (v4 : List Int) (v5 : Int) (v6 : Int) : topL E (callT E tab) 65 Try.f65 (impl_Sink_own.c v0 v1 v2 v3 v4 v5 v6) = impl_Sink_own.t (fun b => some (impl_Sink_own.mk b)) impl_Sink_own.q4 v0 v1 v2 v3 v4 v5 v6 := by kernel_rfl
theorem impl_Sink_own.k4 (v0 : List Int) (v1 : Int) (v2 : List Int) (v3 : List (Int × Int × List Int)) (v4 : List Int) (v5 : Int) (v6 : Int) (v7 : List Int) (v8 : Int) (v9 : List Int) (v10 : List (Int × Int × List Int)) (v11 : List Int) (v12 : Int) (v13 : Int) (v14 : List (Int × Int × List Int)) (v15 : List (Int × Int × List Int)) (v16 : Int) (v17 : Int) : roundL E (callT E tab) 65 Try.f65 1 [.r, .r, .r, .l, .r, .b] (nn 1 (⟨(.box false), [.d .deep (.sl (.int .i64)) v0, iL v1, .d .deep (.sl (.int .i64)) v2, .d .fro (.sl (.pair (.int .i64) (.pair (.int .i64) (.sl (.int .i64))))) v3, .d .deep (.sl (.int .i64)) v4, iL v5, iL v6], false, false, false, 0, 0⟩ :: ⟨(.box false), [.d .deep (.sl (.int .i64)) v7, iL v8, .d .deep (.sl (.int .i64)) v9, .d .deep (.sl (.pair (.int .i64) (.pair (.int .i64) (.sl (.int .i64))))) v10, .d .deep (.sl (.int .i64)) v11, iL v12, iL v13], false, false, false, 0, 0⟩ :: vc (.d .deep (.sl (.pair (.int .i64) (.pair (.int .i64) (.sl (.int .i64))))) v14) :: nn 15 (vc (.d .fro (.sl (.pair (.int .i64) (.pair (.int .i64) (.sl (.int .i64))))) v15) :: vc (iL v16) :: vc (iL v17) :: nn 18 ([])))) = impl_Sink_own.t4 (fun b => some (impl_Sink_own.mk b)) impl_Sink_own.q4 v0 v1 v2 v3 v4 v5 v6 v7 v8 v9 v10 v11 v12 v13 v14 v15 v16 v17 := by kernel_rfl
theorem impl_Sink_own.eq (v0 : List Int) (v1 : Int) (v2 : List Int) (v3 : List (Int × Int × List Int)) (v4 : List Int) (v5 : Int) (v6 : Int) {b : (List Int) × Int × (List Int) × (List (Int × Int × List Int)) × (List Int) × Int × Int} (h : impl_Sink_own.t some impl_Sink_own.l4 v0 v1 v2 v3 v4 v5 v6 = some b) : impl_Sink_own v0 v1 v2 v3 v4 v5 v6 = some b := tOf_intro impl_Sink_own.un (fun _ => by kernel_rfl) (vlim_fn (callT_le E tab) rfl rfl rfl ((impl_Sink_own.k v0 v1 v2 v3 v4 v5 v6).trans ((by unfold impl_Sink_own.t; repeat' first | exact Sub.ret | exact Sub.none | exact Sub.loop | apply Sub.cond | (apply Sub.bind; intro _) : Sub impl_Sink_own.mk _ _) b h)))
theorem impl_Sink_own.eq4 (v0 : List Int) (v1 : Int) (v2 : List Int) (v3 : List (Int × Int × List Int)) (v4 : List Int) (v5 : Int) (v6 : Int) (v7 : List Int) (v8 : Int) (v9 : List Int) (v10 : List (Int × Int × List Int)) (v11 : List Int) (v12 : Int) (v13 : Int) (v14 : List (Int × Int × List Int)) (v15 : List (Int × Int × List Int)) (v16 : Int) (v17 : Int) {b : (List Int) × Int × (List Int) × (List (Int × Int × List Int)) × (List Int) × Int × Int} (h : impl_Sink_own.t4 some impl_Sink_own.l4 v0 v1 v2 v3 v4 v5 v6 v7 v8 v9 v10 v11 v12 v13 v14 v15 v16 v17 = some b) : impl_Sink_own.l4 v0 v1 v2 v3 v4 v5 v6 v7 v8 v9 v10 v11 v12 v13 v14 v15 v16 v17 = some b := tOf_intro impl_Sink_own.un (fun _ => by kernel_rfl) (loopAtL_step ((impl_Sink_own.k4 v0 v1 v2 v3 v4 v5 v6 v7 v8 v9 v10 v11 v12 v13 v14 v15 v16 v17).trans ((by unfold impl_Sink_own.t4; repeat' first | exact Sub.ret | exact Sub.none | exact Sub.loop | apply Sub.cond | (apply Sub.bind; intro _) : Sub impl_Sink_own.mk _ _) b h)))
noncomputable def laws_eqSink.t {γ : Type} (ret : (Bool) → Option γ) (v0 : List Int) (v1 : Int) (v2 : List Int) (v3 : List (Int × Int × List Int)) (v4 : List Int) (v5 : Int) (v6 : Int) (v7 : List Int) (v8 : Int) (v9 : List Int) (v10 : List (Int × Int × List Int)) (v11 : List Int) (v12 : Int) (v13 : Int) : Option γ :=
 (laws_eqIntS (v0) (v7)).bind fun (r0 : Bool) =>
 bif !r0 then
  ret (Bool.false)
 else
  bif v1 != v8 then
   ret (Bool.false)
  else
   (laws_eqIntS (v2) (v9)).bind fun (r1 : Bool) =>
   bif !r1 then
    ret (Bool.false)
   else
    (laws_eqPreparedS (v3) (v10)).bind fun (r2 : Bool) =>
    bif !r2 then
     ret (Bool.false)
    else
     (laws_eqIntS (v4) (v11)).bind fun (r3 : Bool) =>
     bif !r3 then
      ret (Bool.false)
     else
      bif v5 != v12 then
       ret (Bool.false)
      else
       bif v6 != v13 then
        ret (Bool.false)
       else
        ret (Bool.true)
theorem laws_eqSink.k (v0 : List Int) (v1 : Int) (v2 : List Int) (v3 : List (Int × Int × List Int)) (v4 : List Int) (v5 : Int) (v6 : Int) (v7 : List Int) (v8 : Int) (v9 : List Int) (v10 : List (Int × Int × List Int)) (v11 : List Int) (v12 : Int) (v13 : Int) : topL E (callT E tab) 21 Try.f21 (laws_eqSink.c v0 v1 v2 v3 v4 v5 v6 v7 v8 v9 v10 v11 v12 v13) = laws_eqSink.t (fun b => some (laws_eqSink.mk b)) v0 v1 v2 v3 v4 v5 v6 v7 v8 v9 v10 v11 v12 v13 := by kernel_rfl
theorem laws_eqSink.eq (v0 : List Int) (v1 : Int) (v2 : List Int) (v3 : List (Int × Int × List Int)) (v4 : List Int) (v5 : Int) (v6 : Int) (v7 : List Int) (v8 : Int) (v9 : List Int) (v10 : List (Int × Int × List Int)) (v11 : List Int) (v12 : Int) (v13 : Int) {b : Bool} (h : laws_eqSink.t some v0 v1 v2 v3 v4 v5 v6 v7 v8 v9 v10 v11 v12 v13 = some b) : laws_eqSink v0 v1 v2 v3 v4 v5 v6 v7 v8 v9 v10 v11 v12 v13 = some b := tOf_intro laws_eqSink.un (fun _ => by kernel_rfl) (vlim_fn (callT_le E tab) rfl rfl rfl ((laws_eqSink.k v0 v1 v2 v3 v4 v5 v6 v7 v8 v9 v10 v11 v12 v13).trans ((by unfold laws_eqSink.t; repeat' first | exact Sub.ret | exact Sub.none | exact Sub.loop | apply Sub.cond | (apply Sub.bind; intro _) : Sub laws_eqSink.mk _ _) b h)))
noncomputable def laws_eqIntS.q4 (v0 : List Int) (v1 : List Int) (v2 : Int) : Option R := loopAtL E (callT E tab) 23 Try.f23 2 [.r, .r, .l, .r, .b] (vc (.d .fro (.sl (.int .i64)) v0) :: vc (.d .fro (.sl (.int .i64)) v1) :: nn 3 (vc (iL v2) :: nn 20 ([])))
noncomputable def laws_eqIntS.l4 (v0 : List Int) (v1 : List Int) (v2 : Int) : Option (Bool) := tOf laws_eqIntS.mk (laws_eqIntS.q4 v0 v1 v2)
noncomputable def laws_eqIntS.t {γ : Type} (ret : (Bool) → Option γ) (lp4 : (List Int) → (List Int) → Int → Option γ) (v0 : List Int) (v1 : List Int) : Option γ :=
 bif (↑v0.length : Int) != (↑v1.length : Int) then
  ret (Bool.false)
 else
  lp4 (v0) (v1) ((0 : Int))
noncomputable def laws_eqIntS.t4 {γ : Type} (ret : (Bool) → Option γ) (lp4 : (List Int) → (List Int) → Int → Option γ) (v0 : List Int) (v1 : List Int) (v2 : Int) : Option γ :=
 bif decide (v2 < (↑v0.length : Int)) then
  bif decide ((0 : Int) ≤ v2) then
   bif decide (v2.toNat < v0.length) then
    bif decide ((0 : Int) ≤ v2) then
     bif decide (v2.toNat < v1.length) then
      bif v0.getD v2.toNat (0 : Int) != v1.getD v2.toNat (0 : Int) then
       ret (Bool.false)
      else
       lp4 (v0) (v1) (IntKind.i64.wrap (v2 + (1 : Int)))
     else
      none
    else
     none
   else
    none
  else
   none
 else
  ret (Bool.true)
theorem laws_eqIntS.k (v0 : List Int) (v1 : List Int) : topL E (callT E tab) 23 Try.f23 (laws_eqIntS.c v0 v1) = laws_eqIntS.t (fun b => some (laws_eqIntS.mk b)) laws_eqIntS.q4 v0 v1 := by kernel_rfl
theorem laws_eqIntS.k4 (v0 : List Int) (v1 : List Int) (v2 : Int) : roundL E (callT E tab) 23 Try.f23 2 [.r, .r, .l, .r, .b] (vc (.d .fro (.sl (.int .i64)) v0) :: vc (.d .fro (.sl (.int .i64)) v1) :: nn 3 (vc (iL v2) :: nn 20 ([]))) = laws_eqIntS.t4 (fun b => some (laws_eqIntS.mk b)) laws_eqIntS.q4 v0 v1 v2 := by kernel_rfl
theorem laws_eqIntS.eq (v0 : List Int) (v1 : List Int) {b : Bool} (h : laws_eqIntS.t some laws_eqIntS.l4 v0 v1 = some b) : laws_eqIntS v0 v1 = some b := tOf_intro laws_eqIntS.un (fun _ => by kernel_rfl) (vlim_fn (callT_le E tab) rfl rfl rfl ((laws_eqIntS.k v0 v1).trans ((by unfold laws_eqIntS.t; repeat' first | exact Sub.ret | exact Sub.none | exact Sub.loop | apply Sub.cond | (apply Sub.bind; intro _) : Sub laws_eqIntS.mk _ _) b h)))
theorem laws_eqIntS.eq4 (v0 : List Int) (v1 : List Int) (v2 : Int) {b : Bool} (h : laws_eqIntS.t4 some laws_eqIntS.l4 v0 v1 v2 = some b) : laws_eqIntS.l4 v0 v1 v2 = some b := tOf_intro laws_eqIntS.un (fun _ => by kernel_rfl) (loopAtL_step ((laws_eqIntS.k4 v0 v1 v2).trans ((by unfold laws_eqIntS.t4; repeat' first | exact Sub.ret | exact Sub.none | exact Sub.loop | apply Sub.cond | (apply Sub.bind; intro _) : Sub laws_eqIntS.mk _ _) b h)))
end GoV

/- Equations of the program's functions (printed by wip/tools/emit.py). -/
namespace GoV
open Go Go.Proofs
set_option maxRecDepth 100000

noncomputable def laws_eqPreparedS.q4 (v0 : List (Int × Int × List Int)) (v1 : List (Int × Int × List Int)) (v2 : Int) : Option R := loopAtL E (callT E tab) 66 Try.f66 2 [.r, .r, .l, .r, .b] (vc (.d .fro (.sl (.pair (.int .i64) (.pair (.int .i64) (.sl (.int .i64))))) v0) :: vc (.d .fro (.sl (.pair (.int .i64) (.pair (.int .i64) (.sl (.int .i64))))) v1) :: nn 3 (vc (iL v2) :: nn 21 ([])))
noncomputable def laws_eqPreparedS.l4 (v0 : List (Int × Int × List Int)) (v1 : List (Int × Int × List Int)) (v2 : Int) : Option (Bool) := tOf laws_eqPreparedS.mk (laws_eqPreparedS.q4 v0 v1 v2)
noncomputable def laws_eqPreparedS.t {γ : Type} (ret : (Bool) → Option γ) (lp4 : (List (Int × Int × List Int)) → (List (Int × Int × List Int)) → Int → Option γ) (v0 : List (Int × Int × List Int)) (v1 : List (Int × Int × List Int)) : Option γ :=
 bif (↑v0.length : Int) != (↑v1.length : Int) then
  ret (Bool.false)
 else
  lp4 (v0) (v1) ((0 : Int))
noncomputable def laws_eqPreparedS.t4 {γ : Type} (ret : (Bool) → Option γ) (lp4 : (List (Int × Int × List Int)) → (List (Int × Int × List Int)) → Int → Option γ) (v0 : List (Int × Int × List Int)) (v1 : List (Int × Int × List Int)) (v2 : Int) : Option γ :=
 bif decide (v2 < (↑v0.length : Int)) then
  bif decide ((0 : Int) ≤ v2) then
   bif decide (v2.toNat < v0.length) then
    bif decide ((0 : Int) ≤ v2) then
     bif decide (v2.toNat < v1.length) then
      (laws_eqPrepared ((v0.getD v2.toNat ((0 : Int), (0 : Int), [])).fst) ((v0.getD v2.toNat ((0 : Int), (0 : Int), [])).snd.fst) ((v0.getD v2.toNat ((0 : Int), (0 : Int), [])).snd.snd) ((v1.getD v2.toNat ((0 : Int), (0 : Int), [])).fst) ((v1.getD v2.toNat ((0 : Int), (0 : Int), [])).snd.fst) ((v1.getD v2.toNat ((0 : Int), (0 : Int), [])).snd.snd)).bind fun (r0 : Bool) =>
      bif !r0 then
       ret (Bool.false)
      else
       lp4 (v0) (v1) (IntKind.i64.wrap (v2 + (1 : Int)))
     else
      none
    else
     none
   else
    none
  else
   none
 else
  ret (Bool.true)
theorem laws_eqPreparedS.k (v0 : List (Int × Int × List Int)) (v1 : List (Int × Int × List Int)) : topL E (callT E tab) 66 Try.f66 (laws_eqPreparedS.c v0 v1) = laws_eqPreparedS.t (fun b => some (laws_eqPreparedS.mk b)) laws_eqPreparedS.q4 v0 v1 := by kernel_rfl
theorem laws_eqPreparedS.k4 (v0 : List (Int × Int × List Int)) (v1 : List (Int × Int × List Int)) (v2 : Int) : roundL E (callT E tab) 66 Try.f66 2 [.r, .r, .l, .r, .b] (vc (.d .fro (.sl (.pair (.int .i64) (.pair (.int .i64) (.sl (.int .i64))))) v0) :: vc (.d .fro (.sl (.pair (.int .i64) (.pair (.int .i64) (.sl (.int .i64))))) v1) :: nn 3 (vc (iL v2) :: nn 21 ([]))) = laws_eqPreparedS.t4 (fun b => some (laws_eqPreparedS.mk b)) laws_eqPreparedS.q4 v0 v1 v2 := by kernel_rfl
theorem laws_eqPreparedS.eq (v0 : List (Int × Int × List Int)) (v1 : List (Int × Int × List Int)) {b : Bool} (h : laws_eqPreparedS.t some laws_eqPreparedS.l4 v0 v1 = some b) : laws_eqPreparedS v0 v1 = some b := tOf_intro laws_eqPreparedS.un (fun _ => by kernel_rfl) (vlim_fn (callT_le E tab) rfl rfl rfl ((laws_eqPreparedS.k v0 v1).trans ((by unfold laws_eqPreparedS.t; repeat' first | exact Sub.ret | exact Sub.none | exact Sub.loop | apply Sub.cond | (apply Sub.bind; intro _) : Sub laws_eqPreparedS.mk _ _) b h)))
theorem laws_eqPreparedS.eq4 (v0 : List (Int × Int × List Int)) (v1 : List (Int × Int × List Int)) (v2 : Int) {b : Bool} (h : laws_eqPreparedS.t4 some laws_eqPreparedS.l4 v0 v1 v2 = some b) : laws_eqPreparedS.l4 v0 v1 v2 = some b := tOf_intro laws_eqPreparedS.un (fun _ => by kernel_rfl) (loopAtL_step ((laws_eqPreparedS.k4 v0 v1 v2).trans ((by unfold laws_eqPreparedS.t4; repeat' first | exact Sub.ret | exact Sub.none | exact Sub.loop | apply Sub.cond | (apply Sub.bind; intro _) : Sub laws_eqPreparedS.mk _ _) b h)))
noncomputable def laws_eqPrepared.t {γ : Type} (ret : (Bool) → Option γ) (v0 : Int) (v1 : Int) (v2 : List Int) (v3 : Int) (v4 : Int) (v5 : List Int) : Option γ :=
 bif v0 != v3 then
  ret (Bool.false)
 else
  bif v1 != v4 then
   ret (Bool.false)
  else
   (laws_eqIntS (v2) (v5)).bind fun (r0 : Bool) =>
   bif !r0 then
    ret (Bool.false)
   else
    ret (Bool.true)
theorem laws_eqPrepared.k (v0 : Int) (v1 : Int) (v2 : List Int) (v3 : Int) (v4 : Int) (v5 : List Int) : topL E (callT E tab) 100 Try.f100 (laws_eqPrepared.c v0 v1 v2 v3 v4 v5) = laws_eqPrepared.t (fun b => some (laws_eqPrepared.mk b)) v0 v1 v2 v3 v4 v5 := by kernel_rfl
theorem laws_eqPrepared.eq (v0 : Int) (v1 : Int) (v2 : List Int) (v3 : Int) (v4 : Int) (v5 : List Int) {b : Bool} (h : laws_eqPrepared.t some v0 v1 v2 v3 v4 v5 = some b) : laws_eqPrepared v0 v1 v2 v3 v4 v5 = some b := tOf_intro laws_eqPrepared.un (fun _ => by kernel_rfl) (vlim_fn (callT_le E tab) rfl rfl rfl ((laws_eqPrepared.k v0 v1 v2 v3 v4 v5).trans ((by unfold laws_eqPrepared.t; repeat' first | exact Sub.ret | exact Sub.none | exact Sub.loop | apply Sub.cond | (apply Sub.bind; intro _) : Sub laws_eqPrepared.mk _ _) b h)))
noncomputable def laws_eqBoolS.q4 (v0 : List Bool) (v1 : List Bool) (v2 : Int) : Option R := loopAtL E (callT E tab) 22 Try.f22 2 [.r, .r, .l, .r, .b] (vc (.d .fro (.sl .bool) v0) :: vc (.d .fro (.sl .bool) v1) :: nn 3 (vc (iL v2) :: nn 20 ([])))
noncomputable def laws_eqBoolS.l4 (v0 : List Bool) (v1 : List Bool) (v2 : Int) : Option (Bool) := tOf laws_eqBoolS.mk (laws_eqBoolS.q4 v0 v1 v2)
noncomputable def laws_eqBoolS.t {γ : Type} (ret : (Bool) → Option γ) (lp4 : (List Bool) → (List Bool) → Int → Option γ) (v0 : List Bool) (v1 : List Bool) : Option γ :=
 bif (↑v0.length : Int) != (↑v1.length : Int) then
  ret (Bool.false)
 else
  lp4 (v0) (v1) ((0 : Int))
noncomputable def laws_eqBoolS.t4 {γ : Type} (ret : (Bool) → Option γ) (lp4 : (List Bool) → (List Bool) → Int → Option γ) (v0 : List Bool) (v1 : List Bool) (v2 : Int) : Option γ :=
 bif decide (v2 < (↑v0.length : Int)) then
  bif decide ((0 : Int) ≤ v2) then
   bif decide (v2.toNat < v0.length) then
    bif decide ((0 : Int) ≤ v2) then
     bif decide (v2.toNat < v1.length) then
      bif !v0.getD v2.toNat Bool.false == v1.getD v2.toNat Bool.false then
       ret (Bool.false)
      else
       lp4 (v0) (v1) (IntKind.i64.wrap (v2 + (1 : Int)))
     else
      none
    else
     none
   else
    none
  else
   none
 else
  ret (Bool.true)
theorem laws_eqBoolS.k (v0 : List Bool) (v1 : List Bool) : topL E (callT E tab) 22 Try.f22 (laws_eqBoolS.c v0 v1) = laws_eqBoolS.t (fun b => some (laws_eqBoolS.mk b)) laws_eqBoolS.q4 v0 v1 := by kernel_rfl
theorem laws_eqBoolS.k4 (v0 : List Bool) (v1 : List Bool) (v2 : Int) : roundL E (callT E tab) 22 Try.f22 2 [.r, .r, .l, .r, .b] (vc (.d .fro (.sl .bool) v0) :: vc (.d .fro (.sl .bool) v1) :: nn 3 (vc (iL v2) :: nn 20 ([]))) = laws_eqBoolS.t4 (fun b => some (laws_eqBoolS.mk b)) laws_eqBoolS.q4 v0 v1 v2 := by kernel_rfl
theorem laws_eqBoolS.eq (v0 : List Bool) (v1 : List Bool) {b : Bool} (h : laws_eqBoolS.t some laws_eqBoolS.l4 v0 v1 = some b) : laws_eqBoolS v0 v1 = some b := tOf_intro laws_eqBoolS.un (fun _ => by kernel_rfl) (vlim_fn (callT_le E tab) rfl rfl rfl ((laws_eqBoolS.k v0 v1).trans ((by unfold laws_eqBoolS.t; repeat' first | exact Sub.ret | exact Sub.none | exact Sub.loop | apply Sub.cond | (apply Sub.bind; intro _) : Sub laws_eqBoolS.mk _ _) b h)))
theorem laws_eqBoolS.eq4 (v0 : List Bool) (v1 : List Bool) (v2 : Int) {b : Bool} (h : laws_eqBoolS.t4 some laws_eqBoolS.l4 v0 v1 v2 = some b) : laws_eqBoolS.l4 v0 v1 v2 = some b := tOf_intro laws_eqBoolS.un (fun _ => by kernel_rfl) (loopAtL_step ((laws_eqBoolS.k4 v0 v1 v2).trans ((by unfold laws_eqBoolS.t4; repeat' first | exact Sub.ret | exact Sub.none | exact Sub.loop | apply Sub.cond | (apply Sub.bind; intro _) : Sub laws_eqBoolS.mk _ _) b h)))
noncomputable def laws_markIntS_83f.q2 (v0 : List Int) (v1 : Int) (v2 : Int) : Option R := loopAtL E (callT E tab) 24 Try.f24 2 [.r, .l, .r, .b] (⟨(.val .one), [.d .deep (.sl (.int .i64)) v0], true, false, false, 0, 0⟩ :: vc (iL v1) :: nn 3 (vc (iL v2) :: nn 13 ([])))
noncomputable def laws_markIntS_83f.l2 (v0 : List Int) (v1 : Int) (v2 : Int) : Option (Int × (List Int)) := tOf laws_markIntS_83f.mk (laws_markIntS_83f.q2 v0 v1 v2)
noncomputable def laws_markIntS_83f.t {γ : Type} (ret : (Int × (List Int)) → Option γ) (lp2 : (List Int) → Int → Int → Option γ) (v0 : List Int) (v1 : Int) : Option γ :=
 lp2 (v0) (v1) ((0 : Int))
noncomputable def laws_markIntS_83f.t2 {γ : Type} (ret : (Int × (List Int)) → Option γ) (lp2 : (List Int) → Int → Int → Option γ) (v0 : List Int) (v1 : Int) (v2 : Int) : Option γ :=
 bif decide (v2 < (↑v0.length : Int)) then
  bif decide ((0 : Int) ≤ v2) then
   bif decide (v2.toNat < v0.length) then
    bif decide (v2.toNat < v0.length) then
     lp2 (v0.set v2.toNat v1) (IntKind.i64.wrap (v1 + (1 : Int))) (IntKind.i64.wrap (v2 + (1 : Int)))
    else
     none
   else
    none
  else
   none
 else
  ret (v1, v0)
theorem laws_markIntS_83f.k (v0 : List Int) (v1 : Int) : topL E (callT E tab) 24 Try.f24 (laws_markIntS_83f.c v0 v1) = laws_markIntS_83f.t (fun b => some (laws_markIntS_83f.mk b)) laws_markIntS_83f.q2 v0 v1 := by kernel_rfl
theorem laws_markIntS_83f.k2 (v0 : List Int) (v1 : Int) (v2 : Int) : roundL E (callT E tab) 24 Try.f24 2 [.r, .l, .r, .b] (⟨(.val .one), [.d .deep (.sl (.int .i64)) v0], true, false, false, 0, 0⟩ :: vc (iL v1) :: nn 3 (vc (iL v2) :: nn 13 ([]))) = laws_markIntS_83f.t2 (fun b => some (laws_markIntS_83f.mk b)) laws_markIntS_83f.q2 v0 v1 v2 := by kernel_rfl
theorem laws_markIntS_83f.eq (v0 : List Int) (v1 : Int) {b : Int × (List Int)} (h : laws_markIntS_83f.t some laws_markIntS_83f.l2 v0 v1 = some b) : laws_markIntS_83f v0 v1 = some b := tOf_intro laws_markIntS_83f.un (fun _ => by kernel_rfl) (vlim_fn (callT_le E tab) rfl rfl rfl ((laws_markIntS_83f.k v0 v1).trans ((by unfold laws_markIntS_83f.t; repeat' first | exact Sub.ret | exact Sub.none | exact Sub.loop | apply Sub.cond | (apply Sub.bind; intro _) : Sub laws_markIntS_83f.mk _ _) b h)))
theorem laws_markIntS_83f.eq2 (v0 : List Int) (v1 : Int) (v2 : Int) {b : Int × (List Int)} (h : laws_markIntS_83f.t2 some laws_markIntS_83f.l2 v0 v1 v2 = some b) : laws_markIntS_83f.l2 v0 v1 v2 = some b := tOf_intro laws_markIntS_83f.un (fun _ => by kernel_rfl) (loopAtL_step ((laws_markIntS_83f.k2 v0 v1 v2).trans ((by unfold laws_markIntS_83f.t2; repeat' first | exact Sub.ret | exact Sub.none | exact Sub.loop | apply Sub.cond | (apply Sub.bind; intro _) : Sub laws_markIntS_83f.mk _ _) b h)))
noncomputable def laws_markSink_3ad.t {γ : Type} (ret : (Int × (List Int) × Int × (List Int) × (List (Int × Int × List Int)) × (List Int) × Int × Int) → Option γ) (v0 : List Int) (v1 : Int) (v2 : List Int) (v3 : List (Int × Int × List Int)) (v4 : List Int) (v5 : Int) (v6 : Int) (v7 : Int) : Option γ :=
 (laws_markIntS_83f (v0) (v7)).bind fun (r0 : Int × (List Int)) =>
 (laws_markIntS_83f (v2) (r0.fst)).bind fun (r1 : Int × (List Int)) =>
 (xl00 (v3) (r1.fst)).bind fun (r2 : Int × (List (Int × Int × List Int))) =>
 (laws_markIntS_83f (v4) (r2.fst)).bind fun (r3 : Int × (List Int)) =>
 ret (r3.fst, r0.snd, v1, r1.snd, r2.snd, r3.snd, v5, v6)
theorem laws_markSink_3ad.k (v0 : List Int) (v1 : Int) (v2 : List Int) (v3 : List (Int × Int × List Int)) (v4 : List Int) (v5 : Int) (v6 : Int) (v7 : Int) : topL E (callT E tab) 25 Try.f25 (laws_markSink_3ad.c v0 v1 v2 v3 v4 v5 v6 v7) = laws_markSink_3ad.t (fun b => some (laws_markSink_3ad.mk b)) v0 v1 v2 v3 v4 v5 v6 v7 := by kernel_rfl
theorem laws_markSink_3ad.eq (v0 : List Int) (v1 : Int) (v2 : List Int) (v3 : List (Int × Int × List Int)) (v4 : List Int) (v5 : Int) (v6 : Int) (v7 : Int) {b : Int × (List Int) × Int × (List Int) × (List (Int × Int × List Int)) × (List Int) × Int × Int} (h : laws_markSink_3ad.t some v0 v1 v2 v3 v4 v5 v6 v7 = some b) : laws_markSink_3ad v0 v1 v2 v3 v4 v5 v6 v7 = some b := tOf_intro laws_markSink_3ad.un (fun _ => by kernel_rfl) (vlim_fn (callT_le E tab) rfl rfl rfl ((laws_markSink_3ad.k v0 v1 v2 v3 v4 v5 v6 v7).trans ((by unfold laws_markSink_3ad.t; repeat' first | exact Sub.ret | exact Sub.none | exact Sub.loop | apply Sub.cond | (apply Sub.bind; intro _) : Sub laws_markSink_3ad.mk _ _) b h)))
noncomputable def xl00.q2 (v0 : List (Int × Int × List Int)) (v1 : Int) (v2 : Int) : Option R := loopAtL E (callT E tab) 67 Try.f67 2 [.r, .l, .r, .b] (⟨(.val .one), [.d .deep (.sl (.pair (.int .i64) (.pair (.int .i64) (.sl (.int .i64))))) v0], true, false, false, 0, 0⟩ :: vc (iL v1) :: nn 3 (vc (iL v2) :: nn 28 ([])))
noncomputable def xl00.l2 (v0 : List (Int × Int × List Int)) (v1 : Int) (v2 : Int) : Option (Int × (List (Int × Int × List Int))) := tOf xl00.mk (xl00.q2 v0 v1 v2)
noncomputable def xl00.t {γ : Type} (ret : (Int × (List (Int × Int × List Int))) → Option γ) (lp2 : (List (Int × Int × List Int)) → Int → Int → Option γ) (v0 : List (Int × Int × List Int)) (v1 : Int) : Option γ :=
 lp2 (v0) (v1) ((0 : Int))
noncomputable def xl00.t2 {γ : Type} (ret : (Int × (List (Int × Int × List Int))) → Option γ) (lp2 : (List (Int × Int × List Int)) → Int → Int → Option γ) (v0 : List (Int × Int × List Int)) (v1 : Int) (v2 : Int) : Option γ :=
 bif decide (v2 < (↑v0.length : Int)) then
  bif decide ((0 : Int) ≤ v2) then
   bif decide (v2.toNat < v0.length) then
    bif decide (v2.toNat < v0.length) then
     bif decide ((0 : Int) ≤ v2) then
      bif decide (v2.toNat < (v0.set v2.toNat (v1, (v0.getD v2.toNat ((0 : Int), (0 : Int), [])).snd)).length) then
       bif decide (v2.toNat < (v0.set v2.toNat (v1, (v0.getD v2.toNat ((0 : Int), (0 : Int), [])).snd)).length) then
        bif decide ((0 : Int) ≤ v2) then
         bif decide   (v2.toNat <     ((v0.set v2.toNat (v1, (v0.getD v2.toNat ((0 : Int), (0 : Int), [])).snd)).set v2.toNat         (((v0.set v2.toNat (v1, (v0.getD v2.toNat ((0 : Int), (0 : Int), [])).snd)).getD v2.toNat               ((0 : Int), (0 : Int), [])).fst,           IntKind.i64.wrap (v1 + (1 : Int)),           ((v0.set v2.toNat (v1, (v0.getD v2.toNat ((0 : Int), (0 : Int), [])).snd)).getD v2.toNat                 ((0 : Int), (0 : Int), [])).snd.snd)).length) then
          bif decide   (v2.toNat <     ((v0.set v2.toNat (v1, (v0.getD v2.toNat ((0 : Int), (0 : Int), [])).snd)).set v2.toNat         (((v0.set v2.toNat (v1, (v0.getD v2.toNat ((0 : Int), (0 : Int), [])).snd)).getD v2.toNat               ((0 : Int), (0 : Int), [])).fst,           IntKind.i64.wrap (v1 + (1 : Int)),           ((v0.set v2.toNat (v1, (v0.getD v2.toNat ((0 : Int), (0 : Int), [])).snd)).getD v2.toNat                 ((0 : Int), (0 : Int), [])).snd.snd)).length) then
           bif decide   (v2.toNat <     ((v0.set v2.toNat (v1, (v0.getD v2.toNat ((0 : Int), (0 : Int), [])).snd)).set v2.toNat         (((v0.set v2.toNat (v1, (v0.getD v2.toNat ((0 : Int), (0 : Int), [])).snd)).getD v2.toNat               ((0 : Int), (0 : Int), [])).fst,           IntKind.i64.wrap (v1 + (1 : Int)),           ((v0.set v2.toNat (v1, (v0.getD v2.toNat ((0 : Int), (0 : Int), [])).snd)).getD v2.toNat                 ((0 : Int), (0 : Int), [])).snd.snd)).length) then
            (laws_markIntS_83f ((((v0.set v2.toNat (v1, (v0.getD v2.toNat ((0 : Int), (0 : Int), [])).snd)).set v2.toNat           (((v0.set v2.toNat (v1, (v0.getD v2.toNat ((0 : Int), (0 : Int), [])).snd)).getD v2.toNat                 ((0 : Int), (0 : Int), [])).fst,             IntKind.i64.wrap (v1 + (1 : Int)),             ((v0.set v2.toNat (v1, (v0.getD v2.toNat ((0 : Int), (0 : Int), [])).snd)).getD v2.toNat                   ((0 : Int), (0 : Int), [])).snd.snd)).getD       v2.toNat ((0 : Int), (0 : Int), [])).snd.snd) (IntKind.i64.wrap (IntKind.i64.wrap (v1 + (1 : Int)) + (1 : Int)))).bind fun (r0 : Int × (List Int)) =>
            bif decide (v2.toNat = v2.toNat) &&   (decide ((0 : Nat) + (2 : Nat) = (0 : Nat) + (2 : Nat)) &&     decide ((1 : Nat) + ((1 : Nat) + (1 : Nat)) = (1 : Nat) + ((1 : Nat) + (1 : Nat)))) then
             bif decide   (v2.toNat <     ((v0.set v2.toNat (v1, (v0.getD v2.toNat ((0 : Int), (0 : Int), [])).snd)).set v2.toNat         (((v0.set v2.toNat (v1, (v0.getD v2.toNat ((0 : Int), (0 : Int), [])).snd)).getD v2.toNat               ((0 : Int), (0 : Int), [])).fst,           IntKind.i64.wrap (v1 + (1 : Int)),           ((v0.set v2.toNat (v1, (v0.getD v2.toNat ((0 : Int), (0 : Int), [])).snd)).getD v2.toNat                 ((0 : Int), (0 : Int), [])).snd.snd)).length) then
              lp2 (((v0.set v2.toNat (v1, (v0.getD v2.toNat ((0 : Int), (0 : Int), [])).snd)).set v2.toNat       (((v0.set v2.toNat (v1, (v0.getD v2.toNat ((0 : Int), (0 : Int), [])).snd)).getD v2.toNat             ((0 : Int), (0 : Int), [])).fst,         IntKind.i64.wrap (v1 + (1 : Int)),         ((v0.set v2.toNat (v1, (v0.getD v2.toNat ((0 : Int), (0 : Int), [])).snd)).getD v2.toNat               ((0 : Int), (0 : Int), [])).snd.snd)).set   v2.toNat   ((((v0.set v2.toNat (v1, (v0.getD v2.toNat ((0 : Int), (0 : Int), [])).snd)).set v2.toNat             (((v0.set v2.toNat (v1, (v0.getD v2.toNat ((0 : Int), (0 : Int), [])).snd)).getD v2.toNat                   ((0 : Int), (0 : Int), [])).fst,               IntKind.i64.wrap (v1 + (1 : Int)),               ((v0.set v2.toNat (v1, (v0.getD v2.toNat ((0 : Int), (0 : Int), [])).snd)).getD v2.toNat                     ((0 : Int), (0 : Int), [])).snd.snd)).getD         v2.toNat ((0 : Int), (0 : Int), [])).fst,     (((v0.set v2.toNat (v1, (v0.getD v2.toNat ((0 : Int), (0 : Int), [])).snd)).set v2.toNat               (((v0.set v2.toNat (v1, (v0.getD v2.toNat ((0 : Int), (0 : Int), [])).snd)).getD v2.toNat                     ((0 : Int), (0 : Int), [])).fst,                 IntKind.i64.wrap (v1 + (1 : Int)),                 ((v0.set v2.toNat (v1, (v0.getD v2.toNat ((0 : Int), (0 : Int), [])).snd)).getD v2.toNat                       ((0 : Int), (0 : Int), [])).snd.snd)).getD           v2.toNat ((0 : Int), (0 : Int), [])).snd.fst,     r0.snd)) (r0.fst) (IntKind.i64.wrap (v2 + (1 : Int)))
             else
              none
            else
             none
           else
            none
          else
           none
         else
          none
        else
         none
       else
        none
      else
       none
     else
      none
    else
     none
   else
    none
  else
   none
 else
  ret (v1, v0)
theorem xl00.k (v0 : List (Int × Int × List Int)) (v1 : Int) : topL E (callT E tab) 67 Try.f67 (xl00.c v0 v1) = xl00.t (fun b => some (xl00.mk b)) xl00.q2 v0 v1 := by kernel_rfl
theorem xl00.k2 (v0 : List (Int × Int × List Int)) (v1 : Int) (v2 : Int) : roundL E (callT E tab) 67 Try.f67 2 [.r, .l, .r, .b] (⟨(.val .one), [.d .deep (.sl (.pair (.int .i64) (.pair (.int .i64) (.sl (.int .i64))))) v0], true, false, false, 0, 0⟩ :: vc (iL v1) :: nn 3 (vc (iL v2) :: nn 28 ([]))) = xl00.t2 (fun b => some (xl00.mk b)) xl00.q2 v0 v1 v2 := by kernel_rfl
theorem xl00.eq (v0 : List (Int × Int × List Int)) (v1 : Int) {b : Int × (List (Int × Int × List Int))} (h : xl00.t some xl00.l2 v0 v1 = some b) : xl00 v0 v1 = some b := tOf_intro xl00.un (fun _ => by kernel_rfl) (vlim_fn (callT_le E tab) rfl rfl rfl ((xl00.k v0 v1).trans ((by unfold xl00.t; repeat' first | exact Sub.ret | exact Sub.none | exact Sub.loop | apply Sub.cond | (apply Sub.bind; intro _) : Sub xl00.mk _ _) b h)))
theorem xl00.eq2 (v0 : List (Int × Int × List Int)) (v1 : Int) (v2 : Int) {b : Int × (List (Int × Int × List Int))} (h : xl00.t2 some xl00.l2 v0 v1 v2 = some b) : xl00.l2 v0 v1 v2 = some b := tOf_intro xl00.un (fun _ => by kernel_rfl) (loopAtL_step ((xl00.k2 v0 v1 v2).trans ((by unfold xl00.t2; repeat' first | exact Sub.ret | exact Sub.none | exact Sub.loop | apply Sub.cond | (apply Sub.bind; intro _) : Sub xl00.mk _ _) b h)))
noncomputable def laws_markBoolS_0b1.q2 (v0 : List Bool) (v1 : Int) (v2 : Int) : Option R := loopAtL E (callT E tab) 26 Try.f26 2 [.r, .l, .r, .b] (⟨(.val .one), [.d .deep (.sl .bool) v0], true, false, false, 0, 0⟩ :: vc (iL v1) :: nn 3 (vc (iL v2) :: nn 15 ([])))
noncomputable def laws_markBoolS_0b1.l2 (v0 : List Bool) (v1 : Int) (v2 : Int) : Option (Int × (List Bool)) := tOf laws_markBoolS_0b1.mk (laws_markBoolS_0b1.q2 v0 v1 v2)
noncomputable def laws_markBoolS_0b1.t {γ : Type} (ret : (Int × (List Bool)) → Option γ) (lp2 : (List Bool) → Int → Int → Option γ) (v0 : List Bool) (v1 : Int) : Option γ :=
 lp2 (v0) (v1) ((0 : Int))
noncomputable def laws_markBoolS_0b1.t2 {γ : Type} (ret : (Int × (List Bool)) → Option γ) (lp2 : (List Bool) → Int → Int → Option γ) (v0 : List Bool) (v1 : Int) (v2 : Int) : Option γ :=
 bif decide (v2 < (↑v0.length : Int)) then
  bif decide ((0 : Int) ≤ v2) then
   bif decide (v2.toNat < v0.length) then
    bif decide (v2.toNat < v0.length) then
     lp2 (v0.set v2.toNat (v1.tmod (3 : Int) == (0 : Int))) (IntKind.i64.wrap (v1 + (1 : Int))) (IntKind.i64.wrap (v2 + (1 : Int)))
    else
     none
   else
    none
  else
   none
 else
  ret (v1, v0)
theorem laws_markBoolS_0b1.k (v0 : List Bool) (v1 : Int) : topL E (callT E tab) 26 Try.f26 (laws_markBoolS_0b1.c v0 v1) = laws_markBoolS_0b1.t (fun b => some (laws_markBoolS_0b1.mk b)) laws_markBoolS_0b1.q2 v0 v1 := by kernel_rfl
theorem laws_markBoolS_0b1.k2 (v0 : List Bool) (v1 : Int) (v2 : Int) : roundL E (callT E tab) 26 Try.f26 2 [.r, .l, .r, .b] (⟨(.val .one), [.d .deep (.sl .bool) v0], true, false, false, 0, 0⟩ :: vc (iL v1) :: nn 3 (vc (iL v2) :: nn 15 ([]))) = laws_markBoolS_0b1.t2 (fun b => some (laws_markBoolS_0b1.mk b)) laws_markBoolS_0b1.q2 v0 v1 v2 := by kernel_rfl
theorem laws_markBoolS_0b1.eq (v0 : List Bool) (v1 : Int) {b : Int × (List Bool)} (h : laws_markBoolS_0b1.t some laws_markBoolS_0b1.l2 v0 v1 = some b) : laws_markBoolS_0b1 v0 v1 = some b := tOf_intro laws_markBoolS_0b1.un (fun _ => by kernel_rfl) (vlim_fn (callT_le E tab) rfl rfl rfl ((laws_markBoolS_0b1.k v0 v1).trans ((by unfold laws_markBoolS_0b1.t; repeat' first | exact Sub.ret | exact Sub.none | exact Sub.loop | apply Sub.cond | (apply Sub.bind; intro _) : Sub laws_markBoolS_0b1.mk _ _) b h)))
theorem laws_markBoolS_0b1.eq2 (v0 : List Bool) (v1 : Int) (v2 : Int) {b : Int × (List Bool)} (h : laws_markBoolS_0b1.t2 some laws_markBoolS_0b1.l2 v0 v1 v2 = some b) : laws_markBoolS_0b1.l2 v0 v1 v2 = some b := tOf_intro laws_markBoolS_0b1.un (fun _ => by kernel_rfl) (loopAtL_step ((laws_markBoolS_0b1.k2 v0 v1 v2).trans ((by unfold laws_markBoolS_0b1.t2; repeat' first | exact Sub.ret | exact Sub.none | exact Sub.loop | apply Sub.cond | (apply Sub.bind; intro _) : Sub laws_markBoolS_0b1.mk _ _) b h)))
noncomputable def laws_heldSink.t {γ : Type} (ret : (Int) → Option γ) (v0 : List Int) (v1 : Int) (v2 : List Int) (v3 : List (Int × Int × List Int)) (v4 : List Int) (v5 : Int) (v6 : Int) (v7 : Int) : Option γ :=
 (laws_heldIntS (v0) (v7)).bind fun (r0 : Int) =>
 bif decide (r0 < (0 : Int)) then
  ret ((-1 : Int))
 else
  (laws_heldIntS (v2) (r0)).bind fun (r1 : Int) =>
  bif decide (r1 < (0 : Int)) then
   ret ((-1 : Int))
  else
   (laws_heldPreparedS (v3) (r1)).bind fun (r2 : Int) =>
   bif decide (r2 < (0 : Int)) then
    ret ((-1 : Int))
   else
    (laws_heldIntS (v4) (r2)).bind fun (r3 : Int) =>
    bif decide (r3 < (0 : Int)) then
     ret ((-1 : Int))
    else
     ret (r3)
theorem laws_heldSink.k (v0 : List Int) (v1 : Int) (v2 : List Int) (v3 : List (Int × Int × List Int)) (v4 : List Int) (v5 : Int) (v6 : Int) (v7 : Int) : topL E (callT E tab) 27 Try.f27 (laws_heldSink.c v0 v1 v2 v3 v4 v5 v6 v7) = laws_heldSink.t (fun b => some (laws_heldSink.mk b)) v0 v1 v2 v3 v4 v5 v6 v7 := by kernel_rfl
theorem laws_heldSink.eq (v0 : List Int) (v1 : Int) (v2 : List Int) (v3 : List (Int × Int × List Int)) (v4 : List Int) (v5 : Int) (v6 : Int) (v7 : Int) {b : Int} (h : laws_heldSink.t some v0 v1 v2 v3 v4 v5 v6 v7 = some b) : laws_heldSink v0 v1 v2 v3 v4 v5 v6 v7 = some b := tOf_intro laws_heldSink.un (fun _ => by kernel_rfl) (vlim_fn (callT_le E tab) rfl rfl rfl ((laws_heldSink.k v0 v1 v2 v3 v4 v5 v6 v7).trans ((by unfold laws_heldSink.t; repeat' first | exact Sub.ret | exact Sub.none | exact Sub.loop | apply Sub.cond | (apply Sub.bind; intro _) : Sub laws_heldSink.mk _ _) b h)))
noncomputable def laws_heldIntS.q2 (v0 : List Int) (v1 : Int) (v2 : Int) : Option R := loopAtL E (callT E tab) 68 Try.f68 2 [.r, .l, .r, .b] (vc (.d .fro (.sl (.int .i64)) v0) :: vc (iL v1) :: nn 3 (vc (iL v2) :: nn 15 ([])))
noncomputable def laws_heldIntS.l2 (v0 : List Int) (v1 : Int) (v2 : Int) : Option (Int) := tOf laws_heldIntS.mk (laws_heldIntS.q2 v0 v1 v2)
noncomputable def laws_heldIntS.t {γ : Type} (ret : (Int) → Option γ) (lp2 : (List Int) → Int → Int → Option γ) (v0 : List Int) (v1 : Int) : Option γ :=
 lp2 (v0) (v1) ((0 : Int))
noncomputable def laws_heldIntS.t2 {γ : Type} (ret : (Int) → Option γ) (lp2 : (List Int) → Int → Int → Option γ) (v0 : List Int) (v1 : Int) (v2 : Int) : Option γ :=
 bif decide (v2 < (↑v0.length : Int)) then
  bif decide ((0 : Int) ≤ v2) then
   bif decide (v2.toNat < v0.length) then
    bif v0.getD v2.toNat (0 : Int) != v1 then
     ret ((-1 : Int))
    else
     lp2 (v0) (IntKind.i64.wrap (v1 + (1 : Int))) (IntKind.i64.wrap (v2 + (1 : Int)))
   else
    none
  else
   none
 else
  ret (v1)
theorem laws_heldIntS.k (v0 : List Int) (v1 : Int) : topL E (callT E tab) 68 Try.f68 (laws_heldIntS.c v0 v1) = laws_heldIntS.t (fun b => some (laws_heldIntS.mk b)) laws_heldIntS.q2 v0 v1 := by kernel_rfl
theorem laws_heldIntS.k2 (v0 : List Int) (v1 : Int) (v2 : Int) : roundL E (callT E tab) 68 Try.f68 2 [.r, .l, .r, .b] (vc (.d .fro (.sl (.int .i64)) v0) :: vc (iL v1) :: nn 3 (vc (iL v2) :: nn 15 ([]))) = laws_heldIntS.t2 (fun b => some (laws_heldIntS.mk b)) laws_heldIntS.q2 v0 v1 v2 := by kernel_rfl
theorem laws_heldIntS.eq (v0 : List Int) (v1 : Int) {b : Int} (h : laws_heldIntS.t some laws_heldIntS.l2 v0 v1 = some b) : laws_heldIntS v0 v1 = some b := tOf_intro laws_heldIntS.un (fun _ => by kernel_rfl) (vlim_fn (callT_le E tab) rfl rfl rfl ((laws_heldIntS.k v0 v1).trans ((by unfold laws_heldIntS.t; repeat' first | exact Sub.ret | exact Sub.none | exact Sub.loop | apply Sub.cond | (apply Sub.bind; intro _) : Sub laws_heldIntS.mk _ _) b h)))
theorem laws_heldIntS.eq2 (v0 : List Int) (v1 : Int) (v2 : Int) {b : Int} (h : laws_heldIntS.t2 some laws_heldIntS.l2 v0 v1 v2 = some b) : laws_heldIntS.l2 v0 v1 v2 = some b := tOf_intro laws_heldIntS.un (fun _ => by kernel_rfl) (loopAtL_step ((laws_heldIntS.k2 v0 v1 v2).trans ((by unfold laws_heldIntS.t2; repeat' first | exact Sub.ret | exact Sub.none | exact Sub.loop | apply Sub.cond | (apply Sub.bind; intro _) : Sub laws_heldIntS.mk _ _) b h)))
noncomputable def laws_heldPreparedS.q2 (v0 : List (Int × Int × List Int)) (v1 : Int) (v2 : Int) : Option R := loopAtL E (callT E tab) 69 Try.f69 2 [.r, .l, .r, .b] (vc (.d .fro (.sl (.pair (.int .i64) (.pair (.int .i64) (.sl (.int .i64))))) v0) :: vc (iL v1) :: nn 3 (vc (iL v2) :: nn 34 ([])))
noncomputable def laws_heldPreparedS.l2 (v0 : List (Int × Int × List Int)) (v1 : Int) (v2 : Int) : Option (Int) := tOf laws_heldPreparedS.mk (laws_heldPreparedS.q2 v0 v1 v2)
noncomputable def laws_heldPreparedS.t {γ : Type} (ret : (Int) → Option γ) (lp2 : (List (Int × Int × List Int)) → Int → Int → Option γ) (v0 : List (Int × Int × List Int)) (v1 : Int) : Option γ :=
 lp2 (v0) (v1) ((0 : Int))
noncomputable def laws_heldPreparedS.t2 {γ : Type} (ret : (Int) → Option γ) (lp2 : (List (Int × Int × List Int)) → Int → Int → Option γ) (v0 : List (Int × Int × List Int)) (v1 : Int) (v2 : Int) : Option γ :=
 bif decide (v2 < (↑v0.length : Int)) then
  bif decide ((0 : Int) ≤ v2) then
   bif decide (v2.toNat < v0.length) then
    bif (v0.getD v2.toNat ((0 : Int), (0 : Int), [])).fst != v1 then
     ret ((-1 : Int))
    else
     bif decide ((0 : Int) ≤ v2) then
      bif decide (v2.toNat < v0.length) then
       bif (v0.getD v2.toNat ((0 : Int), (0 : Int), [])).snd.fst != IntKind.i64.wrap (v1 + (1 : Int)) then
        ret ((-1 : Int))
       else
        bif decide ((0 : Int) ≤ v2) then
         bif decide (v2.toNat < v0.length) then
          (laws_heldIntS ((v0.getD v2.toNat ((0 : Int), (0 : Int), [])).snd.snd) (IntKind.i64.wrap (IntKind.i64.wrap (v1 + (1 : Int)) + (1 : Int)))).bind fun (r0 : Int) =>
          bif decide (r0 < (0 : Int)) then
           ret ((-1 : Int))
          else
           lp2 (v0) (r0) (IntKind.i64.wrap (v2 + (1 : Int)))
         else
          none
        else
         none
      else
       none
     else
      none
   else
    none
  else
   none
 else
  ret (v1)
theorem laws_heldPreparedS.k (v0 : List (Int × Int × List Int)) (v1 : Int) : topL E (callT E tab) 69 Try.f69 (laws_heldPreparedS.c v0 v1) = laws_heldPreparedS.t (fun b => some (laws_heldPreparedS.mk b)) laws_heldPreparedS.q2 v0 v1 := by kernel_rfl
theorem laws_heldPreparedS.k2 (v0 : List (Int × Int × List Int)) (v1 : Int) (v2 : Int) : roundL E (callT E tab) 69 Try.f69 2 [.r, .l, .r, .b] (vc (.d .fro (.sl (.pair (.int .i64) (.pair (.int .i64) (.sl (.int .i64))))) v0) :: vc (iL v1) :: nn 3 (vc (iL v2) :: nn 34 ([]))) = laws_heldPreparedS.t2 (fun b => some (laws_heldPreparedS.mk b)) laws_heldPreparedS.q2 v0 v1 v2 := by kernel_rfl
theorem laws_heldPreparedS.eq (v0 : List (Int × Int × List Int)) (v1 : Int) {b : Int} (h : laws_heldPreparedS.t some laws_heldPreparedS.l2 v0 v1 = some b) : laws_heldPreparedS v0 v1 = some b := tOf_intro laws_heldPreparedS.un (fun _ => by kernel_rfl) (vlim_fn (callT_le E tab) rfl rfl rfl ((laws_heldPreparedS.k v0 v1).trans ((by unfold laws_heldPreparedS.t; repeat' first | exact Sub.ret | exact Sub.none | exact Sub.loop | apply Sub.cond | (apply Sub.bind; intro _) : Sub laws_heldPreparedS.mk _ _) b h)))
theorem laws_heldPreparedS.eq2 (v0 : List (Int × Int × List Int)) (v1 : Int) (v2 : Int) {b : Int} (h : laws_heldPreparedS.t2 some laws_heldPreparedS.l2 v0 v1 v2 = some b) : laws_heldPreparedS.l2 v0 v1 v2 = some b := tOf_intro laws_heldPreparedS.un (fun _ => by kernel_rfl) (loopAtL_step ((laws_heldPreparedS.k2 v0 v1 v2).trans ((by unfold laws_heldPreparedS.t2; repeat' first | exact Sub.ret | exact Sub.none | exact Sub.loop | apply Sub.cond | (apply Sub.bind; intro _) : Sub laws_heldPreparedS.mk _ _) b h)))
noncomputable def laws_heldBoolS.q2 (v0 : List Bool) (v1 : Int) (v2 : Int) : Option R := loopAtL E (callT E tab) 28 Try.f28 2 [.r, .l, .r, .b] (vc (.d .fro (.sl .bool) v0) :: vc (iL v1) :: nn 3 (vc (iL v2) :: nn 17 ([])))
noncomputable def laws_heldBoolS.l2 (v0 : List Bool) (v1 : Int) (v2 : Int) : Option (Int) := tOf laws_heldBoolS.mk (laws_heldBoolS.q2 v0 v1 v2)
noncomputable def laws_heldBoolS.t {γ : Type} (ret : (Int) → Option γ) (lp2 : (List Bool) → Int → Int → Option γ) (v0 : List Bool) (v1 : Int) : Option γ :=
 lp2 (v0) (v1) ((0 : Int))
noncomputable def laws_heldBoolS.t2 {γ : Type} (ret : (Int) → Option γ) (lp2 : (List Bool) → Int → Int → Option γ) (v0 : List Bool) (v1 : Int) (v2 : Int) : Option γ :=
 bif decide (v2 < (↑v0.length : Int)) then
  bif decide ((0 : Int) ≤ v2) then
   bif decide (v2.toNat < v0.length) then
    bif !v0.getD v2.toNat Bool.false == (v1.tmod (3 : Int) == (0 : Int)) then
     ret ((-1 : Int))
    else
     lp2 (v0) (IntKind.i64.wrap (v1 + (1 : Int))) (IntKind.i64.wrap (v2 + (1 : Int)))
   else
    none
  else
   none
 else
  ret (v1)
theorem laws_heldBoolS.k (v0 : List Bool) (v1 : Int) : topL E (callT E tab) 28 Try.f28 (laws_heldBoolS.c v0 v1) = laws_heldBoolS.t (fun b => some (laws_heldBoolS.mk b)) laws_heldBoolS.q2 v0 v1 := by kernel_rfl
theorem laws_heldBoolS.k2 (v0 : List Bool) (v1 : Int) (v2 : Int) : roundL E (callT E tab) 28 Try.f28 2 [.r, .l, .r, .b] (vc (.d .fro (.sl .bool) v0) :: vc (iL v1) :: nn 3 (vc (iL v2) :: nn 17 ([]))) = laws_heldBoolS.t2 (fun b => some (laws_heldBoolS.mk b)) laws_heldBoolS.q2 v0 v1 v2 := by kernel_rfl
theorem laws_heldBoolS.eq (v0 : List Bool) (v1 : Int) {b : Int} (h : laws_heldBoolS.t some laws_heldBoolS.l2 v0 v1 = some b) : laws_heldBoolS v0 v1 = some b := tOf_intro laws_heldBoolS.un (fun _ => by kernel_rfl) (vlim_fn (callT_le E tab) rfl rfl rfl ((laws_heldBoolS.k v0 v1).trans ((by unfold laws_heldBoolS.t; repeat' first | exact Sub.ret | exact Sub.none | exact Sub.loop | apply Sub.cond | (apply Sub.bind; intro _) : Sub laws_heldBoolS.mk _ _) b h)))
theorem laws_heldBoolS.eq2 (v0 : List Bool) (v1 : Int) (v2 : Int) {b : Int} (h : laws_heldBoolS.t2 some laws_heldBoolS.l2 v0 v1 v2 = some b) : laws_heldBoolS.l2 v0 v1 v2 = some b := tOf_intro laws_heldBoolS.un (fun _ => by kernel_rfl) (loopAtL_step ((laws_heldBoolS.k2 v0 v1 v2).trans ((by unfold laws_heldBoolS.t2; repeat' first | exact Sub.ret | exact Sub.none | exact Sub.loop | apply Sub.cond | (apply Sub.bind; intro _) : Sub laws_heldBoolS.mk _ _) b h)))
end GoV
