/- A part of the proof of FnExactPlaySnap: an interpreter of the model over plain data, its soundness, and what it makes of the functions that the statement reaches. Conditions: none beyond what the given statement itself says. -/
import Derived.Test.YtbimgkhikmmhoaaTJ
set_option linter.unusedVariables false
set_option linter.unusedSimpArgs false
set_option linter.unnecessarySimpa false
set_option linter.unusedSectionVars false
/- The functions of the program, each told by what it answers in the end (printed by wip/tools/emit.py). -/
/-! Names of functions here: xs00 = slices_ContainsFunc_int_int_impl_areAll_int_1_impl_Wire_isWire_1, xs01 = slices_ContainsFunc_int_int_impl_areAll_int_1_impl_isAmountWord, xs02 = slices_IndexFunc_int_int_impl_areAll_int_1_impl_Wire_isWire_1, xs03 = slices_IndexFunc_int_int_impl_areAll_int_1_impl_isAmountWord, xi04 = impl_areAll_int_1_impl_Wire_isWire_1, xi05 = impl_areAll_int_1_impl_isAmountWord, xi06 = impl_areAll_int_impl_Wire_isWire_1, xi07 = impl_areAll_int_impl_isAmountWord, xs08 = slices_Clone_impl_Proc_impl_Proc, xl09 = laws_markSnapStepS_f4e, xl0a = laws_FnExactPlaySnap, xs0b = slices_Clone_int_int, xi0c = impl_Snap_save_f06, xi0d = impl_Snap_send_c40, xi0e = impl_Snap_step_c40, xi0f = impl_Snap_take_f06, xi0g = impl_Wire_isWire_1, xl0h = laws_markBoolS_0b1, xl0i = laws_markProcS_c1d, xl0j = laws_markWireS_ac8, xi0k = impl_Snap_stepped, xi0l = impl_isAmountWord, xl0m = laws_markIntS_83f, xl0n = laws_markSnap_1a6, xi0o = impl_Wire_isNone, xi0p = impl_Wire_isWire, xl0q = laws_eqSnapStepS, xl0r = laws_szSnapStepS, xl0s = laws_toSnapStepS, xs0t = spec_l15Save_6da, xs0u = spec_l15Step_967, xl0v = laws_eqSnapStep, xl0w = laws_toSnapStep, xl0x = laws_heldBoolS, xl0y = laws_heldProcS, xl0z = laws_heldWireS, xs10 = spec_l15Amount, xi11 = impl_GoodSnap, xi12 = impl_PlaySnap, xi13 = impl_Snap_own, xl14 = laws_heldIntS, xl15 = laws_heldSnap, xs16 = spec_GoodSnap, xs17 = spec_PlaySnap, xs18 = spec_StepSnap, xi19 = impl_NewSnap, xi1a = impl_newSnap, xl1b = laws_eqBoolS, xl1c = laws_eqProcS, xl1d = laws_eqWireS, xs1e = spec_NewSnap, xi1f = impl_within, xl1g = laws_eqIntS, xl1h = laws_eqProc, xl1i = laws_eqSnap, xl1j = laws_eqWire, xl1k = laws_toIntS, xs1l = spec_l15Own, xi1m = impl_sumOf, xs1n = spec_l1In -/
namespace GoV
abbrev Ya:Ty:=.sl (.pair (.int .i64) (.pair (.int .i64) (.pair (.int .i64) (.int .i64))))
abbrev Yb:Ty:=.sl (.pair (.sl (.int .i64)) (.pair (.sl (.int .i64)) .bool))
abbrev Yc:Ty:=.sl (.pair (.int .i64) (.pair (.int .i64) .bool))
open Go Go.Proofs
set_option maxRecDepth 100000
noncomputable section

def xl0a.c (v0:List Int) (v1:List (Int × Int × Int × Int)):List Cell:=vc (.d .fro (.sl (.int .i64)) v0)::vc (.d .fro Ya v1)::[]
def xl0a.mk (b:Bool):R:=(⟨.one,[bL b]⟩,nn 2 ([]))
def xl0a.un (r:R):Bool:=((leafR r 0).dat .bool)
def xl0a (v0:List Int) (v1:List (Int × Int × Int × Int)):Option (Bool):=tOf xl0a.mk (vlim E 5 (xl0a.c v0 v1))
def xl0r.c (v0:List (Int × Int × Int × Int)) (v1:Int):List Cell:=vc (.d .fro Ya v0)::vc (iL v1)::[]
def xl0r.mk (b:Int):R:=(⟨.one,[iL b]⟩,nn 2 ([]))
def xl0r.un (r:R):Int:=((leafR r 0).dat (.int .i64))
def xl0r (v0:List (Int × Int × Int × Int)) (v1:Int):Option (Int):=tOf xl0r.mk (vlim E 18 (xl0r.c v0 v1))
def xl1k.c (v0:List Int):List Cell:=vc (.d .fro (.sl (.int .i64)) v0)::[]
def xl1k.mk (b:(List Int)):R:=(⟨.one,[.d .deep (.sl (.int .i64)) b]⟩,nn 1 ([]))
def xl1k.un (r:R):(List Int):=((leafR r 0).dat (.sl (.int .i64)))
def xl1k (v0:List Int):Option ((List Int)):=tOf xl1k.mk (vlim E 20 (xl1k.c v0))
def xl0s.c (v0:List (Int × Int × Int × Int)):List Cell:=vc (.d .fro Ya v0)::[]
def xl0s.mk (b:(List (Int × Int × Int × Int))):R:=(⟨.one,[.d .deep Ya b]⟩,nn 1 ([]))
def xl0s.un (r:R):(List (Int × Int × Int × Int)):=((leafR r 0).dat Ya)
def xl0s (v0:List (Int × Int × Int × Int)):Option ((List (Int × Int × Int × Int))):=tOf xl0s.mk (vlim E 21 (xl0s.c v0))
def xl0w.c (v0:Int) (v1:Int) (v2:Int) (v3:Int):List Cell:=ac [iL v0,iL v1,iL v2,iL v3]::[]
def xl0w.mk (b:Int × Int × Int × Int):R:=(⟨.agg,[iL b.1,iL b.2.1,iL b.2.2.1,iL b.2.2.2]⟩,nn 1 ([]))
def xl0w.un (r:R):Int × Int × Int × Int:=((leafR r 0).dat (.int .i64),(leafR r 1).dat (.int .i64),(leafR r 2).dat (.int .i64),(leafR r 3).dat (.int .i64))
def xl0w (v0:Int) (v1:Int) (v2:Int) (v3:Int):Option (Int × Int × Int × Int):=tOf xl0w.mk (vlim E 11 (xl0w.c v0 v1 v2 v3))
def xs17.c (v0:List Int) (v1:List (Int × Int × Int × Int)):List Cell:=vc (.d .fro (.sl (.int .i64)) v0)::vc (.d .fro Ya v1)::[]
def xs17.mk (b:(List (Int × Int × Bool)) × (List (List Int × List Int × Bool)) × (List Bool) × Bool):R:=(⟨(.tup [some 2,none,none]),[.d .deep Yc b.1,.d .deep Yb b.2.1,.d .deep (.sl .bool) b.2.2.1,bL b.2.2.2]⟩,nn 2 ([]))
def xs17.un (r:R):(List (Int × Int × Bool)) × (List (List Int × List Int × Bool)) × (List Bool) × Bool:=((leafR r 0).dat Yc,(leafR r 1).dat Yb,(leafR r 2).dat (.sl .bool),(leafR r 3).dat .bool)
def xs17 (v0:List Int) (v1:List (Int × Int × Int × Int)):Option ((List (Int × Int × Bool)) × (List (List Int × List Int × Bool)) × (List Bool) × Bool):=tOf xs17.mk (vlim E 19 (xs17.c v0 v1))
def xs1e.c (v0:List Int):List Cell:=vc (.d .fro (.sl (.int .i64)) v0)::[]
def xs1e.mk (b:(List (Int × Int × Bool)) × (List (List Int × List Int × Bool)) × Bool):R:=(⟨(.tup [some 2,none]),[.d .deep Yc b.1,.d .deep Yb b.2.1,bL b.2.2]⟩,nn 1 ([]))
def xs1e.un (r:R):(List (Int × Int × Bool)) × (List (List Int × List Int × Bool)) × Bool:=((leafR r 0).dat Yc,(leafR r 1).dat Yb,(leafR r 2).dat .bool)
def xs1e (v0:List Int):Option ((List (Int × Int × Bool)) × (List (List Int × List Int × Bool)) × Bool):=tOf xs1e.mk (vlim E 61 (xs1e.c v0))
def xs16.c (v0:List (Int × Int × Bool)) (v1:List (List Int × List Int × Bool)):List Cell:=ac [.d .fro Yc v0,.d .fro Yb v1]::[]
def xs16.mk (b:Bool):R:=(⟨.one,[bL b]⟩,nn 1 ([]))
def xs16.un (r:R):Bool:=((leafR r 0).dat .bool)
def xs16 (v0:List (Int × Int × Bool)) (v1:List (List Int × List Int × Bool)):Option (Bool):=tOf xs16.mk (vlim E 43 (xs16.c v0 v1))
def xs1n.c (v0:Int) (v1:Int) (v2:Int):List Cell:=vc (iL v0)::vc (iL v1)::vc (iL v2)::[]
def xs1n.mk (b:Bool):R:=(⟨.one,[bL b]⟩,nn 3 ([]))
def xs1n.un (r:R):Bool:=((leafR r 0).dat .bool)
def xs1n (v0:Int) (v1:Int) (v2:Int):Option (Bool):=tOf xs1n.mk (vlim E 76 (xs1n.c v0 v1 v2))
def xs10.c (v0:Int):List Cell:=vc (iL v0)::[]
def xs10.mk (b:Bool):R:=(⟨.one,[bL b]⟩,nn 1 ([]))
def xs10.un (r:R):Bool:=((leafR r 0).dat .bool)
def xs10 (v0:Int):Option (Bool):=tOf xs10.mk (vlim E 77 (xs10.c v0))
def xs18.c (v0:List (Int × Int × Bool)) (v1:List (List Int × List Int × Bool)) (v2:Int) (v3:Int) (v4:Int) (v5:Int):List Cell:=ac [.d .fro Yc v0,.d .fro Yb v1]::ac [iL v2,iL v3,iL v4,iL v5]::[]
def xs18.mk (b:(List (Int × Int × Bool)) × (List (List Int × List Int × Bool)) × Bool):R:=(⟨(.tup [some 2,none]),[.d .deep Yc b.1,.d .deep Yb b.2.1,bL b.2.2]⟩,nn 2 ([]))
def xs18.un (r:R):(List (Int × Int × Bool)) × (List (List Int × List Int × Bool)) × Bool:=((leafR r 0).dat Yc,(leafR r 1).dat Yb,(leafR r 2).dat .bool)
def xs18 (v0:List (Int × Int × Bool)) (v1:List (List Int × List Int × Bool)) (v2:Int) (v3:Int) (v4:Int) (v5:Int):Option ((List (Int × Int × Bool)) × (List (List Int × List Int × Bool)) × Bool):=tOf xs18.mk (vlim E 9 (xs18.c v0 v1 v2 v3 v4 v5))
def xs1l.c (v0:List (Int × Int × Bool)) (v1:List (List Int × List Int × Bool)):List Cell:=ac [.d .fro Yc v0,.d .fro Yb v1]::[]
def xs1l.mk (b:(List (Int × Int × Bool)) × (List (List Int × List Int × Bool))):R:=(⟨.agg,[.d .deep Yc b.1,.d .deep Yb b.2]⟩,nn 1 ([]))
def xs1l.un (r:R):(List (Int × Int × Bool)) × (List (List Int × List Int × Bool)):=((leafR r 0).dat Yc,(leafR r 1).dat Yb)
def xs1l (v0:List (Int × Int × Bool)) (v1:List (List Int × List Int × Bool)):Option ((List (Int × Int × Bool)) × (List (List Int × List Int × Bool))):=tOf xs1l.mk (vlim E 45 (xs1l.c v0 v1))
def xs0u.c (v0:List (Int × Int × Bool)) (v1:List (List Int × List Int × Bool)) (v2:Int) (v3:Int) (v4:Int) (v5:Int):List Cell:=ac [.d .deep Yc v0,.d .deep Yb v1]::ac [iL v2,iL v3,iL v4,iL v5]::[]
def xs0u.mk (b:(List (Int × Int × Bool)) × (List (List Int × List Int × Bool)) × Bool):R:=(⟨(.tup [some 2,none]),[.d .deep Yc b.1,.d .deep Yb b.2.1,bL b.2.2]⟩,nn 2 ([]))
def xs0u.un (r:R):(List (Int × Int × Bool)) × (List (List Int × List Int × Bool)) × Bool:=((leafR r 0).dat Yc,(leafR r 1).dat Yb,(leafR r 2).dat .bool)
def xs0u (v0:List (Int × Int × Bool)) (v1:List (List Int × List Int × Bool)) (v2:Int) (v3:Int) (v4:Int) (v5:Int):Option ((List (Int × Int × Bool)) × (List (List Int × List Int × Bool)) × Bool):=tOf xs0u.mk (vlim E 44 (xs0u.c v0 v1 v2 v3 v4 v5))
def xs0t.c (v0:List (Int × Int × Bool)) (v1:List (List Int × List Int × Bool)) (v2:Int) (v3:Int):List Cell:=ac [.d .deep Yc v0,.d .deep Yb v1]::vc (iL v2)::vc (iL v3)::[]
def xs0t.mk (b:(List (Int × Int × Bool)) × (List (List Int × List Int × Bool)) × Bool):R:=(⟨(.tup [some 2,none]),[.d .deep Yc b.1,.d .deep Yb b.2.1,bL b.2.2]⟩,nn 3 ([]))
def xs0t.un (r:R):(List (Int × Int × Bool)) × (List (List Int × List Int × Bool)) × Bool:=((leafR r 0).dat Yc,(leafR r 1).dat Yb,(leafR r 2).dat .bool)
def xs0t (v0:List (Int × Int × Bool)) (v1:List (List Int × List Int × Bool)) (v2:Int) (v3:Int):Option ((List (Int × Int × Bool)) × (List (List Int × List Int × Bool)) × Bool):=tOf xs0t.mk (vlim E 78 (xs0t.c v0 v1 v2 v3))
def xi12.c (v0:List Int) (v1:List (Int × Int × Int × Int)):List Cell:=vc (.d .fro (.sl (.int .i64)) v0)::vc (.d .fro Ya v1)::[]
def xi12.mk (b:(List (Int × Int × Bool)) × (List (List Int × List Int × Bool)) × (List Bool) × Bool):R:=(⟨(.tup [some 2,none,none]),[.d .deep Yc b.1,.d .deep Yb b.2.1,.d .deep (.sl .bool) b.2.2.1,bL b.2.2.2]⟩,nn 2 ([]))
def xi12.un (r:R):(List (Int × Int × Bool)) × (List (List Int × List Int × Bool)) × (List Bool) × Bool:=((leafR r 0).dat Yc,(leafR r 1).dat Yb,(leafR r 2).dat (.sl .bool),(leafR r 3).dat .bool)
def xi12 (v0:List Int) (v1:List (Int × Int × Int × Int)):Option ((List (Int × Int × Bool)) × (List (List Int × List Int × Bool)) × (List Bool) × Bool):=tOf xi12.mk (vlim E 22 (xi12.c v0 v1))
def xi19.c (v0:List Int):List Cell:=vc (.d .fro (.sl (.int .i64)) v0)::[]
def xi19.mk (b:(List (Int × Int × Bool)) × (List (List Int × List Int × Bool)) × Bool):R:=(⟨(.tup [some 2,none]),[.d .deep Yc b.1,.d .deep Yb b.2.1,bL b.2.2]⟩,nn 1 ([]))
def xi19.un (r:R):(List (Int × Int × Bool)) × (List (List Int × List Int × Bool)) × Bool:=((leafR r 0).dat Yc,(leafR r 1).dat Yb,(leafR r 2).dat .bool)
def xi19 (v0:List Int):Option ((List (Int × Int × Bool)) × (List (List Int × List Int × Bool)) × Bool):=tOf xi19.mk (vlim E 62 (xi19.c v0))
def xi1f.c (v0:Int) (v1:Int) (v2:Int):List Cell:=vc (iL v0)::vc (iL v1)::vc (iL v2)::[]
def xi1f.mk (b:Bool):R:=(⟨.one,[bL b]⟩,nn 3 ([]))
def xi1f.un (r:R):Bool:=((leafR r 0).dat .bool)
def xi1f (v0:Int) (v1:Int) (v2:Int):Option (Bool):=tOf xi1f.mk (vlim E 68 (xi1f.c v0 v1 v2))
def xi1a.c (v0:List Int):List Cell:=vc (.d .fro (.sl (.int .i64)) v0)::[]
def xi1a.mk (b:(List (Int × Int × Bool)) × (List (List Int × List Int × Bool))):R:=(⟨.agg,[.d .deep Yc b.1,.d .deep Yb b.2]⟩,nn 1 ([]))
def xi1a.un (r:R):(List (Int × Int × Bool)) × (List (List Int × List Int × Bool)):=((leafR r 0).dat Yc,(leafR r 1).dat Yb)
def xi1a (v0:List Int):Option ((List (Int × Int × Bool)) × (List (List Int × List Int × Bool))):=tOf xi1a.mk (vlim E 88 (xi1a.c v0))
def xi11.c (v0:List (Int × Int × Bool)) (v1:List (List Int × List Int × Bool)):List Cell:=ac [.d .fro Yc v0,.d .fro Yb v1]::[]
def xi11.mk (b:Bool):R:=(⟨.one,[bL b]⟩,nn 1 ([]))
def xi11.un (r:R):Bool:=((leafR r 0).dat .bool)
def xi11 (v0:List (Int × Int × Bool)) (v1:List (List Int × List Int × Bool)):Option (Bool):=tOf xi11.mk (vlim E 34 (xi11.c v0 v1))
def xi0p.c (v0:List Int) (v1:List Int) (v2:Bool) (v3:Int) (v4:Int) (v5:Bool):List Cell:=ac [.d .fro (.sl (.int .i64)) v0,.d .fro (.sl (.int .i64)) v1,bL v2]::ac [iL v3,iL v4,bL v5]::[]
def xi0p.mk (b:Bool):R:=(⟨.one,[bL b]⟩,nn 2 ([]))
def xi0p.un (r:R):Bool:=((leafR r 0).dat .bool)
def xi0p (v0:List Int) (v1:List Int) (v2:Bool) (v3:Int) (v4:Int) (v5:Bool):Option (Bool):=tOf xi0p.mk (vlim E 69 (xi0p.c v0 v1 v2 v3 v4 v5))
def xi06.c (v0:List Int):List Cell:=vc (.d .fro (.sl (.int .i64)) v0)::vc (.fn 91 [])::[]
def xi06.mk (b:Bool):R:=(⟨.one,[bL b]⟩,nn 2 ([]))
def xi06.un (r:R):Bool:=((leafR r 0).dat .bool)
def xi06 (v0:List Int):Option (Bool):=tOf xi06.mk (vlim E 90 (xi06.c v0))
def xs00.c (v0:List Int):List Cell:=vc (.d .fro (.sl (.int .i64)) v0)::vc (.fn 99 [.rp [.fn 91 []] 0])::[]
def xs00.mk (b:Bool):R:=(⟨.one,[bL b]⟩,nn 2 ([]))
def xs00.un (r:R):Bool:=((leafR r 0).dat .bool)
def xs00 (v0:List Int):Option (Bool):=tOf xs00.mk (vlim E 98 (xs00.c v0))
def xs02.c (v0:List Int):List Cell:=vc (.d .fro (.sl (.int .i64)) v0)::vc (.fn 99 [.rp [.fn 91 []] 0])::[]
def xs02.mk (b:Int):R:=(⟨.one,[iL b]⟩,nn 2 ([]))
def xs02.un (r:R):Int:=((leafR r 0).dat (.int .i64))
def xs02 (v0:List Int):Option (Int):=tOf xs02.mk (vlim E 101 (xs02.c v0))
def xi04.c (v0:Int):List Cell:=vc (iL v0)::vc (.rp [.fn 91 []] 0)::[]
def xi04.mk (b:Bool):R:=(⟨.one,[bL b]⟩,nn 2 ([]))
def xi04.un (r:R):Bool:=((leafR r 0).dat .bool)
def xi04 (v0:Int):Option (Bool):=tOf xi04.mk (vlim E 99 (xi04.c v0))
def xi0g.c (v0:Int):List Cell:=vc (iL v0)::[]
def xi0g.mk (b:Bool):R:=(⟨.one,[bL b]⟩,nn 1 ([]))
def xi0g.un (r:R):Bool:=((leafR r 0).dat .bool)
def xi0g (v0:Int):Option (Bool):=tOf xi0g.mk (vlim E 91 (xi0g.c v0))
def xi0l.c (v0:Int):List Cell:=vc (iL v0)::[]
def xi0l.mk (b:Bool):R:=(⟨.one,[bL b]⟩,nn 1 ([]))
def xi0l.un (r:R):Bool:=((leafR r 0).dat .bool)
def xi0l (v0:Int):Option (Bool):=tOf xi0l.mk (vlim E 92 (xi0l.c v0))
def xi07.c (v0:List Int):List Cell:=vc (.d .fro (.sl (.int .i64)) v0)::vc (.fn 92 [])::[]
def xi07.mk (b:Bool):R:=(⟨.one,[bL b]⟩,nn 2 ([]))
def xi07.un (r:R):Bool:=((leafR r 0).dat .bool)
def xi07 (v0:List Int):Option (Bool):=tOf xi07.mk (vlim E 90 (xi07.c v0))
def xs01.c (v0:List Int):List Cell:=vc (.d .fro (.sl (.int .i64)) v0)::vc (.fn 99 [.rp [.fn 92 []] 0])::[]
def xs01.mk (b:Bool):R:=(⟨.one,[bL b]⟩,nn 2 ([]))
def xs01.un (r:R):Bool:=((leafR r 0).dat .bool)
def xs01 (v0:List Int):Option (Bool):=tOf xs01.mk (vlim E 98 (xs01.c v0))
def xs03.c (v0:List Int):List Cell:=vc (.d .fro (.sl (.int .i64)) v0)::vc (.fn 99 [.rp [.fn 92 []] 0])::[]
def xs03.mk (b:Int):R:=(⟨.one,[iL b]⟩,nn 2 ([]))
def xs03.un (r:R):Int:=((leafR r 0).dat (.int .i64))
def xs03 (v0:List Int):Option (Int):=tOf xs03.mk (vlim E 101 (xs03.c v0))
def xi05.c (v0:Int):List Cell:=vc (iL v0)::vc (.rp [.fn 92 []] 0)::[]
def xi05.mk (b:Bool):R:=(⟨.one,[bL b]⟩,nn 2 ([]))
def xi05.un (r:R):Bool:=((leafR r 0).dat .bool)
def xi05 (v0:Int):Option (Bool):=tOf xi05.mk (vlim E 99 (xi05.c v0))
def xi0o.c (v0:List Int) (v1:List Int) (v2:Bool):List Cell:=ac [.d .fro (.sl (.int .i64)) v0,.d .fro (.sl (.int .i64)) v1,bL v2]::[]
def xi0o.mk (b:Bool):R:=(⟨.one,[bL b]⟩,nn 1 ([]))
def xi0o.un (r:R):Bool:=((leafR r 0).dat .bool)
def xi0o (v0:List Int) (v1:List Int) (v2:Bool):Option (Bool):=tOf xi0o.mk (vlim E 70 (xi0o.c v0 v1 v2))
def xi1m.c (v0:List Int):List Cell:=vc (.d .fro (.sl (.int .i64)) v0)::[]
def xi1m.mk (b:Int):R:=(⟨.one,[iL b]⟩,nn 1 ([]))
def xi1m.un (r:R):Int:=((leafR r 0).dat (.int .i64))
def xi1m (v0:List Int):Option (Int):=tOf xi1m.mk (vlim E 67 (xi1m.c v0))
def xi0k.c (v0:List (Int × Int × Bool)) (v1:List (List Int × List Int × Bool)) (v2:Int) (v3:Int) (v4:Int) (v5:Int):List Cell:=ac [.d .fro Yc v0,.d .fro Yb v1]::ac [iL v2,iL v3,iL v4,iL v5]::[]
def xi0k.mk (b:(List (Int × Int × Bool)) × (List (List Int × List Int × Bool)) × Bool):R:=(⟨(.tup [some 2,none]),[.d .deep Yc b.1,.d .deep Yb b.2.1,bL b.2.2]⟩,nn 2 ([]))
def xi0k.un (r:R):(List (Int × Int × Bool)) × (List (List Int × List Int × Bool)) × Bool:=((leafR r 0).dat Yc,(leafR r 1).dat Yb,(leafR r 2).dat .bool)
def xi0k (v0:List (Int × Int × Bool)) (v1:List (List Int × List Int × Bool)) (v2:Int) (v3:Int) (v4:Int) (v5:Int):Option ((List (Int × Int × Bool)) × (List (List Int × List Int × Bool)) × Bool):=tOf xi0k.mk (vlim E 48 (xi0k.c v0 v1 v2 v3 v4 v5))
def xi13.c (v0:List (Int × Int × Bool)) (v1:List (List Int × List Int × Bool)):List Cell:=ac [.d .fro Yc v0,.d .fro Yb v1]::[]
def xi13.mk (b:(List (Int × Int × Bool)) × (List (List Int × List Int × Bool))):R:=(⟨.agg,[.d .deep Yc b.1,.d .deep Yb b.2]⟩,nn 1 ([]))
def xi13.un (r:R):(List (Int × Int × Bool)) × (List (List Int × List Int × Bool)):=((leafR r 0).dat Yc,(leafR r 1).dat Yb)
def xi13 (v0:List (Int × Int × Bool)) (v1:List (List Int × List Int × Bool)):Option ((List (Int × Int × Bool)) × (List (List Int × List Int × Bool))):=tOf xi13.mk (vlim E 57 (xi13.c v0 v1))
def xs08.c (v0:List (Int × Int × Bool)):List Cell:=vc (.d .fro Yc v0)::[]
def xs08.mk (b:(List (Int × Int × Bool))):R:=(⟨.one,[.d .deep Yc b]⟩,nn 1 ([]))
def xs08.un (r:R):(List (Int × Int × Bool)):=((leafR r 0).dat Yc)
def xs08 (v0:List (Int × Int × Bool)):Option ((List (Int × Int × Bool))):=tOf xs08.mk (vlim E 86 (xs08.c v0))
def xs0b.c (v0:List Int):List Cell:=vc (.d .fro (.sl (.int .i64)) v0)::[]
def xs0b.mk (b:(List Int)):R:=(⟨.one,[.d .deep (.sl (.int .i64)) b]⟩,nn 1 ([]))
def xs0b.un (r:R):(List Int):=((leafR r 0).dat (.sl (.int .i64)))
def xs0b (v0:List Int):Option ((List Int)):=tOf xs0b.mk (vlim E 87 (xs0b.c v0))
def xi0e.c (v0:List (Int × Int × Bool)) (v1:List (List Int × List Int × Bool)) (v2:Int) (v3:Int) (v4:Int) (v5:Int):List Cell:=⟨(.val .agg),[.d .deep Yc v0,.d .deep Yb v1],true,false,false,0,0⟩::ac [iL v2,iL v3,iL v4,iL v5]::[]
def xi0e.mk (b:Bool × (List (Int × Int × Bool)) × (List (List Int × List Int × Bool))):R:=(⟨.one,[bL b.1]⟩,⟨(.val .agg),[.d .deep Yc b.2.1,.d .deep Yb b.2.2],true,false,false,0,0⟩::nn 1 ([]))
def xi0e.un (r:R):Bool × (List (Int × Int × Bool)) × (List (List Int × List Int × Bool)):=((leafR r 0).dat .bool,(leafF r 0 0).dat Yc,(leafF r 0 1).dat Yb)
def xi0e (v0:List (Int × Int × Bool)) (v1:List (List Int × List Int × Bool)) (v2:Int) (v3:Int) (v4:Int) (v5:Int):Option (Bool × (List (Int × Int × Bool)) × (List (List Int × List Int × Bool))):=tOf xi0e.mk (vlim E 81 (xi0e.c v0 v1 v2 v3 v4 v5))
def xi0c.c (v0:List (Int × Int × Bool)) (v1:List (List Int × List Int × Bool)) (v2:Int) (v3:Int):List Cell:=⟨(.val .agg),[.d .deep Yc v0,.d .deep Yb v1],true,false,false,0,0⟩::vc (iL v2)::vc (iL v3)::[]
def xi0c.mk (b:Bool × (List (Int × Int × Bool)) × (List (List Int × List Int × Bool))):R:=(⟨.one,[bL b.1]⟩,⟨(.val .agg),[.d .deep Yc b.2.1,.d .deep Yb b.2.2],true,false,false,0,0⟩::nn 2 ([]))
def xi0c.un (r:R):Bool × (List (Int × Int × Bool)) × (List (List Int × List Int × Bool)):=((leafR r 0).dat .bool,(leafF r 0 0).dat Yc,(leafF r 0 1).dat Yb)
def xi0c (v0:List (Int × Int × Bool)) (v1:List (List Int × List Int × Bool)) (v2:Int) (v3:Int):Option (Bool × (List (Int × Int × Bool)) × (List (List Int × List Int × Bool))):=tOf xi0c.mk (vlim E 95 (xi0c.c v0 v1 v2 v3))
def xi0d.c (v0:List (Int × Int × Bool)) (v1:List (List Int × List Int × Bool)) (v2:Int) (v3:Int) (v4:Int) (v5:Int):List Cell:=⟨(.val .agg),[.d .deep Yc v0,.d .deep Yb v1],true,false,false,0,0⟩::ac [iL v2,iL v3,iL v4,iL v5]::[]
def xi0d.mk (b:Bool × (List (Int × Int × Bool)) × (List (List Int × List Int × Bool))):R:=(⟨.one,[bL b.1]⟩,⟨(.val .agg),[.d .deep Yc b.2.1,.d .deep Yb b.2.2],true,false,false,0,0⟩::nn 1 ([]))
def xi0d.un (r:R):Bool × (List (Int × Int × Bool)) × (List (List Int × List Int × Bool)):=((leafR r 0).dat .bool,(leafF r 0 0).dat Yc,(leafF r 0 1).dat Yb)
def xi0d (v0:List (Int × Int × Bool)) (v1:List (List Int × List Int × Bool)) (v2:Int) (v3:Int) (v4:Int) (v5:Int):Option (Bool × (List (Int × Int × Bool)) × (List (List Int × List Int × Bool))):=tOf xi0d.mk (vlim E 96 (xi0d.c v0 v1 v2 v3 v4 v5))
def xi0f.c (v0:List (Int × Int × Bool)) (v1:List (List Int × List Int × Bool)) (v2:Int) (v3:Int):List Cell:=⟨(.val .agg),[.d .deep Yc v0,.d .deep Yb v1],true,false,false,0,0⟩::vc (iL v2)::vc (iL v3)::[]
def xi0f.mk (b:Bool × (List (Int × Int × Bool)) × (List (List Int × List Int × Bool))):R:=(⟨.one,[bL b.1]⟩,⟨(.val .agg),[.d .deep Yc b.2.1,.d .deep Yb b.2.2],true,false,false,0,0⟩::nn 2 ([]))
def xi0f.un (r:R):Bool × (List (Int × Int × Bool)) × (List (List Int × List Int × Bool)):=((leafR r 0).dat .bool,(leafF r 0 0).dat Yc,(leafF r 0 1).dat Yb)
def xi0f (v0:List (Int × Int × Bool)) (v1:List (List Int × List Int × Bool)) (v2:Int) (v3:Int):Option (Bool × (List (Int × Int × Bool)) × (List (List Int × List Int × Bool))):=tOf xi0f.mk (vlim E 97 (xi0f.c v0 v1 v2 v3))
def xl1i.c (v0:List (Int × Int × Bool)) (v1:List (List Int × List Int × Bool)) (v2:List (Int × Int × Bool)) (v3:List (List Int × List Int × Bool)):List Cell:=ac [.d .fro Yc v0,.d .fro Yb v1]::ac [.d .fro Yc v2,.d .fro Yb v3]::[]
def xl1i.mk (b:Bool):R:=(⟨.one,[bL b]⟩,nn 2 ([]))
def xl1i.un (r:R):Bool:=((leafR r 0).dat .bool)
def xl1i (v0:List (Int × Int × Bool)) (v1:List (List Int × List Int × Bool)) (v2:List (Int × Int × Bool)) (v3:List (List Int × List Int × Bool)):Option (Bool):=tOf xl1i.mk (vlim E 13 (xl1i.c v0 v1 v2 v3))
def xl1c.c (v0:List (Int × Int × Bool)) (v1:List (Int × Int × Bool)):List Cell:=vc (.d .fro Yc v0)::vc (.d .fro Yc v1)::[]
def xl1c.mk (b:Bool):R:=(⟨.one,[bL b]⟩,nn 2 ([]))
def xl1c.un (r:R):Bool:=((leafR r 0).dat .bool)
def xl1c (v0:List (Int × Int × Bool)) (v1:List (Int × Int × Bool)):Option (Bool):=tOf xl1c.mk (vlim E 49 (xl1c.c v0 v1))
def xl1h.c (v0:Int) (v1:Int) (v2:Bool) (v3:Int) (v4:Int) (v5:Bool):List Cell:=ac [iL v0,iL v1,bL v2]::ac [iL v3,iL v4,bL v5]::[]
def xl1h.mk (b:Bool):R:=(⟨.one,[bL b]⟩,nn 2 ([]))
def xl1h.un (r:R):Bool:=((leafR r 0).dat .bool)
def xl1h (v0:Int) (v1:Int) (v2:Bool) (v3:Int) (v4:Int) (v5:Bool):Option (Bool):=tOf xl1h.mk (vlim E 82 (xl1h.c v0 v1 v2 v3 v4 v5))
def xl1d.c (v0:List (List Int × List Int × Bool)) (v1:List (List Int × List Int × Bool)):List Cell:=vc (.d .fro Yb v0)::vc (.d .fro Yb v1)::[]
def xl1d.mk (b:Bool):R:=(⟨.one,[bL b]⟩,nn 2 ([]))
def xl1d.un (r:R):Bool:=((leafR r 0).dat .bool)
def xl1d (v0:List (List Int × List Int × Bool)) (v1:List (List Int × List Int × Bool)):Option (Bool):=tOf xl1d.mk (vlim E 50 (xl1d.c v0 v1))
def xl1j.c (v0:List Int) (v1:List Int) (v2:Bool) (v3:List Int) (v4:List Int) (v5:Bool):List Cell:=ac [.d .fro (.sl (.int .i64)) v0,.d .fro (.sl (.int .i64)) v1,bL v2]::ac [.d .fro (.sl (.int .i64)) v3,.d .fro (.sl (.int .i64)) v4,bL v5]::[]
def xl1j.mk (b:Bool):R:=(⟨.one,[bL b]⟩,nn 2 ([]))
def xl1j.un (r:R):Bool:=((leafR r 0).dat .bool)
def xl1j (v0:List Int) (v1:List Int) (v2:Bool) (v3:List Int) (v4:List Int) (v5:Bool):Option (Bool):=tOf xl1j.mk (vlim E 83 (xl1j.c v0 v1 v2 v3 v4 v5))
def xl1g.c (v0:List Int) (v1:List Int):List Cell:=vc (.d .fro (.sl (.int .i64)) v0)::vc (.d .fro (.sl (.int .i64)) v1)::[]
def xl1g.mk (b:Bool):R:=(⟨.one,[bL b]⟩,nn 2 ([]))
def xl1g.un (r:R):Bool:=((leafR r 0).dat .bool)
def xl1g (v0:List Int) (v1:List Int):Option (Bool):=tOf xl1g.mk (vlim E 24 (xl1g.c v0 v1))
def xl1b.c (v0:List Bool) (v1:List Bool):List Cell:=vc (.d .fro (.sl .bool) v0)::vc (.d .fro (.sl .bool) v1)::[]
def xl1b.mk (b:Bool):R:=(⟨.one,[bL b]⟩,nn 2 ([]))
def xl1b.un (r:R):Bool:=((leafR r 0).dat .bool)
def xl1b (v0:List Bool) (v1:List Bool):Option (Bool):=tOf xl1b.mk (vlim E 23 (xl1b.c v0 v1))
def xl0q.c (v0:List (Int × Int × Int × Int)) (v1:List (Int × Int × Int × Int)):List Cell:=vc (.d .fro Ya v0)::vc (.d .fro Ya v1)::[]
def xl0q.mk (b:Bool):R:=(⟨.one,[bL b]⟩,nn 2 ([]))
def xl0q.un (r:R):Bool:=((leafR r 0).dat .bool)
def xl0q (v0:List (Int × Int × Int × Int)) (v1:List (Int × Int × Int × Int)):Option (Bool):=tOf xl0q.mk (vlim E 25 (xl0q.c v0 v1))
def xl0v.c (v0:Int) (v1:Int) (v2:Int) (v3:Int) (v4:Int) (v5:Int) (v6:Int) (v7:Int):List Cell:=ac [iL v0,iL v1,iL v2,iL v3]::ac [iL v4,iL v5,iL v6,iL v7]::[]
def xl0v.mk (b:Bool):R:=(⟨.one,[bL b]⟩,nn 2 ([]))
def xl0v.un (r:R):Bool:=((leafR r 0).dat .bool)
def xl0v (v0:Int) (v1:Int) (v2:Int) (v3:Int) (v4:Int) (v5:Int) (v6:Int) (v7:Int):Option (Bool):=tOf xl0v.mk (vlim E 63 (xl0v.c v0 v1 v2 v3 v4 v5 v6 v7))
def xl0m.c (v0:List Int) (v1:Int):List Cell:=⟨(.val .one),[.d .deep (.sl (.int .i64)) v0],true,false,false,0,0⟩::vc (iL v1)::[]
def xl0m.mk (b:Int × (List Int)):R:=(⟨.one,[iL b.1]⟩,⟨(.val .one),[.d .deep (.sl (.int .i64)) b.2],true,false,false,0,0⟩::nn 1 ([]))
def xl0m.un (r:R):Int × (List Int):=((leafR r 0).dat (.int .i64),(leafF r 0 0).dat (.sl (.int .i64)))
def xl0m (v0:List Int) (v1:Int):Option (Int × (List Int)):=tOf xl0m.mk (vlim E 26 (xl0m.c v0 v1))
def xl09.c (v0:List (Int × Int × Int × Int)) (v1:Int):List Cell:=⟨(.val .one),[.d .deep Ya v0],true,false,false,0,0⟩::vc (iL v1)::[]
def xl09.mk (b:Int × (List (Int × Int × Int × Int))):R:=(⟨.one,[iL b.1]⟩,⟨(.val .one),[.d .deep Ya b.2],true,false,false,0,0⟩::nn 1 ([]))
def xl09.un (r:R):Int × (List (Int × Int × Int × Int)):=((leafR r 0).dat (.int .i64),(leafF r 0 0).dat Ya)
def xl09 (v0:List (Int × Int × Int × Int)) (v1:Int):Option (Int × (List (Int × Int × Int × Int))):=tOf xl09.mk (vlim E 27 (xl09.c v0 v1))
def xl0n.c (v0:List (Int × Int × Bool)) (v1:List (List Int × List Int × Bool)) (v2:Int):List Cell:=⟨(.val .agg),[.d .deep Yc v0,.d .deep Yb v1],true,false,false,0,0⟩::vc (iL v2)::[]
def xl0n.mk (b:Int × (List (Int × Int × Bool)) × (List (List Int × List Int × Bool))):R:=(⟨.one,[iL b.1]⟩,⟨(.val .agg),[.d .deep Yc b.2.1,.d .deep Yb b.2.2],true,false,false,0,0⟩::nn 1 ([]))
def xl0n.un (r:R):Int × (List (Int × Int × Bool)) × (List (List Int × List Int × Bool)):=((leafR r 0).dat (.int .i64),(leafF r 0 0).dat Yc,(leafF r 0 1).dat Yb)
def xl0n (v0:List (Int × Int × Bool)) (v1:List (List Int × List Int × Bool)) (v2:Int):Option (Int × (List (Int × Int × Bool)) × (List (List Int × List Int × Bool))):=tOf xl0n.mk (vlim E 14 (xl0n.c v0 v1 v2))
def xl0i.c (v0:List (Int × Int × Bool)) (v1:Int):List Cell:=⟨(.val .one),[.d .deep Yc v0],true,false,false,0,0⟩::vc (iL v1)::[]
def xl0i.mk (b:Int × (List (Int × Int × Bool))):R:=(⟨.one,[iL b.1]⟩,⟨(.val .one),[.d .deep Yc b.2],true,false,false,0,0⟩::nn 1 ([]))
def xl0i.un (r:R):Int × (List (Int × Int × Bool)):=((leafR r 0).dat (.int .i64),(leafF r 0 0).dat Yc)
def xl0i (v0:List (Int × Int × Bool)) (v1:Int):Option (Int × (List (Int × Int × Bool))):=tOf xl0i.mk (vlim E 51 (xl0i.c v0 v1))
def xl0j.c (v0:List (List Int × List Int × Bool)) (v1:Int):List Cell:=⟨(.val .one),[.d .deep Yb v0],true,false,false,0,0⟩::vc (iL v1)::[]
def xl0j.mk (b:Int × (List (List Int × List Int × Bool))):R:=(⟨.one,[iL b.1]⟩,⟨(.val .one),[.d .deep Yb b.2],true,false,false,0,0⟩::nn 1 ([]))
def xl0j.un (r:R):Int × (List (List Int × List Int × Bool)):=((leafR r 0).dat (.int .i64),(leafF r 0 0).dat Yb)
def xl0j (v0:List (List Int × List Int × Bool)) (v1:Int):Option (Int × (List (List Int × List Int × Bool))):=tOf xl0j.mk (vlim E 52 (xl0j.c v0 v1))
def xl0h.c (v0:List Bool) (v1:Int):List Cell:=⟨(.val .one),[.d .deep (.sl .bool) v0],true,false,false,0,0⟩::vc (iL v1)::[]
def xl0h.mk (b:Int × (List Bool)):R:=(⟨.one,[iL b.1]⟩,⟨(.val .one),[.d .deep (.sl .bool) b.2],true,false,false,0,0⟩::nn 1 ([]))
def xl0h.un (r:R):Int × (List Bool):=((leafR r 0).dat (.int .i64),(leafF r 0 0).dat (.sl .bool))
def xl0h (v0:List Bool) (v1:Int):Option (Int × (List Bool)):=tOf xl0h.mk (vlim E 28 (xl0h.c v0 v1))
def xl15.c (v0:List (Int × Int × Bool)) (v1:List (List Int × List Int × Bool)) (v2:Int):List Cell:=ac [.d .fro Yc v0,.d .fro Yb v1]::vc (iL v2)::[]
def xl15.mk (b:Int):R:=(⟨.one,[iL b]⟩,nn 2 ([]))
def xl15.un (r:R):Int:=((leafR r 0).dat (.int .i64))
def xl15 (v0:List (Int × Int × Bool)) (v1:List (List Int × List Int × Bool)) (v2:Int):Option (Int):=tOf xl15.mk (vlim E 15 (xl15.c v0 v1 v2))
def xl0y.c (v0:List (Int × Int × Bool)) (v1:Int):List Cell:=vc (.d .fro Yc v0)::vc (iL v1)::[]
def xl0y.mk (b:Int):R:=(⟨.one,[iL b]⟩,nn 2 ([]))
def xl0y.un (r:R):Int:=((leafR r 0).dat (.int .i64))
def xl0y (v0:List (Int × Int × Bool)) (v1:Int):Option (Int):=tOf xl0y.mk (vlim E 53 (xl0y.c v0 v1))
def xl0z.c (v0:List (List Int × List Int × Bool)) (v1:Int):List Cell:=vc (.d .fro Yb v0)::vc (iL v1)::[]
def xl0z.mk (b:Int):R:=(⟨.one,[iL b]⟩,nn 2 ([]))
def xl0z.un (r:R):Int:=((leafR r 0).dat (.int .i64))
def xl0z (v0:List (List Int × List Int × Bool)) (v1:Int):Option (Int):=tOf xl0z.mk (vlim E 54 (xl0z.c v0 v1))
def xl14.c (v0:List Int) (v1:Int):List Cell:=vc (.d .fro (.sl (.int .i64)) v0)::vc (iL v1)::[]
def xl14.mk (b:Int):R:=(⟨.one,[iL b]⟩,nn 2 ([]))
def xl14.un (r:R):Int:=((leafR r 0).dat (.int .i64))
def xl14 (v0:List Int) (v1:Int):Option (Int):=tOf xl14.mk (vlim E 84 (xl14.c v0 v1))
def xl0x.c (v0:List Bool) (v1:Int):List Cell:=vc (.d .fro (.sl .bool) v0)::vc (iL v1)::[]
def xl0x.mk (b:Int):R:=(⟨.one,[iL b]⟩,nn 2 ([]))
def xl0x.un (r:R):Int:=((leafR r 0).dat (.int .i64))
def xl0x (v0:List Bool) (v1:Int):Option (Int):=tOf xl0x.mk (vlim E 29 (xl0x.c v0 v1))
def tabT : List (Nat × List (List Cell × Tb)) := [
 (5,[(xl0a.c [] [],.one (Bool) xl0a.mk)]),
 (9,[(xs18.c [] [] 0 0 0 0,.one ((List (Int × Int × Bool)) × (List (List Int × List Int × Bool)) × Bool) xs18.mk)]),
 (11,[(xl0w.c 0 0 0 0,.one (Int × Int × Int × Int) xl0w.mk)]),
 (13,[(xl1i.c [] [] [] [],.one (Bool) xl1i.mk)]),
 (14,[(xl0n.c [] [] 0,.one (Int × (List (Int × Int × Bool)) × (List (List Int × List Int × Bool))) xl0n.mk)]),
 (15,[(xl15.c [] [] 0,.one (Int) xl15.mk)]),
 (18,[(xl0r.c [] 0,.one (Int) xl0r.mk)]),
 (19,[(xs17.c [] [],.one ((List (Int × Int × Bool)) × (List (List Int × List Int × Bool)) × (List Bool) × Bool) xs17.mk)]),
 (20,[(xl1k.c [],.one ((List Int)) xl1k.mk)]),
 (21,[(xl0s.c [],.one ((List (Int × Int × Int × Int))) xl0s.mk)]),
 (22,[(xi12.c [] [],.one ((List (Int × Int × Bool)) × (List (List Int × List Int × Bool)) × (List Bool) × Bool) xi12.mk)]),
 (23,[(xl1b.c [] [],.one (Bool) xl1b.mk)]),
 (24,[(xl1g.c [] [],.one (Bool) xl1g.mk)]),
 (25,[(xl0q.c [] [],.one (Bool) xl0q.mk)]),
 (26,[(xl0m.c [] 0,.one (Int × (List Int)) xl0m.mk)]),
 (27,[(xl09.c [] 0,.one (Int × (List (Int × Int × Int × Int))) xl09.mk)]),
 (28,[(xl0h.c [] 0,.one (Int × (List Bool)) xl0h.mk)]),
 (29,[(xl0x.c [] 0,.one (Int) xl0x.mk)]),
 (34,[(xi11.c [] [],.one (Bool) xi11.mk)]),
 (43,[(xs16.c [] [],.one (Bool) xs16.mk)]),
 (44,[(xs0u.c [] [] 0 0 0 0,.one ((List (Int × Int × Bool)) × (List (List Int × List Int × Bool)) × Bool) xs0u.mk)]),
 (45,[(xs1l.c [] [],.one ((List (Int × Int × Bool)) × (List (List Int × List Int × Bool))) xs1l.mk)]),
 (48,[(xi0k.c [] [] 0 0 0 0,.one ((List (Int × Int × Bool)) × (List (List Int × List Int × Bool)) × Bool) xi0k.mk)]),
 (49,[(xl1c.c [] [],.one (Bool) xl1c.mk)]),
 (50,[(xl1d.c [] [],.one (Bool) xl1d.mk)]),
 (51,[(xl0i.c [] 0,.one (Int × (List (Int × Int × Bool))) xl0i.mk)]),
 (52,[(xl0j.c [] 0,.one (Int × (List (List Int × List Int × Bool))) xl0j.mk)]),
 (53,[(xl0y.c [] 0,.one (Int) xl0y.mk)]),
 (54,[(xl0z.c [] 0,.one (Int) xl0z.mk)]),
 (57,[(xi13.c [] [],.one ((List (Int × Int × Bool)) × (List (List Int × List Int × Bool))) xi13.mk)]),
 (61,[(xs1e.c [],.one ((List (Int × Int × Bool)) × (List (List Int × List Int × Bool)) × Bool) xs1e.mk)]),
 (62,[(xi19.c [],.one ((List (Int × Int × Bool)) × (List (List Int × List Int × Bool)) × Bool) xi19.mk)]),
 (63,[(xl0v.c 0 0 0 0 0 0 0 0,.one (Bool) xl0v.mk)]),
 (67,[(xi1m.c [],.one (Int) xi1m.mk)]),
 (68,[(xi1f.c 0 0 0,.one (Bool) xi1f.mk)]),
 (69,[(xi0p.c [] [] false 0 0 false,.one (Bool) xi0p.mk)]),
 (70,[(xi0o.c [] [] false,.one (Bool) xi0o.mk)]),
 (76,[(xs1n.c 0 0 0,.one (Bool) xs1n.mk)]),
 (77,[(xs10.c 0,.one (Bool) xs10.mk)]),
 (78,[(xs0t.c [] [] 0 0,.one ((List (Int × Int × Bool)) × (List (List Int × List Int × Bool)) × Bool) xs0t.mk)]),
 (81,[(xi0e.c [] [] 0 0 0 0,.one (Bool × (List (Int × Int × Bool)) × (List (List Int × List Int × Bool))) xi0e.mk)]),
 (82,[(xl1h.c 0 0 false 0 0 false,.one (Bool) xl1h.mk)]),
 (83,[(xl1j.c [] [] false [] [] false,.one (Bool) xl1j.mk)]),
 (84,[(xl14.c [] 0,.one (Int) xl14.mk)]),
 (86,[(xs08.c [],.one ((List (Int × Int × Bool))) xs08.mk)]),
 (87,[(xs0b.c [],.one ((List Int)) xs0b.mk)]),
 (88,[(xi1a.c [],.one ((List (Int × Int × Bool)) × (List (List Int × List Int × Bool))) xi1a.mk)]),
 (90,[(xi06.c [],.one (Bool) xi06.mk),(xi07.c [],.one (Bool) xi07.mk)]),
 (91,[(xi0g.c 0,.one (Bool) xi0g.mk)]),
 (92,[(xi0l.c 0,.one (Bool) xi0l.mk)]),
 (95,[(xi0c.c [] [] 0 0,.one (Bool × (List (Int × Int × Bool)) × (List (List Int × List Int × Bool))) xi0c.mk)]),
 (96,[(xi0d.c [] [] 0 0 0 0,.one (Bool × (List (Int × Int × Bool)) × (List (List Int × List Int × Bool))) xi0d.mk)]),
 (97,[(xi0f.c [] [] 0 0,.one (Bool × (List (Int × Int × Bool)) × (List (List Int × List Int × Bool))) xi0f.mk)]),
 (98,[(xs00.c [],.one (Bool) xs00.mk),(xs01.c [],.one (Bool) xs01.mk)]),
 (99,[(xi04.c 0,.one (Bool) xi04.mk),(xi05.c 0,.one (Bool) xi05.mk)]),
 (101,[(xs02.c [],.one (Int) xs02.mk),(xs03.c [],.one (Int) xs03.mk)])]
def tab:FuncId→List Cell→Tb:=fun g cs => match assoc tabT g with | some l => pickT l cs | none => .no
end
end GoV

/- Equations of the program's functions (printed by wip/tools/emit.py). -/
namespace GoV
open Go Go.Proofs
set_option maxRecDepth 100000
noncomputable section

def xl0a.t {γ:Type} (ret:(Bool)→Option γ) (v0:List Int) (v1:List (Int × Int × Int × Int)):Option γ :=
 bif decide ((↑v0.length:Int) > (1048576:Int)) then
 ret (Bool.true)
 else
 (xl0r (v1) ((1048576:Int))).bind fun (r0:Int) =>
 bif decide (r0<(0:Int)) then
 ret (Bool.true)
 else
 (xl1k (v0)).bind fun (r1:(List Int)) =>
 (xl0s (v1)).bind fun (r2:(List (Int × Int × Int × Int))) =>
 (xs17 (r1) (r2)).bind fun (r3:(List (Int × Int × Bool)) × (List (List Int × List Int × Bool)) × (List Bool) × Bool) =>
 (xl1k (v0)).bind fun (r4:(List Int)) =>
 (xl0s (v1)).bind fun (r5:(List (Int × Int × Int × Int))) =>
 (xi12 (r4) (r5)).bind fun (r6:(List (Int × Int × Bool)) × (List (List Int × List Int × Bool)) × (List Bool) × Bool) =>
 (xl1i (r6.fst) (r6.snd.fst) (r3.fst) (r3.snd.fst)).bind fun (r7:Bool) =>
 bif !r7 then
 ret (Bool.false)
 else
 (xl1b (r6.snd.snd.fst) (r3.snd.snd.fst)).bind fun (r8:Bool) =>
 bif !r8 then
 ret (Bool.false)
 else
 bif !r6.snd.snd.snd == r3.snd.snd.snd then
 ret (Bool.false)
 else
 (xl1k (v0)).bind fun (r9:(List Int)) =>
 (xl1g (r4) (r9)).bind fun (r10:Bool) =>
 bif !r10 then
 ret (Bool.false)
 else
 (xl0s (v1)).bind fun (r11:(List (Int × Int × Int × Int))) =>
 (xl0q (r5) (r11)).bind fun (r12:Bool) =>
 bif !r12 then
 ret (Bool.false)
 else
 (xl0m (r4) ((1:Int))).bind fun (r13:Int × (List Int)) =>
 (xl09 (r5) (r13.fst)).bind fun (r14:Int × (List (Int × Int × Int × Int))) =>
 bif decide (r14.fst<(0:Int)) then
 ret (Bool.false)
 else
 (xl1i (r6.fst) (r6.snd.fst) (r3.fst) (r3.snd.fst)).bind fun (r15:Bool) =>
 bif !r15 then
 ret (Bool.false)
 else
 (xl1b (r6.snd.snd.fst) (r3.snd.snd.fst)).bind fun (r16:Bool) =>
 bif !r16 then
 ret (Bool.false)
 else
 bif !r6.snd.snd.snd == r3.snd.snd.snd then
 ret (Bool.false)
 else
 (xl0n (r6.fst) (r6.snd.fst) ((1:Int))).bind fun (r17:Int × (List (Int × Int × Bool)) × (List (List Int × List Int × Bool))) =>
 (xl0h (r6.snd.snd.fst) (r17.fst)).bind fun (r18:Int × (List Bool)) =>
 (xl15 (r17.snd.fst) (r17.snd.snd) ((1:Int))).bind fun (r19:Int) =>
 bif decide (r19<(0:Int)) then
 ret (Bool.false)
 else
 (xl0x (r18.snd) (r19)).bind fun (r20:Int) =>
 bif decide (r20<(0:Int)) then
 ret (Bool.false)
 else
 bif r20 != r18.fst then
 ret (Bool.false)
 else
 (xl1k (v0)).bind fun (r21:(List Int)) =>
 (xl0s (v1)).bind fun (r22:(List (Int × Int × Int × Int))) =>
 (xi12 (r21) (r22)).bind fun (r23:(List (Int × Int × Bool)) × (List (List Int × List Int × Bool)) × (List Bool) × Bool) =>
 (xl1i (r23.fst) (r23.snd.fst) (r3.fst) (r3.snd.fst)).bind fun (r24:Bool) =>
 bif !r24 then
 ret (Bool.false)
 else
 (xl1b (r23.snd.snd.fst) (r3.snd.snd.fst)).bind fun (r25:Bool) =>
 bif !r25 then
 ret (Bool.false)
 else
 bif !r23.snd.snd.snd == r3.snd.snd.snd then
 ret (Bool.false)
 else
 (xl15 (r17.snd.fst) (r17.snd.snd) ((1:Int))).bind fun (r26:Int) =>
 bif decide (r26<(0:Int)) then
 ret (Bool.false)
 else
 (xl0x (r18.snd) (r26)).bind fun (r27:Int) =>
 bif decide (r27<(0:Int)) then
 ret (Bool.false)
 else
 bif r27 != r18.fst then
 ret (Bool.false)
 else
 ret (Bool.true)
theorem xl0a.u:∀ b,xl0a.un (xl0a.mk b)=b:=fun _ => by kernel_rfl
theorem xl0a.eq (v0 v1) {b} (h:xl0a.t some v0 v1=some b):xl0a v0 v1=some b:=eqF xl0a.u Try.f5 (callT_le E tab) rfl rfl rfl (xl0a.t (rR xl0a.mk) v0 v1) (by kernel_rfl) (by unfold xl0a.t; repeat' first | exact sR | exact sN | exact sL | apply sC | (apply sB; intro _)) h
def xl0r.t {γ:Type} (ret:(Int)→Option γ) (v0:List (Int × Int × Int × Int)) (v1:Int):Option γ :=
 bif decide (IntKind.i64.wrap (v1 - (↑v0.length:Int))<(0:Int)) then
 ret ((-1:Int))
 else
 ret (IntKind.i64.wrap (v1 - (↑v0.length:Int)))
theorem xl0r.u:∀ b,xl0r.un (xl0r.mk b)=b:=fun _ => by kernel_rfl
theorem xl0r.eq (v0 v1) {b} (h:xl0r.t some v0 v1=some b):xl0r v0 v1=some b:=eqF xl0r.u Try.f18 (callT_le E tab) rfl rfl rfl (xl0r.t (rR xl0r.mk) v0 v1) (by kernel_rfl) (by unfold xl0r.t; repeat' first | exact sR | exact sN | exact sL | apply sC | (apply sB; intro _)) h
def xl1k.s3 (v0:List Int) (v1:List Int) (v2:Int):List Cell:=vc (.d .fro (.sl (.int .i64)) v0)::nn 2 (vc (.d .deep (.sl (.int .i64)) v1)::vc (iL v2)::nn 17 ([]))
def xl1k.q3:=fun v0 v1 v2 => loopAtL E (callT E tab) 20 Try.f20 1 [.r,.r,.l,.r,.b] (xl1k.s3 v0 v1 v2)
def xl1k.l3:=fun v0 v1 v2 => tOf xl1k.mk (xl1k.q3 v0 v1 v2)
def xl1k.t {γ:Type} (ret:((List Int))→Option γ) (lp3:(List Int)→(List Int)→Int→Option γ) (v0:List Int):Option γ :=
 bif decide ((↑v0.length:Int)=(↑v0.length:Int)) then
 bif decide ((↑v0.length:Int) * (↑(1:Nat):Int)≤(4398046511104:Int)) then
 lp3 (v0) (List.replicate (↑v0.length:Int).toNat (0:Int)) ((0:Int))
 else
 none
 else
 none
def xl1k.t3 {γ:Type} (ret:((List Int))→Option γ) (lp3:(List Int)→(List Int)→Int→Option γ) (v0:List Int) (v1:List Int) (v2:Int):Option γ :=
 bif decide (v2<(↑v0.length:Int)) then
 bif decide ((0:Int)≤v2) then
 bif decide (v2.toNat<v0.length) then
 bif decide ((0:Int)≤v2) then
 bif decide (v2.toNat<v1.length) then
 bif decide (v2.toNat<v1.length) then
 lp3 (v0) (v1.set v2.toNat (v0.getD v2.toNat (0:Int))) (IntKind.i64.wrap (v2+(1:Int)))
 else
 none
 else
 none
 else
 none
 else
 none
 else
 none
 else
 ret (v1)
theorem xl1k.u:∀ b,xl1k.un (xl1k.mk b)=b:=fun _ => by kernel_rfl
theorem xl1k.eq (v0) {b} (h:xl1k.t some xl1k.l3 v0=some b):xl1k v0=some b:=eqF xl1k.u Try.f20 (callT_le E tab) rfl rfl rfl (xl1k.t (rR xl1k.mk) xl1k.q3 v0) (by kernel_rfl) (by unfold xl1k.t; repeat' first | exact sR | exact sN | exact sL | apply sC | (apply sB; intro _)) h
theorem xl1k.eq3 (v0 v1 v2) {b} (h:xl1k.t3 some xl1k.l3 v0 v1 v2=some b):xl1k.l3 v0 v1 v2=some b:=eqL xl1k.u (xl1k.t3 (rR xl1k.mk) xl1k.q3 v0 v1 v2) (by kernel_rfl) (by unfold xl1k.t3; repeat' first | exact sR | exact sN | exact sL | apply sC | (apply sB; intro _)) h
def xl0s.s3 (v0:List (Int × Int × Int × Int)) (v1:List (Int × Int × Int × Int)) (v2:Int):List Cell:=vc (.d .fro Ya v0)::nn 2 (vc (.d .deep Ya v1)::vc (iL v2)::nn 18 ([]))
def xl0s.q3:=fun v0 v1 v2 => loopAtL E (callT E tab) 21 Try.f21 1 [.r,.r,.l,.r,.b] (xl0s.s3 v0 v1 v2)
def xl0s.l3:=fun v0 v1 v2 => tOf xl0s.mk (xl0s.q3 v0 v1 v2)
def xl0s.t {γ:Type} (ret:((List (Int × Int × Int × Int)))→Option γ) (lp3:(List (Int × Int × Int × Int))→(List (Int × Int × Int × Int))→Int→Option γ) (v0:List (Int × Int × Int × Int)):Option γ :=
 bif decide ((↑v0.length:Int)=(↑v0.length:Int)) then
 bif decide   ((↑v0.length:Int) * (↑((1:Nat)+((1:Nat)+((1:Nat)+(1:Nat)))):Int)≤(4398046511104:Int)) then
 lp3 (v0) (List.replicate (↑v0.length:Int).toNat ((0:Int),(0:Int),(0:Int),(0:Int))) ((0:Int))
 else
 none
 else
 none
def xl0s.t3 {γ:Type} (ret:((List (Int × Int × Int × Int)))→Option γ) (lp3:(List (Int × Int × Int × Int))→(List (Int × Int × Int × Int))→Int→Option γ) (v0:List (Int × Int × Int × Int)) (v1:List (Int × Int × Int × Int)) (v2:Int):Option γ :=
 bif decide (v2<(↑v0.length:Int)) then
 bif decide ((0:Int)≤v2) then
 bif decide (v2.toNat<v0.length) then
 (xl0w ((v0.getD v2.toNat ((0:Int),(0:Int),(0:Int),(0:Int))).fst) ((v0.getD v2.toNat ((0:Int),(0:Int),(0:Int),(0:Int))).snd.fst) ((v0.getD v2.toNat ((0:Int),(0:Int),(0:Int),(0:Int))).snd.snd.fst) ((v0.getD v2.toNat ((0:Int),(0:Int),(0:Int),(0:Int))).snd.snd.snd)).bind fun (r0:Int × Int × Int × Int) =>
 bif decide ((0:Int)≤v2) then
 bif decide (v2.toNat<v1.length) then
 bif decide (v2.toNat<v1.length) then
 lp3 (v0) (v1.set v2.toNat (r0.fst,r0.snd.fst,r0.snd.snd.fst,r0.snd.snd.snd)) (IntKind.i64.wrap (v2+(1:Int)))
 else
 none
 else
 none
 else
 none
 else
 none
 else
 none
 else
 ret (v1)
theorem xl0s.u:∀ b,xl0s.un (xl0s.mk b)=b:=fun _ => by kernel_rfl
theorem xl0s.eq (v0) {b} (h:xl0s.t some xl0s.l3 v0=some b):xl0s v0=some b:=eqF xl0s.u Try.f21 (callT_le E tab) rfl rfl rfl (xl0s.t (rR xl0s.mk) xl0s.q3 v0) (by kernel_rfl) (by unfold xl0s.t; repeat' first | exact sR | exact sN | exact sL | apply sC | (apply sB; intro _)) h
theorem xl0s.eq3 (v0 v1 v2) {b} (h:xl0s.t3 some xl0s.l3 v0 v1 v2=some b):xl0s.l3 v0 v1 v2=some b:=eqL xl0s.u (xl0s.t3 (rR xl0s.mk) xl0s.q3 v0 v1 v2) (by kernel_rfl) (by unfold xl0s.t3; repeat' first | exact sR | exact sN | exact sL | apply sC | (apply sB; intro _)) h
def xl0w.t {γ:Type} (ret:(Int × Int × Int × Int)→Option γ) (v0:Int) (v1:Int) (v2:Int) (v3:Int):Option γ :=
 ret (v0,v1,v2,v3)
theorem xl0w.u:∀ b,xl0w.un (xl0w.mk b)=b:=fun _ => by kernel_rfl
theorem xl0w.eq (v0 v1 v2 v3) {b} (h:xl0w.t some v0 v1 v2 v3=some b):xl0w v0 v1 v2 v3=some b:=eqF xl0w.u Try.f11 (callT_le E tab) rfl rfl rfl (xl0w.t (rR xl0w.mk) v0 v1 v2 v3) (by kernel_rfl) (by unfold xl0w.t; repeat' first | exact sR | exact sN | exact sL | apply sC | (apply sB; intro _)) h
def xs17.s6 (v0:List (Int × Int × Bool)) (v1:List (List Int × List Int × Bool)) (v2:List (Int × Int × Bool)) (v3:List (List Int × List Int × Bool)) (v4:List Bool) (v5:List (Int × Int × Int × Int)) (v6:Int) (v7:Int):List Cell:=nn 4 (⟨(.box false),[.d .deep Yc v0,.d .deep Yb v1],false,false,false,0,0⟩::nn 2 (⟨(.box false),[.d .deep Yc v2,.d .deep Yb v3],false,false,false,0,0⟩::nn 1 (vc (.d .deep (.sl .bool) v4)::nn 17 (vc (.d .fro Ya v5)::vc (iL v6)::vc (iL v7)::nn 18 ([])))))
def xs17.q6:=fun v0 v1 v2 v3 v4 v5 v6 v7 => loopAtL E (callT E tab) 19 Try.f19 2 [.r,.r,.r,.r,.l,.r,.b] (xs17.s6 v0 v1 v2 v3 v4 v5 v6 v7)
def xs17.l6:=fun v0 v1 v2 v3 v4 v5 v6 v7 => tOf xs17.mk (xs17.q6 v0 v1 v2 v3 v4 v5 v6 v7)
def xs17.t {γ:Type} (ret:((List (Int × Int × Bool)) × (List (List Int × List Int × Bool)) × (List Bool) × Bool)→Option γ) (lp6:(List (Int × Int × Bool))→(List (List Int × List Int × Bool))→(List (Int × Int × Bool))→(List (List Int × List Int × Bool))→(List Bool)→(List (Int × Int × Int × Int))→Int→Int→Option γ) (v0:List Int) (v1:List (Int × Int × Int × Int)):Option γ :=
 (xs1e (v0)).bind fun (r0:(List (Int × Int × Bool)) × (List (List Int × List Int × Bool)) × Bool) =>
 bif !r0.snd.snd then
 ret ([],[],[],Bool.false)
 else
 bif decide ((↑v1.length:Int) > (120:Int)) then
 ret ([],[],[],Bool.false)
 else
 lp6 ([]) ([]) (r0.fst) (r0.snd.fst) ([]) (v1) ((↑v1.length:Int)) ((0:Int))
def xs17.t6 {γ:Type} (ret:((List (Int × Int × Bool)) × (List (List Int × List Int × Bool)) × (List Bool) × Bool)→Option γ) (lp6:(List (Int × Int × Bool))→(List (List Int × List Int × Bool))→(List (Int × Int × Bool))→(List (List Int × List Int × Bool))→(List Bool)→(List (Int × Int × Int × Int))→Int→Int→Option γ) (v0:List (Int × Int × Bool)) (v1:List (List Int × List Int × Bool)) (v2:List (Int × Int × Bool)) (v3:List (List Int × List Int × Bool)) (v4:List Bool) (v5:List (Int × Int × Int × Int)) (v6:Int) (v7:Int):Option γ :=
 bif decide (v7<v6) then
 bif decide ((0:Int)≤v7) then
 bif decide (v7.toNat<v5.length) then
 (xs18 (v2) (v3) ((v5.getD v7.toNat ((0:Int),(0:Int),(0:Int),(0:Int))).fst) ((v5.getD v7.toNat ((0:Int),(0:Int),(0:Int),(0:Int))).snd.fst) ((v5.getD v7.toNat ((0:Int),(0:Int),(0:Int),(0:Int))).snd.snd.fst) ((v5.getD v7.toNat ((0:Int),(0:Int),(0:Int),(0:Int))).snd.snd.snd)).bind fun (r1:(List (Int × Int × Bool)) × (List (List Int × List Int × Bool)) × Bool) =>
 bif r1.snd.snd then
 bif decide (v4.length+[r1.snd.snd].length≤(4294967296:Nat)) then
 lp6 (v0) (v1) (r1.fst) (r1.snd.fst) (v4 ++ [r1.snd.snd]) (v5) (v6) (IntKind.i64.wrap (v7+(1:Int)))
 else
 none
 else
 bif decide (v4.length+[r1.snd.snd].length≤(4294967296:Nat)) then
 lp6 (v0) (v1) (v2) (v3) (v4 ++ [r1.snd.snd]) (v5) (v6) (IntKind.i64.wrap (v7+(1:Int)))
 else
 none
 else
 none
 else
 none
 else
 ret (v2,v3,v4,Bool.true)
theorem xs17.u:∀ b,xs17.un (xs17.mk b)=b:=fun _ => by kernel_rfl
theorem xs17.eq (v0 v1) {b} (h:xs17.t some xs17.l6 v0 v1=some b):xs17 v0 v1=some b:=eqF xs17.u Try.f19 (callT_le E tab) rfl rfl rfl (xs17.t (rR xs17.mk) xs17.q6 v0 v1) (by kernel_rfl) (by unfold xs17.t; repeat' first | exact sR | exact sN | exact sL | apply sC | (apply sB; intro _)) h
theorem xs17.eq6 (v0 v1 v2 v3 v4 v5 v6 v7) {b} (h:xs17.t6 some xs17.l6 v0 v1 v2 v3 v4 v5 v6 v7=some b):xs17.l6 v0 v1 v2 v3 v4 v5 v6 v7=some b:=eqL xs17.u (xs17.t6 (rR xs17.mk) xs17.q6 v0 v1 v2 v3 v4 v5 v6 v7) (by kernel_rfl) (by unfold xs17.t6; repeat' first | exact sR | exact sN | exact sL | apply sC | (apply sB; intro _)) h
def xs1e.s3 (v0:List Int) (v1:List (Int × Int × Bool)) (v2:List (List Int × List Int × Bool)) (v3:List (Int × Int × Bool)) (v4:List (List Int × List Int × Bool)) (v5:List Int) (v6:Int) (v7:Int):List Cell:=vc (.d .fro (.sl (.int .i64)) v0)::nn 1 (⟨(.box false),[.d .deep Yc v1,.d .deep Yb v2],false,false,false,0,0⟩::nn 1 (⟨(.box false),[.d .deep Yc v3,.d .deep Yb v4],false,false,false,0,0⟩::nn 3 (vc (.d .fro (.sl (.int .i64)) v5)::vc (iL v6)::vc (iL v7)::nn 23 ([]))))
def xs1e.q3:=fun v0 v1 v2 v3 v4 v5 v6 v7 => loopAtL E (callT E tab) 61 Try.f61 1 [.r,.r,.l,.r,.b] (xs1e.s3 v0 v1 v2 v3 v4 v5 v6 v7)
def xs1e.l3:=fun v0 v1 v2 v3 v4 v5 v6 v7 => tOf xs1e.mk (xs1e.q3 v0 v1 v2 v3 v4 v5 v6 v7)
def xs1e.t {γ:Type} (ret:((List (Int × Int × Bool)) × (List (List Int × List Int × Bool)) × Bool)→Option γ) (lp3:(List Int)→(List (Int × Int × Bool))→(List (List Int × List Int × Bool))→(List (Int × Int × Bool))→(List (List Int × List Int × Bool))→(List Int)→Int→Int→Option γ) (v0:List Int):Option γ :=
 lp3 (v0) ([]) ([]) ([]) ([]) (v0) ((↑v0.length:Int)) ((0:Int))
def xs1e.t3 {γ:Type} (ret:((List (Int × Int × Bool)) × (List (List Int × List Int × Bool)) × Bool)→Option γ) (lp3:(List Int)→(List (Int × Int × Bool))→(List (List Int × List Int × Bool))→(List (Int × Int × Bool))→(List (List Int × List Int × Bool))→(List Int)→Int→Int→Option γ) (v0:List Int) (v1:List (Int × Int × Bool)) (v2:List (List Int × List Int × Bool)) (v3:List (Int × Int × Bool)) (v4:List (List Int × List Int × Bool)) (v5:List Int) (v6:Int) (v7:Int):Option γ :=
 bif decide (v7<v6) then
 bif decide ((0:Int)≤v7) then
 bif decide (v7.toNat<v5.length) then
 bif decide (v3.length+[(v5.getD v7.toNat (0:Int),(0:Int),Bool.false)].length≤(4294967296:Nat)) then
 lp3 (v0) (v1) (v2) (v3 ++ [(v5.getD v7.toNat (0:Int),(0:Int),Bool.false)]) (v4) (v5) (v6) (IntKind.i64.wrap (v7+(1:Int)))
 else
 none
 else
 none
 else
 none
 else
 bif decide   (IntKind.i64.wrap ((↑v0.length:Int) * (↑v0.length:Int))=    IntKind.i64.wrap ((↑v0.length:Int) * (↑v0.length:Int))) then
 bif decide ((0:Int)≤IntKind.i64.wrap ((↑v0.length:Int) * (↑v0.length:Int))) then
 bif decide   (IntKind.i64.wrap ((↑v0.length:Int) * (↑v0.length:Int)) * (↑((1:Nat)+((1:Nat)+(1:Nat))):Int)≤    (4398046511104:Int)) then
 (xs16 (v3) (List.replicate (IntKind.i64.wrap ((↑v0.length:Int) * (↑v0.length:Int))).toNat ([],[],Bool.false))).bind fun (r0:Bool) =>
 bif !r0 then
 ret ([],[],Bool.false)
 else
 ret (v3,List.replicate (IntKind.i64.wrap ((↑v0.length:Int) * (↑v0.length:Int))).toNat ([],[],Bool.false),Bool.true)
 else
 none
 else
 none
 else
 none
theorem xs1e.u:∀ b,xs1e.un (xs1e.mk b)=b:=fun _ => by kernel_rfl
theorem xs1e.eq (v0) {b} (h:xs1e.t some xs1e.l3 v0=some b):xs1e v0=some b:=eqF xs1e.u Try.f61 (callT_le E tab) rfl rfl rfl (xs1e.t (rR xs1e.mk) xs1e.q3 v0) (by kernel_rfl) (by unfold xs1e.t; repeat' first | exact sR | exact sN | exact sL | apply sC | (apply sB; intro _)) h
theorem xs1e.eq3 (v0 v1 v2 v3 v4 v5 v6 v7) {b} (h:xs1e.t3 some xs1e.l3 v0 v1 v2 v3 v4 v5 v6 v7=some b):xs1e.l3 v0 v1 v2 v3 v4 v5 v6 v7=some b:=eqL xs1e.u (xs1e.t3 (rR xs1e.mk) xs1e.q3 v0 v1 v2 v3 v4 v5 v6 v7) (by kernel_rfl) (by unfold xs1e.t3; repeat' first | exact sR | exact sN | exact sL | apply sC | (apply sB; intro _)) h
def xs16.s23 (v0:List (Int × Int × Bool)) (v1:List (List Int × List Int × Bool)) (v2:Int) (v3:Int) (v4:Int) (v5:List Int) (v6:List Int) (v7:Bool) (v8:List (List Int × List Int × Bool)) (v9:Int) (v10:Int) (v11:List Int) (v12:Int) (v13:Int):List Cell:=nn 1 (⟨(.box false),[.d .fro Yc v0,.d .fro Yb v1],false,false,false,0,0⟩::nn 1 (vc (iL v2)::vc (iL v3)::nn 2 (vc (iL v4)::⟨(.box false),[.d .fro (.sl (.int .i64)) v5,.d .fro (.sl (.int .i64)) v6,bL v7],false,false,false,0,0⟩::nn 55 (vc (.d .fro Yb v8)::vc (iL v9)::vc (iL v10)::nn 19 (vc (.d .fro (.sl (.int .i64)) v11)::vc (iL v12)::vc (iL v13)::nn 73 ([]))))))
def xs16.q23:=fun v0 v1 v2 v3 v4 v5 v6 v7 v8 v9 v10 v11 v12 v13 => loopAtL E (callT E tab) 43 Try.f43 1 [.r,.r,.r,.r,.r,.l,.r,.b,.o,.r,.r,.l,.b,.r,.r,.l,.r,.b] (xs16.s23 v0 v1 v2 v3 v4 v5 v6 v7 v8 v9 v10 v11 v12 v13)
def xs16.l23:=fun v0 v1 v2 v3 v4 v5 v6 v7 v8 v9 v10 v11 v12 v13 => tOf xs16.mk (xs16.q23 v0 v1 v2 v3 v4 v5 v6 v7 v8 v9 v10 v11 v12 v13)
def xs16.s16 (v0:List (Int × Int × Bool)) (v1:List (List Int × List Int × Bool)) (v2:Int) (v3:Int) (v4:Int) (v5:List Int) (v6:List Int) (v7:Bool) (v8:List (List Int × List Int × Bool)) (v9:Int) (v10:Int) (v11:List Int) (v12:Int) (v13:Int):List Cell:=nn 1 (⟨(.box false),[.d .fro Yc v0,.d .fro Yb v1],false,false,false,0,0⟩::nn 1 (vc (iL v2)::vc (iL v3)::nn 2 (vc (iL v4)::⟨(.box false),[.d .fro (.sl (.int .i64)) v5,.d .fro (.sl (.int .i64)) v6,bL v7],false,false,false,0,0⟩::nn 55 (vc (.d .fro Yb v8)::vc (iL v9)::vc (iL v10)::nn 5 (vc (.d .fro (.sl (.int .i64)) v11)::vc (iL v12)::vc (iL v13)::nn 87 ([]))))))
def xs16.q16:=fun v0 v1 v2 v3 v4 v5 v6 v7 v8 v9 v10 v11 v12 v13 => loopAtL E (callT E tab) 43 Try.f43 1 [.r,.r,.r,.r,.r,.l,.r,.b,.o,.r,.r,.l,.b,.r,.l,.r,.b] (xs16.s16 v0 v1 v2 v3 v4 v5 v6 v7 v8 v9 v10 v11 v12 v13)
def xs16.l16:=fun v0 v1 v2 v3 v4 v5 v6 v7 v8 v9 v10 v11 v12 v13 => tOf xs16.mk (xs16.q16 v0 v1 v2 v3 v4 v5 v6 v7 v8 v9 v10 v11 v12 v13)
def xs16.s13 (v0:List (Int × Int × Bool)) (v1:List (List Int × List Int × Bool)) (v2:Int) (v3:Int) (v4:List (List Int × List Int × Bool)) (v5:Int) (v6:Int):List Cell:=nn 1 (⟨(.box false),[.d .fro Yc v0,.d .fro Yb v1],false,false,false,0,0⟩::nn 1 (vc (iL v2)::vc (iL v3)::nn 59 (vc (.d .fro Yb v4)::vc (iL v5)::vc (iL v6)::nn 95 ([]))))
def xs16.q13:=fun v0 v1 v2 v3 v4 v5 v6 => loopAtL E (callT E tab) 43 Try.f43 1 [.r,.r,.r,.r,.r,.l,.r,.b] (xs16.s13 v0 v1 v2 v3 v4 v5 v6)
def xs16.l13:=fun v0 v1 v2 v3 v4 v5 v6 => tOf xs16.mk (xs16.q13 v0 v1 v2 v3 v4 v5 v6)
def xs16.s6 (v0:List (Int × Int × Bool)) (v1:List (List Int × List Int × Bool)) (v2:Int) (v3:Int) (v4:List (Int × Int × Bool)) (v5:Int) (v6:Int):List Cell:=nn 1 (⟨(.box false),[.d .fro Yc v0,.d .fro Yb v1],false,false,false,0,0⟩::nn 1 (vc (iL v2)::vc (iL v3)::nn 24 (vc (.d .fro Yc v4)::vc (iL v5)::vc (iL v6)::nn 130 ([]))))
def xs16.q6:=fun v0 v1 v2 v3 v4 v5 v6 => loopAtL E (callT E tab) 43 Try.f43 1 [.r,.r,.r,.r,.l,.r,.b] (xs16.s6 v0 v1 v2 v3 v4 v5 v6)
def xs16.l6:=fun v0 v1 v2 v3 v4 v5 v6 => tOf xs16.mk (xs16.q6 v0 v1 v2 v3 v4 v5 v6)
def xs16.t {γ:Type} (ret:(Bool)→Option γ) (lp6:(List (Int × Int × Bool))→(List (List Int × List Int × Bool))→Int→Int→(List (Int × Int × Bool))→Int→Int→Option γ) (v0:List (Int × Int × Bool)) (v1:List (List Int × List Int × Bool)):Option γ :=
 (xs1n ((↑v0.length:Int)) ((2:Int)) ((4:Int))).bind fun (r0:Bool) =>
 bif !r0 then
 ret (Bool.false)
 else
 bif (↑v1.length:Int) != IntKind.i64.wrap ((↑v0.length:Int) * (↑v0.length:Int)) then
 ret (Bool.false)
 else
 lp6 (v0) (v1) ((↑v0.length:Int)) ((0:Int)) (v0) ((↑v0.length:Int)) ((0:Int))
def xs16.t23 {γ:Type} (ret:(Bool)→Option γ) (lp23:(List (Int × Int × Bool))→(List (List Int × List Int × Bool))→Int→Int→Int→(List Int)→(List Int)→Bool→(List (List Int × List Int × Bool))→Int→Int→(List Int)→Int→Int→Option γ) (lp13:(List (Int × Int × Bool))→(List (List Int × List Int × Bool))→Int→Int→(List (List Int × List Int × Bool))→Int→Int→Option γ) (v0:List (Int × Int × Bool)) (v1:List (List Int × List Int × Bool)) (v2:Int) (v3:Int) (v4:Int) (v5:List Int) (v6:List Int) (v7:Bool) (v8:List (List Int × List Int × Bool)) (v9:Int) (v10:Int) (v11:List Int) (v12:Int) (v13:Int):Option γ :=
 bif decide (v13<v12) then
 bif decide ((0:Int)≤v13) then
 bif decide (v13.toNat<v11.length) then
 bif v11.getD v13.toNat (0:Int) == (0:Int) then
 ret (Bool.false)
 else
 (xs10 (v11.getD v13.toNat (0:Int))).bind fun (r4:Bool) =>
 bif !r4 then
 ret (Bool.false)
 else
 lp23 (v0) (v1) (v2) (IntKind.i64.wrap (v3+v11.getD v13.toNat (0:Int))) (v4) (v5) (v6) (v7) (v8) (v9) (v10) (v11) (v12) (IntKind.i64.wrap (v13+(1:Int)))
 else
 none
 else
 none
 else
 bif decide ((↑v5.length:Int) > (12:Int)) then
 ret (Bool.false)
 else
 bif decide ((↑v6.length:Int) > (200:Int)) then
 ret (Bool.false)
 else
 bif decide (v2≠(0:Int)) then
 bif decide (v2≠(0:Int)) then
 bif IntKind.i64.wrap (v4.tdiv v2) == v4.tmod v2 then
 bif decide ((↑v5.length:Int) > (0:Int)) then
 ret (Bool.false)
 else
 bif decide ((↑v6.length:Int) > (0:Int)) then
 ret (Bool.false)
 else
 bif v7 then
 ret (Bool.false)
 else
 bif decide (v2≠(0:Int)) then
 bif decide ((0:Int)≤v4.tmod v2) then
 bif decide ((v4.tmod v2).toNat<v0.length) then
 bif !(v0.getD (v4.tmod v2).toNat ((0:Int),(0:Int),Bool.false)).snd.snd then
 bif v7 then
 ret (Bool.false)
 else
 bif decide ((↑v6.length:Int) > (0:Int)) then
 ret (Bool.false)
 else
 lp13 (v0) (v1) (v2) (v3) (v8) (v9) (IntKind.i64.wrap (v10+(1:Int)))
 else
 lp13 (v0) (v1) (v2) (v3) (v8) (v9) (IntKind.i64.wrap (v10+(1:Int)))
 else
 none
 else
 none
 else
 none
 else
 bif decide (v2≠(0:Int)) then
 bif decide ((0:Int)≤v4.tmod v2) then
 bif decide ((v4.tmod v2).toNat<v0.length) then
 bif !(v0.getD (v4.tmod v2).toNat ((0:Int),(0:Int),Bool.false)).snd.snd then
 bif v7 then
 ret (Bool.false)
 else
 bif decide ((↑v6.length:Int) > (0:Int)) then
 ret (Bool.false)
 else
 lp13 (v0) (v1) (v2) (v3) (v8) (v9) (IntKind.i64.wrap (v10+(1:Int)))
 else
 lp13 (v0) (v1) (v2) (v3) (v8) (v9) (IntKind.i64.wrap (v10+(1:Int)))
 else
 none
 else
 none
 else
 none
 else
 none
 else
 none
def xs16.t16 {γ:Type} (ret:(Bool)→Option γ) (lp23:(List (Int × Int × Bool))→(List (List Int × List Int × Bool))→Int→Int→Int→(List Int)→(List Int)→Bool→(List (List Int × List Int × Bool))→Int→Int→(List Int)→Int→Int→Option γ) (lp16:(List (Int × Int × Bool))→(List (List Int × List Int × Bool))→Int→Int→Int→(List Int)→(List Int)→Bool→(List (List Int × List Int × Bool))→Int→Int→(List Int)→Int→Int→Option γ) (v0:List (Int × Int × Bool)) (v1:List (List Int × List Int × Bool)) (v2:Int) (v3:Int) (v4:Int) (v5:List Int) (v6:List Int) (v7:Bool) (v8:List (List Int × List Int × Bool)) (v9:Int) (v10:Int) (v11:List Int) (v12:Int) (v13:Int):Option γ :=
 bif decide (v13<v12) then
 bif decide ((0:Int)≤v13) then
 bif decide (v13.toNat<v11.length) then
 (xs10 (v11.getD v13.toNat (0:Int))).bind fun (r3:Bool) =>
 bif !r3 then
 ret (Bool.false)
 else
 lp16 (v0) (v1) (v2) (IntKind.i64.wrap (v3+v11.getD v13.toNat (0:Int))) (v4) (v5) (v6) (v7) (v8) (v9) (v10) (v11) (v12) (IntKind.i64.wrap (v13+(1:Int)))
 else
 none
 else
 none
 else
 lp23 (v0) (v1) (v2) (v3) (v4) (v5) (v6) (v7) (v8) (v9) (v10) (v6) ((↑v6.length:Int)) ((0:Int))
def xs16.t13 {γ:Type} (ret:(Bool)→Option γ) (lp16:(List (Int × Int × Bool))→(List (List Int × List Int × Bool))→Int→Int→Int→(List Int)→(List Int)→Bool→(List (List Int × List Int × Bool))→Int→Int→(List Int)→Int→Int→Option γ) (v0:List (Int × Int × Bool)) (v1:List (List Int × List Int × Bool)) (v2:Int) (v3:Int) (v4:List (List Int × List Int × Bool)) (v5:Int) (v6:Int):Option γ :=
 bif decide (v6<v5) then
 bif decide ((0:Int)≤v6) then
 bif decide (v6.toNat<v4.length) then
 lp16 (v0) (v1) (v2) (v3) (v6) ((v4.getD v6.toNat ([],[],Bool.false)).fst) ((v4.getD v6.toNat ([],[],Bool.false)).snd.fst) ((v4.getD v6.toNat ([],[],Bool.false)).snd.snd) (v4) (v5) (v6) ((v4.getD v6.toNat ([],[],Bool.false)).fst) ((↑(v4.getD v6.toNat ([],[],Bool.false)).fst.length:Int)) ((0:Int))
 else
 none
 else
 none
 else
 ret (decide (v3≤(2000000000:Int)))
def xs16.t6 {γ:Type} (ret:(Bool)→Option γ) (lp13:(List (Int × Int × Bool))→(List (List Int × List Int × Bool))→Int→Int→(List (List Int × List Int × Bool))→Int→Int→Option γ) (lp6:(List (Int × Int × Bool))→(List (List Int × List Int × Bool))→Int→Int→(List (Int × Int × Bool))→Int→Int→Option γ) (v0:List (Int × Int × Bool)) (v1:List (List Int × List Int × Bool)) (v2:Int) (v3:Int) (v4:List (Int × Int × Bool)) (v5:Int) (v6:Int):Option γ :=
 bif decide (v6<v5) then
 bif decide ((0:Int)≤v6) then
 bif decide (v6.toNat<v4.length) then
 (xs1n ((v4.getD v6.toNat ((0:Int),(0:Int),Bool.false)).fst) ((0:Int)) ((2000000000:Int))).bind fun (r1:Bool) =>
 bif !r1 then
 ret (Bool.false)
 else
 (xs1n ((v4.getD v6.toNat ((0:Int),(0:Int),Bool.false)).snd.fst) ((0:Int)) ((2000000000:Int))).bind fun (r2:Bool) =>
 bif !r2 then
 ret (Bool.false)
 else
 bif !(v4.getD v6.toNat ((0:Int),(0:Int),Bool.false)).snd.snd then
 bif (v4.getD v6.toNat ((0:Int),(0:Int),Bool.false)).snd.fst != (0:Int) then
 ret (Bool.false)
 else
 lp6 (v0) (v1) (v2) (IntKind.i64.wrap   (v3+    IntKind.i64.wrap       ((v4.getD v6.toNat ((0:Int),(0:Int),Bool.false)).fst+        (v4.getD v6.toNat ((0:Int),(0:Int),Bool.false)).snd.fst))) (v4) (v5) (IntKind.i64.wrap (v6+(1:Int)))
 else
 lp6 (v0) (v1) (v2) (IntKind.i64.wrap   (v3+    IntKind.i64.wrap       ((v4.getD v6.toNat ((0:Int),(0:Int),Bool.false)).fst+        (v4.getD v6.toNat ((0:Int),(0:Int),Bool.false)).snd.fst))) (v4) (v5) (IntKind.i64.wrap (v6+(1:Int)))
 else
 none
 else
 none
 else
 lp13 (v0) (v1) (v2) (v3) (v1) ((↑v1.length:Int)) ((0:Int))
theorem xs16.u:∀ b,xs16.un (xs16.mk b)=b:=fun _ => by kernel_rfl
theorem xs16.eq (v0 v1) {b} (h:xs16.t some xs16.l6 v0 v1=some b):xs16 v0 v1=some b:=eqF xs16.u Try.f43 (callT_le E tab) rfl rfl rfl (xs16.t (rR xs16.mk) xs16.q6 v0 v1) (by kernel_rfl) (by unfold xs16.t; repeat' first | exact sR | exact sN | exact sL | apply sC | (apply sB; intro _)) h
theorem xs16.eq23 (v0 v1 v2 v3 v4 v5 v6 v7 v8 v9 v10 v11 v12 v13) {b} (h:xs16.t23 some xs16.l23 xs16.l13 v0 v1 v2 v3 v4 v5 v6 v7 v8 v9 v10 v11 v12 v13=some b):xs16.l23 v0 v1 v2 v3 v4 v5 v6 v7 v8 v9 v10 v11 v12 v13=some b:=eqL xs16.u (xs16.t23 (rR xs16.mk) xs16.q23 xs16.q13 v0 v1 v2 v3 v4 v5 v6 v7 v8 v9 v10 v11 v12 v13) (by kernel_rfl) (by unfold xs16.t23; repeat' first | exact sR | exact sN | exact sL | apply sC | (apply sB; intro _)) h
theorem xs16.eq16 (v0 v1 v2 v3 v4 v5 v6 v7 v8 v9 v10 v11 v12 v13) {b} (h:xs16.t16 some xs16.l23 xs16.l16 v0 v1 v2 v3 v4 v5 v6 v7 v8 v9 v10 v11 v12 v13=some b):xs16.l16 v0 v1 v2 v3 v4 v5 v6 v7 v8 v9 v10 v11 v12 v13=some b:=eqL xs16.u (xs16.t16 (rR xs16.mk) xs16.q23 xs16.q16 v0 v1 v2 v3 v4 v5 v6 v7 v8 v9 v10 v11 v12 v13) (by kernel_rfl) (by unfold xs16.t16; repeat' first | exact sR | exact sN | exact sL | apply sC | (apply sB; intro _)) h
theorem xs16.eq13 (v0 v1 v2 v3 v4 v5 v6) {b} (h:xs16.t13 some xs16.l16 v0 v1 v2 v3 v4 v5 v6=some b):xs16.l13 v0 v1 v2 v3 v4 v5 v6=some b:=eqL xs16.u (xs16.t13 (rR xs16.mk) xs16.q16 v0 v1 v2 v3 v4 v5 v6) (by kernel_rfl) (by unfold xs16.t13; repeat' first | exact sR | exact sN | exact sL | apply sC | (apply sB; intro _)) h
theorem xs16.eq6 (v0 v1 v2 v3 v4 v5 v6) {b} (h:xs16.t6 some xs16.l13 xs16.l6 v0 v1 v2 v3 v4 v5 v6=some b):xs16.l6 v0 v1 v2 v3 v4 v5 v6=some b:=eqL xs16.u (xs16.t6 (rR xs16.mk) xs16.q13 xs16.q6 v0 v1 v2 v3 v4 v5 v6) (by kernel_rfl) (by unfold xs16.t6; repeat' first | exact sR | exact sN | exact sL | apply sC | (apply sB; intro _)) h
def xs1n.t {γ:Type} (ret:(Bool)→Option γ) (v0:Int) (v1:Int) (v2:Int):Option γ :=
 bif decide (v0 ≥ v1) then
 ret (decide (v0≤v2))
 else
 ret (Bool.false)
theorem xs1n.u:∀ b,xs1n.un (xs1n.mk b)=b:=fun _ => by kernel_rfl
theorem xs1n.eq (v0 v1 v2) {b} (h:xs1n.t some v0 v1 v2=some b):xs1n v0 v1 v2=some b:=eqF xs1n.u Try.f76 (callT_le E tab) rfl rfl rfl (xs1n.t (rR xs1n.mk) v0 v1 v2) (by kernel_rfl) (by unfold xs1n.t; repeat' first | exact sR | exact sN | exact sL | apply sC | (apply sB; intro _)) h
def xs10.t {γ:Type} (ret:(Bool)→Option γ) (v0:Int):Option γ :=
 (xs1n (v0) ((0:Int)) ((1000000:Int))).bind fun (r0:Bool) =>
 ret (r0)
theorem xs10.u:∀ b,xs10.un (xs10.mk b)=b:=fun _ => by kernel_rfl
theorem xs10.eq (v0) {b} (h:xs10.t some v0=some b):xs10 v0=some b:=eqF xs10.u Try.f77 (callT_le E tab) rfl rfl rfl (xs10.t (rR xs10.mk) v0) (by kernel_rfl) (by unfold xs10.t; repeat' first | exact sR | exact sN | exact sL | apply sC | (apply sB; intro _)) h
def xs18.t {γ:Type} (ret:((List (Int × Int × Bool)) × (List (List Int × List Int × Bool)) × Bool)→Option γ) (v0:List (Int × Int × Bool)) (v1:List (List Int × List Int × Bool)) (v2:Int) (v3:Int) (v4:Int) (v5:Int):Option γ :=
 (xs16 (v0) (v1)).bind fun (r0:Bool) =>
 bif !r0 then
 ret ([],[],Bool.false)
 else
 (xs1l (v0) (v1)).bind fun (r1:(List (Int × Int × Bool)) × (List (List Int × List Int × Bool))) =>
 (xs0u (r1.fst) (r1.snd) (v2) (v3) (v4) (v5)).bind fun (r2:(List (Int × Int × Bool)) × (List (List Int × List Int × Bool)) × Bool) =>
 bif !r2.snd.snd then
 ret ([],[],Bool.false)
 else
 (xs16 (r2.fst) (r2.snd.fst)).bind fun (r3:Bool) =>
 bif !r3 then
 ret ([],[],Bool.false)
 else
 ret (r2.fst,r2.snd.fst,Bool.true)
theorem xs18.u:∀ b,xs18.un (xs18.mk b)=b:=fun _ => by kernel_rfl
theorem xs18.eq (v0 v1 v2 v3 v4 v5) {b} (h:xs18.t some v0 v1 v2 v3 v4 v5=some b):xs18 v0 v1 v2 v3 v4 v5=some b:=eqF xs18.u Try.f9 (callT_le E tab) rfl rfl rfl (xs18.t (rR xs18.mk) v0 v1 v2 v3 v4 v5) (by kernel_rfl) (by unfold xs18.t; repeat' first | exact sR | exact sN | exact sL | apply sC | (apply sB; intro _)) h
def xs1l.s3 (v0:List (Int × Int × Bool)) (v1:List (List Int × List Int × Bool)) (v2:List (Int × Int × Bool)) (v3:List (List Int × List Int × Bool)) (v4:List (List Int × List Int × Bool)) (v5:Int) (v6:Int):List Cell:=nn 2 (⟨(.box false),[.d .deep Yc v0,.d .deep Yb v1],false,false,false,0,0⟩::⟨(.box false),[.d .deep Yc v2,.d .deep Yb v3],false,false,false,0,0⟩::nn 8 (vc (.d .fro Yb v4)::vc (iL v5)::vc (iL v6)::nn 21 ([])))
def xs1l.q3:=fun v0 v1 v2 v3 v4 v5 v6 => loopAtL E (callT E tab) 45 Try.f45 1 [.r,.r,.l,.r,.b] (xs1l.s3 v0 v1 v2 v3 v4 v5 v6)
def xs1l.l3:=fun v0 v1 v2 v3 v4 v5 v6 => tOf xs1l.mk (xs1l.q3 v0 v1 v2 v3 v4 v5 v6)
def xs1l.t {γ:Type} (ret:((List (Int × Int × Bool)) × (List (List Int × List Int × Bool)))→Option γ) (lp3:(List (Int × Int × Bool))→(List (List Int × List Int × Bool))→(List (Int × Int × Bool))→(List (List Int × List Int × Bool))→(List (List Int × List Int × Bool))→Int→Int→Option γ) (v0:List (Int × Int × Bool)) (v1:List (List Int × List Int × Bool)):Option γ :=
 bif decide (([]:List Int).length+v0.length≤(4294967296:Nat)) then
 lp3 ([]) ([]) ([] ++ v0) ([]) (v1) ((↑v1.length:Int)) ((0:Int))
 else
 none
def xs1l.t3 {γ:Type} (ret:((List (Int × Int × Bool)) × (List (List Int × List Int × Bool)))→Option γ) (lp3:(List (Int × Int × Bool))→(List (List Int × List Int × Bool))→(List (Int × Int × Bool))→(List (List Int × List Int × Bool))→(List (List Int × List Int × Bool))→Int→Int→Option γ) (v0:List (Int × Int × Bool)) (v1:List (List Int × List Int × Bool)) (v2:List (Int × Int × Bool)) (v3:List (List Int × List Int × Bool)) (v4:List (List Int × List Int × Bool)) (v5:Int) (v6:Int):Option γ :=
 bif decide (v6<v5) then
 bif decide ((0:Int)≤v6) then
 bif decide (v6.toNat<v4.length) then
 bif decide (([]:List Int).length+(v4.getD v6.toNat ([],[],Bool.false)).fst.length≤(4294967296:Nat)) then
 bif decide (([]:List Int).length+(v4.getD v6.toNat ([],[],Bool.false)).snd.fst.length≤(4294967296:Nat)) then
 bif decide   (v3.length+      [([] ++ (v4.getD v6.toNat ([],[],Bool.false)).fst,[] ++ (v4.getD v6.toNat ([],[],Bool.false)).snd.fst,            (v4.getD v6.toNat ([],[],Bool.false)).snd.snd)].length≤    (4294967296:Nat)) then
 lp3 (v0) (v1) (v2) (v3 ++   [([] ++ (v4.getD v6.toNat ([],[],Bool.false)).fst,[] ++ (v4.getD v6.toNat ([],[],Bool.false)).snd.fst,      (v4.getD v6.toNat ([],[],Bool.false)).snd.snd)]) (v4) (v5) (IntKind.i64.wrap (v6+(1:Int)))
 else
 none
 else
 none
 else
 none
 else
 none
 else
 none
 else
 ret (v2,v3)
theorem xs1l.u:∀ b,xs1l.un (xs1l.mk b)=b:=fun _ => by kernel_rfl
theorem xs1l.eq (v0 v1) {b} (h:xs1l.t some xs1l.l3 v0 v1=some b):xs1l v0 v1=some b:=eqF xs1l.u Try.f45 (callT_le E tab) rfl rfl rfl (xs1l.t (rR xs1l.mk) xs1l.q3 v0 v1) (by kernel_rfl) (by unfold xs1l.t; repeat' first | exact sR | exact sN | exact sL | apply sC | (apply sB; intro _)) h
theorem xs1l.eq3 (v0 v1 v2 v3 v4 v5 v6) {b} (h:xs1l.t3 some xs1l.l3 v0 v1 v2 v3 v4 v5 v6=some b):xs1l.l3 v0 v1 v2 v3 v4 v5 v6=some b:=eqL xs1l.u (xs1l.t3 (rR xs1l.mk) xs1l.q3 v0 v1 v2 v3 v4 v5 v6) (by kernel_rfl) (by unfold xs1l.t3; repeat' first | exact sR | exact sN | exact sL | apply sC | (apply sB; intro _)) h
def xs0u.t {γ:Type} (ret:((List (Int × Int × Bool)) × (List (List Int × List Int × Bool)) × Bool)→Option γ) (v0:List (Int × Int × Bool)) (v1:List (List Int × List Int × Bool)) (v2:Int) (v3:Int) (v4:Int) (v5:Int):Option γ :=
 bif decide (v3<(0:Int)) then
 ret (v0,v1,Bool.false)
 else
 bif decide (v3 ≥ (↑v0.length:Int)) then
 ret (v0,v1,Bool.false)
 else
 bif v2 == (3:Int) then
 bif decide ((0:Int)≤v3) then
 bif decide (v3.toNat<v0.length) then
 bif decide (v3.toNat<v0.length) then
 bif (v0.getD v3.toNat ((0:Int),(0:Int),Bool.false)).snd.snd then
 ret (v0,v1,Bool.false)
 else
 (xs0t (v0) (v1) (v3) ((-1:Int))).bind fun (r0:(List (Int × Int × Bool)) × (List (List Int × List Int × Bool)) × Bool) =>
 ret (r0.fst,r0.snd.fst,r0.snd.snd)
 else
 none
 else
 none
 else
 none
 else
 bif decide (v4<(0:Int)) then
 ret (v0,v1,Bool.false)
 else
 bif decide (v4 ≥ (↑v0.length:Int)) then
 ret (v0,v1,Bool.false)
 else
 bif v3 == v4 then
 ret (v0,v1,Bool.false)
 else
 bif decide ((0:Int)≤IntKind.i64.wrap (IntKind.i64.wrap (v3 * (↑v0.length:Int))+v4)) then
 bif decide ((IntKind.i64.wrap (IntKind.i64.wrap (v3 * (↑v0.length:Int))+v4)).toNat<v1.length) then
 bif decide ((IntKind.i64.wrap (IntKind.i64.wrap (v3 * (↑v0.length:Int))+v4)).toNat<v1.length) then
 bif decide ((IntKind.i64.wrap (IntKind.i64.wrap (v3 * (↑v0.length:Int))+v4)).toNat<v1.length) then
 bif decide ((IntKind.i64.wrap (IntKind.i64.wrap (v3 * (↑v0.length:Int))+v4)).toNat<v1.length) then
 bif v2 == (1:Int) then
 bif decide ((0:Int)≤v3) then
 bif decide (v3.toNat<v0.length) then
 bif decide (v3.toNat<v0.length) then
 (xs1n (v5) ((1:Int)) ((v0.getD v3.toNat ((0:Int),(0:Int),Bool.false)).fst)).bind fun (r1:Bool) =>
 bif !r1 then
 ret (v0,v1,Bool.false)
 else
 (xs10 (v5)).bind fun (r2:Bool) =>
 bif !r2 then
 ret (v0,v1,Bool.false)
 else
 bif decide ((IntKind.i64.wrap (IntKind.i64.wrap (v3 * (↑v0.length:Int))+v4)).toNat<v1.length) then
 bif (↑(v1.getD (IntKind.i64.wrap (IntKind.i64.wrap (v3 * (↑v0.length:Int))+v4)).toNat             ([],[],Bool.false)).fst.length:    Int) ==   (12:Int) then
 ret (v0,v1,Bool.false)
 else
 bif decide ((0:Int)≤v3) then
 bif decide (v3.toNat<v0.length) then
 bif decide (v3.toNat<v0.length) then
 bif decide ((0:Int)≤v3) then
 bif decide (v3.toNat<v0.length) then
 bif decide (v3.toNat<v0.length) then
 bif decide ((IntKind.i64.wrap (IntKind.i64.wrap (v3 * (↑v0.length:Int))+v4)).toNat<v1.length) then
 bif decide   ((v1.getD (IntKind.i64.wrap (IntKind.i64.wrap (v3 * (↑v0.length:Int))+v4)).toNat             ([],[],Bool.false)).fst.length+      [v5].length≤    (4294967296:Nat)) then
 bif decide ((0:Int)≤IntKind.i64.wrap (IntKind.i64.wrap (v3 * (↑v0.length:Int))+v4)) then
 bif decide ((IntKind.i64.wrap (IntKind.i64.wrap (v3 * (↑v0.length:Int))+v4)).toNat<v1.length) then
 bif decide   ((IntKind.i64.wrap (IntKind.i64.wrap (v3 * (↑v0.length:Int))+v4)).toNat=    (IntKind.i64.wrap (IntKind.i64.wrap (v3 * (↑v0.length:Int))+v4)).toNat) then
 bif decide ((IntKind.i64.wrap (IntKind.i64.wrap (v3 * (↑v0.length:Int))+v4)).toNat<v1.length) then
 ret (v0.set v3.toNat   (IntKind.i64.wrap ((v0.getD v3.toNat ((0:Int),(0:Int),Bool.false)).fst - v5),    (v0.getD v3.toNat ((0:Int),(0:Int),Bool.false)).snd),v1.set (IntKind.i64.wrap (IntKind.i64.wrap (v3 * (↑v0.length:Int))+v4)).toNat   ((v1.getD (IntKind.i64.wrap (IntKind.i64.wrap (v3 * (↑v0.length:Int))+v4)).toNat           ([],[],Bool.false)).fst ++       [v5],    (v1.getD (IntKind.i64.wrap (IntKind.i64.wrap (v3 * (↑v0.length:Int))+v4)).toNat ([],[],Bool.false)).snd),Bool.true)
 else
 none
 else
 none
 else
 none
 else
 none
 else
 none
 else
 none
 else
 none
 else
 none
 else
 none
 else
 none
 else
 none
 else
 none
 else
 none
 else
 none
 else
 none
 else
 none
 else
 bif v2 == (2:Int) then
 bif decide ((IntKind.i64.wrap (IntKind.i64.wrap (v3 * (↑v0.length:Int))+v4)).toNat<v1.length) then
 bif (↑(v1.getD (IntKind.i64.wrap (IntKind.i64.wrap (v3 * (↑v0.length:Int))+v4)).toNat             ([],[],Bool.false)).fst.length:    Int) ==   (0:Int) then
 ret (v0,v1,Bool.false)
 else
 bif decide ((IntKind.i64.wrap (IntKind.i64.wrap (v3 * (↑v0.length:Int))+v4)).toNat<v1.length) then
 bif (↑(v1.getD (IntKind.i64.wrap (IntKind.i64.wrap (v3 * (↑v0.length:Int))+v4)).toNat               ([],[],Bool.false)).snd.fst.length:    Int) ==   (200:Int) then
 ret (v0,v1,Bool.false)
 else
 bif decide ((IntKind.i64.wrap (IntKind.i64.wrap (v3 * (↑v0.length:Int))+v4)).toNat<v1.length) then
 bif decide   (Int.toNat (0:Int)<    (v1.getD (IntKind.i64.wrap (IntKind.i64.wrap (v3 * (↑v0.length:Int))+v4)).toNat           ([],[],Bool.false)).fst.length) then
 bif decide ((IntKind.i64.wrap (IntKind.i64.wrap (v3 * (↑v0.length:Int))+v4)).toNat<v1.length) then
 bif decide   (Int.toNat (0:Int)<    (v1.getD (IntKind.i64.wrap (IntKind.i64.wrap (v3 * (↑v0.length:Int))+v4)).toNat           ([],[],Bool.false)).fst.length) then
 bif decide ((IntKind.i64.wrap (IntKind.i64.wrap (v3 * (↑v0.length:Int))+v4)).toNat<v1.length) then
 bif decide ((IntKind.i64.wrap (IntKind.i64.wrap (v3 * (↑v0.length:Int))+v4)).toNat<v1.length) then
 bif decide   ((Option.some (1:Int)).getD (0:Int)≤    (↑(v1.getD (IntKind.i64.wrap (IntKind.i64.wrap (v3 * (↑v0.length:Int))+v4)).toNat               ([],[],Bool.false)).fst.length:      Int)) then
 bif decide ((IntKind.i64.wrap (IntKind.i64.wrap (v3 * (↑v0.length:Int))+v4)).toNat<v1.length) then
 bif decide   (([]:List Int).length+      (List.drop ((Option.some (1:Int)).getD (0:Int)).toNat           (v1.getD (IntKind.i64.wrap (IntKind.i64.wrap (v3 * (↑v0.length:Int))+v4)).toNat               ([],[],Bool.false)).fst).length≤    (4294967296:Nat)) then
 bif decide ((0:Int)≤IntKind.i64.wrap (IntKind.i64.wrap (v3 * (↑v0.length:Int))+v4)) then
 bif decide ((IntKind.i64.wrap (IntKind.i64.wrap (v3 * (↑v0.length:Int))+v4)).toNat<v1.length) then
 bif decide ((IntKind.i64.wrap (IntKind.i64.wrap (v3 * (↑v0.length:Int))+v4)).toNat<v1.length) then
 bif decide   ((v1.getD (IntKind.i64.wrap (IntKind.i64.wrap (v3 * (↑v0.length:Int))+v4)).toNat             ([],[],Bool.false)).fst.getD       (Int.toNat (0:Int)) (0:Int) >     (0:Int)) then
 bif decide ((0:Int)≤v4) then
 bif decide (v4.toNat<v0.length) then
 bif decide (v4.toNat<v0.length) then
 bif decide ((0:Int)≤v4) then
 bif decide (v4.toNat<v0.length) then
 bif decide (v4.toNat<v0.length) then
 bif (v1.getD (IntKind.i64.wrap (IntKind.i64.wrap (v3 * (↑v0.length:Int))+v4)).toNat ([],[],Bool.false)).snd.snd then
 bif decide   ((IntKind.i64.wrap (IntKind.i64.wrap (v3 * (↑v0.length:Int))+v4)).toNat<    (v1.set (IntKind.i64.wrap (IntKind.i64.wrap (v3 * (↑v0.length:Int))+v4)).toNat         ([] ++             List.drop ((Option.some (1:Int)).getD (0:Int)).toNat               (v1.getD (IntKind.i64.wrap (IntKind.i64.wrap (v3 * (↑v0.length:Int))+v4)).toNat                   ([],[],Bool.false)).fst,          (v1.getD (IntKind.i64.wrap (IntKind.i64.wrap (v3 * (↑v0.length:Int))+v4)).toNat               ([],[],Bool.false)).snd)).length) then
 bif decide   (((v1.set (IntKind.i64.wrap (IntKind.i64.wrap (v3 * (↑v0.length:Int))+v4)).toNat                   ([] ++                       List.drop ((Option.some (1:Int)).getD (0:Int)).toNat                         (v1.getD (IntKind.i64.wrap (IntKind.i64.wrap (v3 * (↑v0.length:Int))+v4)).toNat                             ([],[],Bool.false)).fst,                    (v1.getD (IntKind.i64.wrap (IntKind.i64.wrap (v3 * (↑v0.length:Int))+v4)).toNat                         ([],[],Bool.false)).snd)).getD               (IntKind.i64.wrap (IntKind.i64.wrap (v3 * (↑v0.length:Int))+v4)).toNat               ([],[],Bool.false)).snd.fst.length+      [(v1.getD (IntKind.i64.wrap (IntKind.i64.wrap (v3 * (↑v0.length:Int))+v4)).toNat                   ([],[],Bool.false)).fst.getD             (Int.toNat (0:Int)) (0:Int)].length≤    (4294967296:Nat)) then
 bif decide ((0:Int)≤IntKind.i64.wrap (IntKind.i64.wrap (v3 * (↑v0.length:Int))+v4)) then
 bif decide   ((IntKind.i64.wrap (IntKind.i64.wrap (v3 * (↑v0.length:Int))+v4)).toNat<    (v1.set (IntKind.i64.wrap (IntKind.i64.wrap (v3 * (↑v0.length:Int))+v4)).toNat         ([] ++             List.drop ((Option.some (1:Int)).getD (0:Int)).toNat               (v1.getD (IntKind.i64.wrap (IntKind.i64.wrap (v3 * (↑v0.length:Int))+v4)).toNat                   ([],[],Bool.false)).fst,          (v1.getD (IntKind.i64.wrap (IntKind.i64.wrap (v3 * (↑v0.length:Int))+v4)).toNat               ([],[],Bool.false)).snd)).length) then
 bif decide   ((IntKind.i64.wrap (IntKind.i64.wrap (v3 * (↑v0.length:Int))+v4)).toNat=    (IntKind.i64.wrap (IntKind.i64.wrap (v3 * (↑v0.length:Int))+v4)).toNat) then
 bif decide   ((IntKind.i64.wrap (IntKind.i64.wrap (v3 * (↑v0.length:Int))+v4)).toNat<    (v1.set (IntKind.i64.wrap (IntKind.i64.wrap (v3 * (↑v0.length:Int))+v4)).toNat         ([] ++             List.drop ((Option.some (1:Int)).getD (0:Int)).toNat               (v1.getD (IntKind.i64.wrap (IntKind.i64.wrap (v3 * (↑v0.length:Int))+v4)).toNat                   ([],[],Bool.false)).fst,          (v1.getD (IntKind.i64.wrap (IntKind.i64.wrap (v3 * (↑v0.length:Int))+v4)).toNat               ([],[],Bool.false)).snd)).length) then
 ret (v0.set v4.toNat   (IntKind.i64.wrap       ((v0.getD v4.toNat ((0:Int),(0:Int),Bool.false)).fst+        (v1.getD (IntKind.i64.wrap (IntKind.i64.wrap (v3 * (↑v0.length:Int))+v4)).toNat                 ([],[],Bool.false)).fst.getD           (Int.toNat (0:Int)) (0:Int)),    (v0.getD v4.toNat ((0:Int),(0:Int),Bool.false)).snd),(v1.set (IntKind.i64.wrap (IntKind.i64.wrap (v3 * (↑v0.length:Int))+v4)).toNat       ([] ++           List.drop ((Option.some (1:Int)).getD (0:Int)).toNat             (v1.getD (IntKind.i64.wrap (IntKind.i64.wrap (v3 * (↑v0.length:Int))+v4)).toNat                 ([],[],Bool.false)).fst,        (v1.getD (IntKind.i64.wrap (IntKind.i64.wrap (v3 * (↑v0.length:Int))+v4)).toNat             ([],[],Bool.false)).snd)).set   (IntKind.i64.wrap (IntKind.i64.wrap (v3 * (↑v0.length:Int))+v4)).toNat   (((v1.set (IntKind.i64.wrap (IntKind.i64.wrap (v3 * (↑v0.length:Int))+v4)).toNat             ([] ++                 List.drop ((Option.some (1:Int)).getD (0:Int)).toNat                   (v1.getD (IntKind.i64.wrap (IntKind.i64.wrap (v3 * (↑v0.length:Int))+v4)).toNat                       ([],[],Bool.false)).fst,              (v1.getD (IntKind.i64.wrap (IntKind.i64.wrap (v3 * (↑v0.length:Int))+v4)).toNat                   ([],[],Bool.false)).snd)).getD         (IntKind.i64.wrap (IntKind.i64.wrap (v3 * (↑v0.length:Int))+v4)).toNat ([],[],Bool.false)).fst,    ((v1.set (IntKind.i64.wrap (IntKind.i64.wrap (v3 * (↑v0.length:Int))+v4)).toNat                 ([] ++                     List.drop ((Option.some (1:Int)).getD (0:Int)).toNat                       (v1.getD (IntKind.i64.wrap (IntKind.i64.wrap (v3 * (↑v0.length:Int))+v4)).toNat                           ([],[],Bool.false)).fst,                  (v1.getD (IntKind.i64.wrap (IntKind.i64.wrap (v3 * (↑v0.length:Int))+v4)).toNat                       ([],[],Bool.false)).snd)).getD             (IntKind.i64.wrap (IntKind.i64.wrap (v3 * (↑v0.length:Int))+v4)).toNat             ([],[],Bool.false)).snd.fst ++       [(v1.getD (IntKind.i64.wrap (IntKind.i64.wrap (v3 * (↑v0.length:Int))+v4)).toNat                 ([],[],Bool.false)).fst.getD           (Int.toNat (0:Int)) (0:Int)],    ((v1.set (IntKind.i64.wrap (IntKind.i64.wrap (v3 * (↑v0.length:Int))+v4)).toNat               ([] ++                   List.drop ((Option.some (1:Int)).getD (0:Int)).toNat                     (v1.getD (IntKind.i64.wrap (IntKind.i64.wrap (v3 * (↑v0.length:Int))+v4)).toNat                         ([],[],Bool.false)).fst,                (v1.getD (IntKind.i64.wrap (IntKind.i64.wrap (v3 * (↑v0.length:Int))+v4)).toNat                     ([],[],Bool.false)).snd)).getD           (IntKind.i64.wrap (IntKind.i64.wrap (v3 * (↑v0.length:Int))+v4)).toNat           ([],[],Bool.false)).snd.snd),Bool.true)
 else
 none
 else
 none
 else
 none
 else
 none
 else
 none
 else
 none
 else
 ret (v0.set v4.toNat   (IntKind.i64.wrap       ((v0.getD v4.toNat ((0:Int),(0:Int),Bool.false)).fst+        (v1.getD (IntKind.i64.wrap (IntKind.i64.wrap (v3 * (↑v0.length:Int))+v4)).toNat                 ([],[],Bool.false)).fst.getD           (Int.toNat (0:Int)) (0:Int)),    (v0.getD v4.toNat ((0:Int),(0:Int),Bool.false)).snd),v1.set (IntKind.i64.wrap (IntKind.i64.wrap (v3 * (↑v0.length:Int))+v4)).toNat   ([] ++       List.drop ((Option.some (1:Int)).getD (0:Int)).toNat         (v1.getD (IntKind.i64.wrap (IntKind.i64.wrap (v3 * (↑v0.length:Int))+v4)).toNat             ([],[],Bool.false)).fst,    (v1.getD (IntKind.i64.wrap (IntKind.i64.wrap (v3 * (↑v0.length:Int))+v4)).toNat ([],[],Bool.false)).snd),Bool.true)
 else
 none
 else
 none
 else
 none
 else
 none
 else
 none
 else
 none
 else
 bif decide ((0:Int)≤v4) then
 bif decide (v4.toNat<v0.length) then
 bif decide (v4.toNat<v0.length) then
 bif (v0.getD v4.toNat ((0:Int),(0:Int),Bool.false)).snd.snd then
 bif decide ((0:Int)≤IntKind.i64.wrap (IntKind.i64.wrap (v3 * (↑v0.length:Int))+v4)) then
 bif decide   ((IntKind.i64.wrap (IntKind.i64.wrap (v3 * (↑v0.length:Int))+v4)).toNat<    (v1.set (IntKind.i64.wrap (IntKind.i64.wrap (v3 * (↑v0.length:Int))+v4)).toNat         ([] ++             List.drop ((Option.some (1:Int)).getD (0:Int)).toNat               (v1.getD (IntKind.i64.wrap (IntKind.i64.wrap (v3 * (↑v0.length:Int))+v4)).toNat                   ([],[],Bool.false)).fst,          (v1.getD (IntKind.i64.wrap (IntKind.i64.wrap (v3 * (↑v0.length:Int))+v4)).toNat               ([],[],Bool.false)).snd)).length) then
 bif decide   ((IntKind.i64.wrap (IntKind.i64.wrap (v3 * (↑v0.length:Int))+v4)).toNat<    (v1.set (IntKind.i64.wrap (IntKind.i64.wrap (v3 * (↑v0.length:Int))+v4)).toNat         ([] ++             List.drop ((Option.some (1:Int)).getD (0:Int)).toNat               (v1.getD (IntKind.i64.wrap (IntKind.i64.wrap (v3 * (↑v0.length:Int))+v4)).toNat                   ([],[],Bool.false)).fst,          (v1.getD (IntKind.i64.wrap (IntKind.i64.wrap (v3 * (↑v0.length:Int))+v4)).toNat               ([],[],Bool.false)).snd)).length) then
 ret (v0,(v1.set (IntKind.i64.wrap (IntKind.i64.wrap (v3 * (↑v0.length:Int))+v4)).toNat       ([] ++           List.drop ((Option.some (1:Int)).getD (0:Int)).toNat             (v1.getD (IntKind.i64.wrap (IntKind.i64.wrap (v3 * (↑v0.length:Int))+v4)).toNat                 ([],[],Bool.false)).fst,        (v1.getD (IntKind.i64.wrap (IntKind.i64.wrap (v3 * (↑v0.length:Int))+v4)).toNat             ([],[],Bool.false)).snd)).set   (IntKind.i64.wrap (IntKind.i64.wrap (v3 * (↑v0.length:Int))+v4)).toNat   (((v1.set (IntKind.i64.wrap (IntKind.i64.wrap (v3 * (↑v0.length:Int))+v4)).toNat             ([] ++                 List.drop ((Option.some (1:Int)).getD (0:Int)).toNat                   (v1.getD (IntKind.i64.wrap (IntKind.i64.wrap (v3 * (↑v0.length:Int))+v4)).toNat                       ([],[],Bool.false)).fst,              (v1.getD (IntKind.i64.wrap (IntKind.i64.wrap (v3 * (↑v0.length:Int))+v4)).toNat                   ([],[],Bool.false)).snd)).getD         (IntKind.i64.wrap (IntKind.i64.wrap (v3 * (↑v0.length:Int))+v4)).toNat ([],[],Bool.false)).fst,    ((v1.set (IntKind.i64.wrap (IntKind.i64.wrap (v3 * (↑v0.length:Int))+v4)).toNat               ([] ++                   List.drop ((Option.some (1:Int)).getD (0:Int)).toNat                     (v1.getD (IntKind.i64.wrap (IntKind.i64.wrap (v3 * (↑v0.length:Int))+v4)).toNat                         ([],[],Bool.false)).fst,                (v1.getD (IntKind.i64.wrap (IntKind.i64.wrap (v3 * (↑v0.length:Int))+v4)).toNat                     ([],[],Bool.false)).snd)).getD           (IntKind.i64.wrap (IntKind.i64.wrap (v3 * (↑v0.length:Int))+v4)).toNat           ([],[],Bool.false)).snd.fst,    Bool.false),Bool.true)
 else
 none
 else
 none
 else
 none
 else
 (xs0t (v0) (v1.set (IntKind.i64.wrap (IntKind.i64.wrap (v3 * (↑v0.length:Int))+v4)).toNat   ([] ++       List.drop ((Option.some (1:Int)).getD (0:Int)).toNat         (v1.getD (IntKind.i64.wrap (IntKind.i64.wrap (v3 * (↑v0.length:Int))+v4)).toNat             ([],[],Bool.false)).fst,    (v1.getD (IntKind.i64.wrap (IntKind.i64.wrap (v3 * (↑v0.length:Int))+v4)).toNat ([],[],Bool.false)).snd)) (v4) (v3)).bind fun (r3:(List (Int × Int × Bool)) × (List (List Int × List Int × Bool)) × Bool) =>
 ret (r3.fst,r3.snd.fst,r3.snd.snd)
 else
 none
 else
 none
 else
 none
 else
 none
 else
 none
 else
 none
 else
 none
 else
 none
 else
 none
 else
 none
 else
 none
 else
 none
 else
 none
 else
 none
 else
 none
 else
 none
 else
 none
 else
 ret (v0,v1,Bool.false)
 else
 none
 else
 none
 else
 none
 else
 none
 else
 none
theorem xs0u.u:∀ b,xs0u.un (xs0u.mk b)=b:=fun _ => by kernel_rfl
theorem xs0u.eq (v0 v1 v2 v3 v4 v5) {b} (h:xs0u.t some v0 v1 v2 v3 v4 v5=some b):xs0u v0 v1 v2 v3 v4 v5=some b:=eqF xs0u.u Try.f44 (callT_le E tab) rfl rfl rfl (xs0u.t (rR xs0u.mk) v0 v1 v2 v3 v4 v5) (by kernel_rfl) (by unfold xs0u.t; repeat' first | exact sR | exact sN | exact sL | apply sC | (apply sB; intro _)) h
def xs0t.s5 (v0:Int) (v1:Int) (v2:List (Int × Int × Bool)) (v3:List (List Int × List Int × Bool)) (v4:List (Int × Int × Bool)) (v5:List (List Int × List Int × Bool)) (v6:Int) (v7:Int):List Cell:=nn 1 (vc (iL v0)::vc (iL v1)::⟨(.box false),[.d .deep Yc v2,.d .deep Yb v3],false,false,false,0,0⟩::nn 2 (⟨(.box false),[.d .deep Yc v4,.d .deep Yb v5],false,false,false,0,0⟩::nn 1 (vc (iL v6)::vc (iL v7)::nn 74 ([]))))
def xs0t.q5:=fun v0 v1 v2 v3 v4 v5 v6 v7 => loopAtL E (callT E tab) 78 Try.f78 3 [.r,.r,.r,.r,.l,.r,.b] (xs0t.s5 v0 v1 v2 v3 v4 v5 v6 v7)
def xs0t.l5:=fun v0 v1 v2 v3 v4 v5 v6 v7 => tOf xs0t.mk (xs0t.q5 v0 v1 v2 v3 v4 v5 v6 v7)
def xs0t.t {γ:Type} (ret:((List (Int × Int × Bool)) × (List (List Int × List Int × Bool)) × Bool)→Option γ) (lp5:Int→Int→(List (Int × Int × Bool))→(List (List Int × List Int × Bool))→(List (Int × Int × Bool))→(List (List Int × List Int × Bool))→Int→Int→Option γ) (v0:List (Int × Int × Bool)) (v1:List (List Int × List Int × Bool)) (v2:Int) (v3:Int):Option γ :=
 bif decide ((0:Int)≤v2) then
 bif decide (v2.toNat<v0.length) then
 bif decide (v2.toNat<v0.length) then
 bif decide ((0:Int)≤v2) then
 bif decide (v2.toNat<v0.length) then
 bif decide (v2.toNat<v0.length) then
 bif decide ((0:Int)≤v2) then
 bif decide   (v2.toNat<    (v0.set v2.toNat         ((v0.getD v2.toNat ((0:Int),(0:Int),Bool.false)).fst,          (v0.getD v2.toNat ((0:Int),(0:Int),Bool.false)).fst,          (v0.getD v2.toNat ((0:Int),(0:Int),Bool.false)).snd.snd)).length) then
 bif decide   (v2.toNat<    (v0.set v2.toNat         ((v0.getD v2.toNat ((0:Int),(0:Int),Bool.false)).fst,          (v0.getD v2.toNat ((0:Int),(0:Int),Bool.false)).fst,          (v0.getD v2.toNat ((0:Int),(0:Int),Bool.false)).snd.snd)).length) then
 lp5 (v2) (v3) ((v0.set v2.toNat       ((v0.getD v2.toNat ((0:Int),(0:Int),Bool.false)).fst,        (v0.getD v2.toNat ((0:Int),(0:Int),Bool.false)).fst,        (v0.getD v2.toNat ((0:Int),(0:Int),Bool.false)).snd.snd)).set   v2.toNat   (((v0.set v2.toNat             ((v0.getD v2.toNat ((0:Int),(0:Int),Bool.false)).fst,              (v0.getD v2.toNat ((0:Int),(0:Int),Bool.false)).fst,              (v0.getD v2.toNat ((0:Int),(0:Int),Bool.false)).snd.snd)).getD         v2.toNat ((0:Int),(0:Int),Bool.false)).fst,    ((v0.set v2.toNat               ((v0.getD v2.toNat ((0:Int),(0:Int),Bool.false)).fst,                (v0.getD v2.toNat ((0:Int),(0:Int),Bool.false)).fst,                (v0.getD v2.toNat ((0:Int),(0:Int),Bool.false)).snd.snd)).getD           v2.toNat ((0:Int),(0:Int),Bool.false)).snd.fst,    Bool.true)) (v1) ([]) ([]) ((↑v0.length:Int)) ((0:Int))
 else
 none
 else
 none
 else
 none
 else
 none
 else
 none
 else
 none
 else
 none
 else
 none
 else
 none
def xs0t.t5 {γ:Type} (ret:((List (Int × Int × Bool)) × (List (List Int × List Int × Bool)) × Bool)→Option γ) (lp5:Int→Int→(List (Int × Int × Bool))→(List (List Int × List Int × Bool))→(List (Int × Int × Bool))→(List (List Int × List Int × Bool))→Int→Int→Option γ) (v0:Int) (v1:Int) (v2:List (Int × Int × Bool)) (v3:List (List Int × List Int × Bool)) (v4:List (Int × Int × Bool)) (v5:List (List Int × List Int × Bool)) (v6:Int) (v7:Int):Option γ :=
 bif decide (v7<v6) then
 bif v7 == v0 then
 lp5 (v0) (v1) (v2) (v3) (v4) (v5) (v6) (IntKind.i64.wrap (v7+(1:Int)))
 else
 bif decide ((0:Int)≤IntKind.i64.wrap (IntKind.i64.wrap (v7 * v6)+v0)) then
 bif decide ((IntKind.i64.wrap (IntKind.i64.wrap (v7 * v6)+v0)).toNat<v3.length) then
 bif decide ((IntKind.i64.wrap (IntKind.i64.wrap (v7 * v6)+v0)).toNat<v3.length) then
 bif decide ((0:Int)≤IntKind.i64.wrap (IntKind.i64.wrap (v0 * v6)+v7)) then
 bif decide   ((IntKind.i64.wrap (IntKind.i64.wrap (v0 * v6)+v7)).toNat<    (v3.set (IntKind.i64.wrap (IntKind.i64.wrap (v7 * v6)+v0)).toNat         ((v3.getD (IntKind.i64.wrap (IntKind.i64.wrap (v7 * v6)+v0)).toNat ([],[],Bool.false)).fst,          (v3.getD (IntKind.i64.wrap (IntKind.i64.wrap (v7 * v6)+v0)).toNat ([],[],Bool.false)).snd.fst,          v7 != v1)).length) then
 bif decide   ((IntKind.i64.wrap (IntKind.i64.wrap (v0 * v6)+v7)).toNat<    (v3.set (IntKind.i64.wrap (IntKind.i64.wrap (v7 * v6)+v0)).toNat         ((v3.getD (IntKind.i64.wrap (IntKind.i64.wrap (v7 * v6)+v0)).toNat ([],[],Bool.false)).fst,          (v3.getD (IntKind.i64.wrap (IntKind.i64.wrap (v7 * v6)+v0)).toNat ([],[],Bool.false)).snd.fst,          v7 != v1)).length) then
 bif decide   ((IntKind.i64.wrap (IntKind.i64.wrap (v0 * v6)+v7)).toNat<    (v3.set (IntKind.i64.wrap (IntKind.i64.wrap (v7 * v6)+v0)).toNat         ((v3.getD (IntKind.i64.wrap (IntKind.i64.wrap (v7 * v6)+v0)).toNat ([],[],Bool.false)).fst,          (v3.getD (IntKind.i64.wrap (IntKind.i64.wrap (v7 * v6)+v0)).toNat ([],[],Bool.false)).snd.fst,          v7 != v1)).length) then
 bif (↑((v3.set (IntKind.i64.wrap (IntKind.i64.wrap (v7 * v6)+v0)).toNat                 ((v3.getD (IntKind.i64.wrap (IntKind.i64.wrap (v7 * v6)+v0)).toNat ([],[],Bool.false)).fst,                  (v3.getD (IntKind.i64.wrap (IntKind.i64.wrap (v7 * v6)+v0)).toNat                         ([],[],Bool.false)).snd.fst,                  v7 != v1)).getD             (IntKind.i64.wrap (IntKind.i64.wrap (v0 * v6)+v7)).toNat ([],[],Bool.false)).fst.length:    Int) ==   (12:Int) then
 ret (v2,v3.set (IntKind.i64.wrap (IntKind.i64.wrap (v7 * v6)+v0)).toNat   ((v3.getD (IntKind.i64.wrap (IntKind.i64.wrap (v7 * v6)+v0)).toNat ([],[],Bool.false)).fst,    (v3.getD (IntKind.i64.wrap (IntKind.i64.wrap (v7 * v6)+v0)).toNat ([],[],Bool.false)).snd.fst,v7 != v1),Bool.false)
 else
 bif decide ((0:Int)≤IntKind.i64.wrap (IntKind.i64.wrap (v0 * v6)+v7)) then
 bif decide   ((IntKind.i64.wrap (IntKind.i64.wrap (v0 * v6)+v7)).toNat<    (v3.set (IntKind.i64.wrap (IntKind.i64.wrap (v7 * v6)+v0)).toNat         ((v3.getD (IntKind.i64.wrap (IntKind.i64.wrap (v7 * v6)+v0)).toNat ([],[],Bool.false)).fst,          (v3.getD (IntKind.i64.wrap (IntKind.i64.wrap (v7 * v6)+v0)).toNat ([],[],Bool.false)).snd.fst,          v7 != v1)).length) then
 bif decide   ((IntKind.i64.wrap (IntKind.i64.wrap (v0 * v6)+v7)).toNat<    (v3.set (IntKind.i64.wrap (IntKind.i64.wrap (v7 * v6)+v0)).toNat         ((v3.getD (IntKind.i64.wrap (IntKind.i64.wrap (v7 * v6)+v0)).toNat ([],[],Bool.false)).fst,          (v3.getD (IntKind.i64.wrap (IntKind.i64.wrap (v7 * v6)+v0)).toNat ([],[],Bool.false)).snd.fst,          v7 != v1)).length) then
 bif decide   ((IntKind.i64.wrap (IntKind.i64.wrap (v0 * v6)+v7)).toNat<    (v3.set (IntKind.i64.wrap (IntKind.i64.wrap (v7 * v6)+v0)).toNat         ((v3.getD (IntKind.i64.wrap (IntKind.i64.wrap (v7 * v6)+v0)).toNat ([],[],Bool.false)).fst,          (v3.getD (IntKind.i64.wrap (IntKind.i64.wrap (v7 * v6)+v0)).toNat ([],[],Bool.false)).snd.fst,          v7 != v1)).length) then
 bif decide   (((v3.set (IntKind.i64.wrap (IntKind.i64.wrap (v7 * v6)+v0)).toNat                 ((v3.getD (IntKind.i64.wrap (IntKind.i64.wrap (v7 * v6)+v0)).toNat ([],[],Bool.false)).fst,                  (v3.getD (IntKind.i64.wrap (IntKind.i64.wrap (v7 * v6)+v0)).toNat                         ([],[],Bool.false)).snd.fst,                  v7 != v1)).getD             (IntKind.i64.wrap (IntKind.i64.wrap (v0 * v6)+v7)).toNat ([],[],Bool.false)).fst.length+      [(0:Int)].length≤    (4294967296:Nat)) then
 bif decide ((0:Int)≤IntKind.i64.wrap (IntKind.i64.wrap (v0 * v6)+v7)) then
 bif decide   ((IntKind.i64.wrap (IntKind.i64.wrap (v0 * v6)+v7)).toNat<    (v3.set (IntKind.i64.wrap (IntKind.i64.wrap (v7 * v6)+v0)).toNat         ((v3.getD (IntKind.i64.wrap (IntKind.i64.wrap (v7 * v6)+v0)).toNat ([],[],Bool.false)).fst,          (v3.getD (IntKind.i64.wrap (IntKind.i64.wrap (v7 * v6)+v0)).toNat ([],[],Bool.false)).snd.fst,          v7 != v1)).length) then
 bif decide   ((IntKind.i64.wrap (IntKind.i64.wrap (v0 * v6)+v7)).toNat=    (IntKind.i64.wrap (IntKind.i64.wrap (v0 * v6)+v7)).toNat) then
 bif decide   ((IntKind.i64.wrap (IntKind.i64.wrap (v0 * v6)+v7)).toNat<    (v3.set (IntKind.i64.wrap (IntKind.i64.wrap (v7 * v6)+v0)).toNat         ((v3.getD (IntKind.i64.wrap (IntKind.i64.wrap (v7 * v6)+v0)).toNat ([],[],Bool.false)).fst,          (v3.getD (IntKind.i64.wrap (IntKind.i64.wrap (v7 * v6)+v0)).toNat ([],[],Bool.false)).snd.fst,          v7 != v1)).length) then
 lp5 (v0) (v1) (v2) ((v3.set (IntKind.i64.wrap (IntKind.i64.wrap (v7 * v6)+v0)).toNat       ((v3.getD (IntKind.i64.wrap (IntKind.i64.wrap (v7 * v6)+v0)).toNat ([],[],Bool.false)).fst,        (v3.getD (IntKind.i64.wrap (IntKind.i64.wrap (v7 * v6)+v0)).toNat ([],[],Bool.false)).snd.fst,        v7 != v1)).set   (IntKind.i64.wrap (IntKind.i64.wrap (v0 * v6)+v7)).toNat   (((v3.set (IntKind.i64.wrap (IntKind.i64.wrap (v7 * v6)+v0)).toNat               ((v3.getD (IntKind.i64.wrap (IntKind.i64.wrap (v7 * v6)+v0)).toNat ([],[],Bool.false)).fst,                (v3.getD (IntKind.i64.wrap (IntKind.i64.wrap (v7 * v6)+v0)).toNat ([],[],Bool.false)).snd.fst,                v7 != v1)).getD           (IntKind.i64.wrap (IntKind.i64.wrap (v0 * v6)+v7)).toNat ([],[],Bool.false)).fst ++       [(0:Int)],    ((v3.set (IntKind.i64.wrap (IntKind.i64.wrap (v7 * v6)+v0)).toNat             ((v3.getD (IntKind.i64.wrap (IntKind.i64.wrap (v7 * v6)+v0)).toNat ([],[],Bool.false)).fst,              (v3.getD (IntKind.i64.wrap (IntKind.i64.wrap (v7 * v6)+v0)).toNat ([],[],Bool.false)).snd.fst,              v7 != v1)).getD         (IntKind.i64.wrap (IntKind.i64.wrap (v0 * v6)+v7)).toNat ([],[],Bool.false)).snd)) (v4) (v5) (v6) (IntKind.i64.wrap (v7+(1:Int)))
 else
 none
 else
 none
 else
 none
 else
 none
 else
 none
 else
 none
 else
 none
 else
 none
 else
 none
 else
 none
 else
 none
 else
 none
 else
 none
 else
 none
 else
 none
 else
 none
 else
 ret (v2,v3,Bool.true)
theorem xs0t.u:∀ b,xs0t.un (xs0t.mk b)=b:=fun _ => by kernel_rfl
theorem xs0t.eq (v0 v1 v2 v3) {b} (h:xs0t.t some xs0t.l5 v0 v1 v2 v3=some b):xs0t v0 v1 v2 v3=some b:=eqF xs0t.u Try.f78 (callT_le E tab) rfl rfl rfl (xs0t.t (rR xs0t.mk) xs0t.q5 v0 v1 v2 v3) (by kernel_rfl) (by unfold xs0t.t; repeat' first | exact sR | exact sN | exact sL | apply sC | (apply sB; intro _)) h
theorem xs0t.eq5 (v0 v1 v2 v3 v4 v5 v6 v7) {b} (h:xs0t.t5 some xs0t.l5 v0 v1 v2 v3 v4 v5 v6 v7=some b):xs0t.l5 v0 v1 v2 v3 v4 v5 v6 v7=some b:=eqL xs0t.u (xs0t.t5 (rR xs0t.mk) xs0t.q5 v0 v1 v2 v3 v4 v5 v6 v7) (by kernel_rfl) (by unfold xs0t.t5; repeat' first | exact sR | exact sN | exact sL | apply sC | (apply sB; intro _)) h
def xi12.s6 (v0:List (Int × Int × Bool)) (v1:List (List Int × List Int × Bool)) (v2:List (Int × Int × Bool)) (v3:List (List Int × List Int × Bool)) (v4:List Bool) (v5:List (Int × Int × Int × Int)) (v6:Int) (v7:Int):List Cell:=nn 4 (⟨(.box false),[.d .deep Yc v0,.d .deep Yb v1],false,false,false,0,0⟩::nn 2 (⟨(.box false),[.d .deep Yc v2,.d .deep Yb v3],false,false,false,0,0⟩::nn 1 (vc (.d .deep (.sl .bool) v4)::nn 17 (vc (.d .fro Ya v5)::vc (iL v6)::vc (iL v7)::nn 18 ([])))))
def xi12.q6:=fun v0 v1 v2 v3 v4 v5 v6 v7 => loopAtL E (callT E tab) 22 Try.f22 2 [.r,.r,.r,.r,.l,.r,.b] (xi12.s6 v0 v1 v2 v3 v4 v5 v6 v7)
def xi12.l6:=fun v0 v1 v2 v3 v4 v5 v6 v7 => tOf xi12.mk (xi12.q6 v0 v1 v2 v3 v4 v5 v6 v7)
def xi12.t {γ:Type} (ret:((List (Int × Int × Bool)) × (List (List Int × List Int × Bool)) × (List Bool) × Bool)→Option γ) (lp6:(List (Int × Int × Bool))→(List (List Int × List Int × Bool))→(List (Int × Int × Bool))→(List (List Int × List Int × Bool))→(List Bool)→(List (Int × Int × Int × Int))→Int→Int→Option γ) (v0:List Int) (v1:List (Int × Int × Int × Int)):Option γ :=
 (xi19 (v0)).bind fun (r0:(List (Int × Int × Bool)) × (List (List Int × List Int × Bool)) × Bool) =>
 bif !r0.snd.snd then
 ret ([],[],[],Bool.false)
 else
 bif decide ((↑v1.length:Int) > (120:Int)) then
 ret ([],[],[],Bool.false)
 else
 lp6 ([]) ([]) (r0.fst) (r0.snd.fst) ([]) (v1) ((↑v1.length:Int)) ((0:Int))
def xi12.t6 {γ:Type} (ret:((List (Int × Int × Bool)) × (List (List Int × List Int × Bool)) × (List Bool) × Bool)→Option γ) (lp6:(List (Int × Int × Bool))→(List (List Int × List Int × Bool))→(List (Int × Int × Bool))→(List (List Int × List Int × Bool))→(List Bool)→(List (Int × Int × Int × Int))→Int→Int→Option γ) (v0:List (Int × Int × Bool)) (v1:List (List Int × List Int × Bool)) (v2:List (Int × Int × Bool)) (v3:List (List Int × List Int × Bool)) (v4:List Bool) (v5:List (Int × Int × Int × Int)) (v6:Int) (v7:Int):Option γ :=
 bif decide (v7<v6) then
 bif decide ((0:Int)≤v7) then
 bif decide (v7.toNat<v5.length) then
 (xi0k (v2) (v3) ((v5.getD v7.toNat ((0:Int),(0:Int),(0:Int),(0:Int))).fst) ((v5.getD v7.toNat ((0:Int),(0:Int),(0:Int),(0:Int))).snd.fst) ((v5.getD v7.toNat ((0:Int),(0:Int),(0:Int),(0:Int))).snd.snd.fst) ((v5.getD v7.toNat ((0:Int),(0:Int),(0:Int),(0:Int))).snd.snd.snd)).bind fun (r1:(List (Int × Int × Bool)) × (List (List Int × List Int × Bool)) × Bool) =>
 bif r1.snd.snd then
 bif decide (v4.length+[r1.snd.snd].length≤(4294967296:Nat)) then
 lp6 (v0) (v1) (r1.fst) (r1.snd.fst) (v4 ++ [r1.snd.snd]) (v5) (v6) (IntKind.i64.wrap (v7+(1:Int)))
 else
 none
 else
 bif decide (v4.length+[r1.snd.snd].length≤(4294967296:Nat)) then
 lp6 (v0) (v1) (v2) (v3) (v4 ++ [r1.snd.snd]) (v5) (v6) (IntKind.i64.wrap (v7+(1:Int)))
 else
 none
 else
 none
 else
 none
 else
 ret (v2,v3,v4,Bool.true)
theorem xi12.u:∀ b,xi12.un (xi12.mk b)=b:=fun _ => by kernel_rfl
theorem xi12.eq (v0 v1) {b} (h:xi12.t some xi12.l6 v0 v1=some b):xi12 v0 v1=some b:=eqF xi12.u Try.f22 (callT_le E tab) rfl rfl rfl (xi12.t (rR xi12.mk) xi12.q6 v0 v1) (by kernel_rfl) (by unfold xi12.t; repeat' first | exact sR | exact sN | exact sL | apply sC | (apply sB; intro _)) h
theorem xi12.eq6 (v0 v1 v2 v3 v4 v5 v6 v7) {b} (h:xi12.t6 some xi12.l6 v0 v1 v2 v3 v4 v5 v6 v7=some b):xi12.l6 v0 v1 v2 v3 v4 v5 v6 v7=some b:=eqL xi12.u (xi12.t6 (rR xi12.mk) xi12.q6 v0 v1 v2 v3 v4 v5 v6 v7) (by kernel_rfl) (by unfold xi12.t6; repeat' first | exact sR | exact sN | exact sL | apply sC | (apply sB; intro _)) h
def xi19.t {γ:Type} (ret:((List (Int × Int × Bool)) × (List (List Int × List Int × Bool)) × Bool)→Option γ) (v0:List Int):Option γ :=
 (xi1f ((↑v0.length:Int)) ((2:Int)) ((4:Int))).bind fun (r0:Bool) =>
 bif !r0 then
 ret ([],[],Bool.false)
 else
 (xi1a (v0)).bind fun (r1:(List (Int × Int × Bool)) × (List (List Int × List Int × Bool))) =>
 (xi11 (r1.fst) (r1.snd)).bind fun (r2:Bool) =>
 bif !r2 then
 ret ([],[],Bool.false)
 else
 ret (r1.fst,r1.snd,Bool.true)
theorem xi19.u:∀ b,xi19.un (xi19.mk b)=b:=fun _ => by kernel_rfl
theorem xi19.eq (v0) {b} (h:xi19.t some v0=some b):xi19 v0=some b:=eqF xi19.u Try.f62 (callT_le E tab) rfl rfl rfl (xi19.t (rR xi19.mk) v0) (by kernel_rfl) (by unfold xi19.t; repeat' first | exact sR | exact sN | exact sL | apply sC | (apply sB; intro _)) h
def xi1f.t {γ:Type} (ret:(Bool)→Option γ) (v0:Int) (v1:Int) (v2:Int):Option γ :=
 bif decide (v1≤v0) then
 ret (decide (v0≤v2))
 else
 ret (Bool.false)
theorem xi1f.u:∀ b,xi1f.un (xi1f.mk b)=b:=fun _ => by kernel_rfl
theorem xi1f.eq (v0 v1 v2) {b} (h:xi1f.t some v0 v1 v2=some b):xi1f v0 v1 v2=some b:=eqF xi1f.u Try.f68 (callT_le E tab) rfl rfl rfl (xi1f.t (rR xi1f.mk) v0 v1 v2) (by kernel_rfl) (by unfold xi1f.t; repeat' first | exact sR | exact sN | exact sL | apply sC | (apply sB; intro _)) h
def xi1a.s3 (v0:List Int) (v1:List (Int × Int × Bool)) (v2:List (List Int × List Int × Bool)) (v3:List (Int × Int × Bool)) (v4:List (List Int × List Int × Bool)) (v5:List Int) (v6:Int) (v7:Int):List Cell:=vc (.d .fro (.sl (.int .i64)) v0)::nn 1 (⟨(.box false),[.d .deep Yc v1,.d .deep Yb v2],false,false,false,0,0⟩::⟨(.box false),[.d .deep Yc v3,.d .deep Yb v4],false,false,false,0,0⟩::nn 2 (vc (.d .fro (.sl (.int .i64)) v5)::vc (iL v6)::vc (iL v7)::nn 19 ([])))
def xi1a.q3:=fun v0 v1 v2 v3 v4 v5 v6 v7 => loopAtL E (callT E tab) 88 Try.f88 1 [.r,.r,.l,.r,.b] (xi1a.s3 v0 v1 v2 v3 v4 v5 v6 v7)
def xi1a.l3:=fun v0 v1 v2 v3 v4 v5 v6 v7 => tOf xi1a.mk (xi1a.q3 v0 v1 v2 v3 v4 v5 v6 v7)
def xi1a.t {γ:Type} (ret:((List (Int × Int × Bool)) × (List (List Int × List Int × Bool)))→Option γ) (lp3:(List Int)→(List (Int × Int × Bool))→(List (List Int × List Int × Bool))→(List (Int × Int × Bool))→(List (List Int × List Int × Bool))→(List Int)→Int→Int→Option γ) (v0:List Int):Option γ :=
 lp3 (v0) ([]) ([]) ([]) ([]) (v0) ((↑v0.length:Int)) ((0:Int))
def xi1a.t3 {γ:Type} (ret:((List (Int × Int × Bool)) × (List (List Int × List Int × Bool)))→Option γ) (lp3:(List Int)→(List (Int × Int × Bool))→(List (List Int × List Int × Bool))→(List (Int × Int × Bool))→(List (List Int × List Int × Bool))→(List Int)→Int→Int→Option γ) (v0:List Int) (v1:List (Int × Int × Bool)) (v2:List (List Int × List Int × Bool)) (v3:List (Int × Int × Bool)) (v4:List (List Int × List Int × Bool)) (v5:List Int) (v6:Int) (v7:Int):Option γ :=
 bif decide (v7<v6) then
 bif decide ((0:Int)≤v7) then
 bif decide (v7.toNat<v5.length) then
 bif decide (v3.length+[(v5.getD v7.toNat (0:Int),(0:Int),Bool.false)].length≤(4294967296:Nat)) then
 lp3 (v0) (v1) (v2) (v3 ++ [(v5.getD v7.toNat (0:Int),(0:Int),Bool.false)]) (v4) (v5) (v6) (IntKind.i64.wrap (v7+(1:Int)))
 else
 none
 else
 none
 else
 none
 else
 bif decide   (IntKind.i64.wrap ((↑v0.length:Int) * (↑v0.length:Int))=    IntKind.i64.wrap ((↑v0.length:Int) * (↑v0.length:Int))) then
 bif decide ((0:Int)≤IntKind.i64.wrap ((↑v0.length:Int) * (↑v0.length:Int))) then
 bif decide   (IntKind.i64.wrap ((↑v0.length:Int) * (↑v0.length:Int)) * (↑((1:Nat)+((1:Nat)+(1:Nat))):Int)≤    (4398046511104:Int)) then
 ret (v3,List.replicate (IntKind.i64.wrap ((↑v0.length:Int) * (↑v0.length:Int))).toNat ([],[],Bool.false))
 else
 none
 else
 none
 else
 none
theorem xi1a.u:∀ b,xi1a.un (xi1a.mk b)=b:=fun _ => by kernel_rfl
theorem xi1a.eq (v0) {b} (h:xi1a.t some xi1a.l3 v0=some b):xi1a v0=some b:=eqF xi1a.u Try.f88 (callT_le E tab) rfl rfl rfl (xi1a.t (rR xi1a.mk) xi1a.q3 v0) (by kernel_rfl) (by unfold xi1a.t; repeat' first | exact sR | exact sN | exact sL | apply sC | (apply sB; intro _)) h
theorem xi1a.eq3 (v0 v1 v2 v3 v4 v5 v6 v7) {b} (h:xi1a.t3 some xi1a.l3 v0 v1 v2 v3 v4 v5 v6 v7=some b):xi1a.l3 v0 v1 v2 v3 v4 v5 v6 v7=some b:=eqL xi1a.u (xi1a.t3 (rR xi1a.mk) xi1a.q3 v0 v1 v2 v3 v4 v5 v6 v7) (by kernel_rfl) (by unfold xi1a.t3; repeat' first | exact sR | exact sN | exact sL | apply sC | (apply sB; intro _)) h
def xi11.s13 (v0:List (Int × Int × Bool)) (v1:List (List Int × List Int × Bool)) (v2:Int) (v3:Int) (v4:List (List Int × List Int × Bool)) (v5:Int) (v6:Int):List Cell:=nn 1 (⟨(.box false),[.d .fro Yc v0,.d .fro Yb v1],false,false,false,0,0⟩::nn 1 (vc (iL v2)::vc (iL v3)::nn 55 (vc (.d .fro Yb v4)::vc (iL v5)::vc (iL v6)::nn 40 ([]))))
def xi11.q13:=fun v0 v1 v2 v3 v4 v5 v6 => loopAtL E (callT E tab) 34 Try.f34 1 [.r,.r,.r,.r,.r,.l,.r,.b] (xi11.s13 v0 v1 v2 v3 v4 v5 v6)
def xi11.l13:=fun v0 v1 v2 v3 v4 v5 v6 => tOf xi11.mk (xi11.q13 v0 v1 v2 v3 v4 v5 v6)
def xi11.s6 (v0:List (Int × Int × Bool)) (v1:List (List Int × List Int × Bool)) (v2:Int) (v3:Int) (v4:List (Int × Int × Bool)) (v5:Int) (v6:Int):List Cell:=nn 1 (⟨(.box false),[.d .fro Yc v0,.d .fro Yb v1],false,false,false,0,0⟩::nn 1 (vc (iL v2)::vc (iL v3)::nn 20 (vc (.d .fro Yc v4)::vc (iL v5)::vc (iL v6)::nn 75 ([]))))
def xi11.q6:=fun v0 v1 v2 v3 v4 v5 v6 => loopAtL E (callT E tab) 34 Try.f34 1 [.r,.r,.r,.r,.l,.r,.b] (xi11.s6 v0 v1 v2 v3 v4 v5 v6)
def xi11.l6:=fun v0 v1 v2 v3 v4 v5 v6 => tOf xi11.mk (xi11.q6 v0 v1 v2 v3 v4 v5 v6)
def xi11.t {γ:Type} (ret:(Bool)→Option γ) (lp6:(List (Int × Int × Bool))→(List (List Int × List Int × Bool))→Int→Int→(List (Int × Int × Bool))→Int→Int→Option γ) (v0:List (Int × Int × Bool)) (v1:List (List Int × List Int × Bool)):Option γ :=
 (xi1f ((↑v0.length:Int)) ((2:Int)) ((4:Int))).bind fun (r0:Bool) =>
 bif !r0 then
 ret (Bool.false)
 else
 bif (↑v1.length:Int) != IntKind.i64.wrap ((↑v0.length:Int) * (↑v0.length:Int)) then
 ret (Bool.false)
 else
 lp6 (v0) (v1) ((↑v0.length:Int)) ((0:Int)) (v0) ((↑v0.length:Int)) ((0:Int))
def xi11.t13 {γ:Type} (ret:(Bool)→Option γ) (lp13:(List (Int × Int × Bool))→(List (List Int × List Int × Bool))→Int→Int→(List (List Int × List Int × Bool))→Int→Int→Option γ) (v0:List (Int × Int × Bool)) (v1:List (List Int × List Int × Bool)) (v2:Int) (v3:Int) (v4:List (List Int × List Int × Bool)) (v5:Int) (v6:Int):Option γ :=
 bif decide (v6<v5) then
 bif decide ((0:Int)≤v6) then
 bif decide (v6.toNat<v4.length) then
 bif decide (v2≠(0:Int)) then
 bif decide ((0:Int)≤v6.tmod v2) then
 bif decide ((v6.tmod v2).toNat<v0.length) then
 (xi0p ((v4.getD v6.toNat ([],[],Bool.false)).fst) ((v4.getD v6.toNat ([],[],Bool.false)).snd.fst) ((v4.getD v6.toNat ([],[],Bool.false)).snd.snd) ((v0.getD (v6.tmod v2).toNat ((0:Int),(0:Int),Bool.false)).fst) ((v0.getD (v6.tmod v2).toNat ((0:Int),(0:Int),Bool.false)).snd.fst) ((v0.getD (v6.tmod v2).toNat ((0:Int),(0:Int),Bool.false)).snd.snd)).bind fun (r3:Bool) =>
 bif !r3 then
 ret (Bool.false)
 else
 bif decide (v2≠(0:Int)) then
 bif decide (v2≠(0:Int)) then
 bif IntKind.i64.wrap (v6.tdiv v2) == v6.tmod v2 then
 (xi0o ((v4.getD v6.toNat ([],[],Bool.false)).fst) ((v4.getD v6.toNat ([],[],Bool.false)).snd.fst) ((v4.getD v6.toNat ([],[],Bool.false)).snd.snd)).bind fun (r4:Bool) =>
 bif !r4 then
 ret (Bool.false)
 else
 (xi1m ((v4.getD v6.toNat ([],[],Bool.false)).fst)).bind fun (r5:Int) =>
 (xi1m ((v4.getD v6.toNat ([],[],Bool.false)).snd.fst)).bind fun (r6:Int) =>
 lp13 (v0) (v1) (v2) (IntKind.i64.wrap (v3+IntKind.i64.wrap (r5+r6))) (v4) (v5) (IntKind.i64.wrap (v6+(1:Int)))
 else
 (xi1m ((v4.getD v6.toNat ([],[],Bool.false)).fst)).bind fun (r7:Int) =>
 (xi1m ((v4.getD v6.toNat ([],[],Bool.false)).snd.fst)).bind fun (r8:Int) =>
 lp13 (v0) (v1) (v2) (IntKind.i64.wrap (v3+IntKind.i64.wrap (r7+r8))) (v4) (v5) (IntKind.i64.wrap (v6+(1:Int)))
 else
 none
 else
 none
 else
 none
 else
 none
 else
 none
 else
 none
 else
 none
 else
 ret (decide (v3≤(2000000000:Int)))
def xi11.t6 {γ:Type} (ret:(Bool)→Option γ) (lp13:(List (Int × Int × Bool))→(List (List Int × List Int × Bool))→Int→Int→(List (List Int × List Int × Bool))→Int→Int→Option γ) (lp6:(List (Int × Int × Bool))→(List (List Int × List Int × Bool))→Int→Int→(List (Int × Int × Bool))→Int→Int→Option γ) (v0:List (Int × Int × Bool)) (v1:List (List Int × List Int × Bool)) (v2:Int) (v3:Int) (v4:List (Int × Int × Bool)) (v5:Int) (v6:Int):Option γ :=
 bif decide (v6<v5) then
 bif decide ((0:Int)≤v6) then
 bif decide (v6.toNat<v4.length) then
 (xi1f ((v4.getD v6.toNat ((0:Int),(0:Int),Bool.false)).fst) ((0:Int)) ((2000000000:Int))).bind fun (r1:Bool) =>
 bif !r1 then
 ret (Bool.false)
 else
 (xi1f ((v4.getD v6.toNat ((0:Int),(0:Int),Bool.false)).snd.fst) ((0:Int)) ((2000000000:Int))).bind fun (r2:Bool) =>
 bif !r2 then
 ret (Bool.false)
 else
 bif !(v4.getD v6.toNat ((0:Int),(0:Int),Bool.false)).snd.snd then
 bif (v4.getD v6.toNat ((0:Int),(0:Int),Bool.false)).snd.fst != (0:Int) then
 ret (Bool.false)
 else
 lp6 (v0) (v1) (v2) (IntKind.i64.wrap   (v3+    IntKind.i64.wrap       ((v4.getD v6.toNat ((0:Int),(0:Int),Bool.false)).fst+        (v4.getD v6.toNat ((0:Int),(0:Int),Bool.false)).snd.fst))) (v4) (v5) (IntKind.i64.wrap (v6+(1:Int)))
 else
 lp6 (v0) (v1) (v2) (IntKind.i64.wrap   (v3+    IntKind.i64.wrap       ((v4.getD v6.toNat ((0:Int),(0:Int),Bool.false)).fst+        (v4.getD v6.toNat ((0:Int),(0:Int),Bool.false)).snd.fst))) (v4) (v5) (IntKind.i64.wrap (v6+(1:Int)))
 else
 none
 else
 none
 else
 lp13 (v0) (v1) (v2) (v3) (v1) ((↑v1.length:Int)) ((0:Int))
theorem xi11.u:∀ b,xi11.un (xi11.mk b)=b:=fun _ => by kernel_rfl
theorem xi11.eq (v0 v1) {b} (h:xi11.t some xi11.l6 v0 v1=some b):xi11 v0 v1=some b:=eqF xi11.u Try.f34 (callT_le E tab) rfl rfl rfl (xi11.t (rR xi11.mk) xi11.q6 v0 v1) (by kernel_rfl) (by unfold xi11.t; repeat' first | exact sR | exact sN | exact sL | apply sC | (apply sB; intro _)) h
theorem xi11.eq13 (v0 v1 v2 v3 v4 v5 v6) {b} (h:xi11.t13 some xi11.l13 v0 v1 v2 v3 v4 v5 v6=some b):xi11.l13 v0 v1 v2 v3 v4 v5 v6=some b:=eqL xi11.u (xi11.t13 (rR xi11.mk) xi11.q13 v0 v1 v2 v3 v4 v5 v6) (by kernel_rfl) (by unfold xi11.t13; repeat' first | exact sR | exact sN | exact sL | apply sC | (apply sB; intro _)) h
theorem xi11.eq6 (v0 v1 v2 v3 v4 v5 v6) {b} (h:xi11.t6 some xi11.l13 xi11.l6 v0 v1 v2 v3 v4 v5 v6=some b):xi11.l6 v0 v1 v2 v3 v4 v5 v6=some b:=eqL xi11.u (xi11.t6 (rR xi11.mk) xi11.q13 xi11.q6 v0 v1 v2 v3 v4 v5 v6) (by kernel_rfl) (by unfold xi11.t6; repeat' first | exact sR | exact sN | exact sL | apply sC | (apply sB; intro _)) h
def xi0p.t {γ:Type} (ret:(Bool)→Option γ) (v0:List Int) (v1:List Int) (v2:Bool) (v3:Int) (v4:Int) (v5:Bool):Option γ :=
 bif decide ((↑v0.length:Int)≤(12:Int)) then
 (xi06 (v0)).bind fun (r0:Bool) =>
 bif r0 then
 bif decide ((↑v1.length:Int)≤(200:Int)) then
 (xi07 (v1)).bind fun (r1:Bool) =>
 bif r1 then
 bif v5 then
 ret (Bool.true)
 else
 bif !v2 then
 ret ((↑v1.length:Int) == (0:Int))
 else
 ret (Bool.false)
 else
 ret (Bool.false)
 else
 ret (Bool.false)
 else
 ret (Bool.false)
 else
 ret (Bool.false)
theorem xi0p.u:∀ b,xi0p.un (xi0p.mk b)=b:=fun _ => by kernel_rfl
theorem xi0p.eq (v0 v1 v2 v3 v4 v5) {b} (h:xi0p.t some v0 v1 v2 v3 v4 v5=some b):xi0p v0 v1 v2 v3 v4 v5=some b:=eqF xi0p.u Try.f69 (callT_le E tab) rfl rfl rfl (xi0p.t (rR xi0p.mk) v0 v1 v2 v3 v4 v5) (by kernel_rfl) (by unfold xi0p.t; repeat' first | exact sR | exact sN | exact sL | apply sC | (apply sB; intro _)) h
end
end GoV

/- Equations of the program's functions (printed by wip/tools/emit.py). -/
namespace GoV
open Go Go.Proofs
set_option maxRecDepth 100000
noncomputable section

def xi06.t {γ:Type} (ret:(Bool)→Option γ) (v0:List Int):Option γ :=
 (xs00 (v0)).bind fun (r0:Bool) =>
 ret (!r0)
theorem xi06.u:∀ b,xi06.un (xi06.mk b)=b:=fun _ => by kernel_rfl
theorem xi06.eq (v0) {b} (h:xi06.t some v0=some b):xi06 v0=some b:=eqF xi06.u Try.f90 (callT_le E tab) rfl rfl rfl (xi06.t (rR xi06.mk) v0) (by kernel_rfl) (by unfold xi06.t; repeat' first | exact sR | exact sN | exact sL | apply sC | (apply sB; intro _)) h
def xs00.t {γ:Type} (ret:(Bool)→Option γ) (v0:List Int):Option γ :=
 (xs02 (v0)).bind fun (r0:Int) =>
 ret (decide (r0 ≥ (0:Int)))
theorem xs00.u:∀ b,xs00.un (xs00.mk b)=b:=fun _ => by kernel_rfl
theorem xs00.eq (v0) {b} (h:xs00.t some v0=some b):xs00 v0=some b:=eqF xs00.u Try.f98 (callT_le E tab) rfl rfl rfl (xs00.t (rR xs00.mk) v0) (by kernel_rfl) (by unfold xs00.t; repeat' first | exact sR | exact sN | exact sL | apply sC | (apply sB; intro _)) h
def xs02.s2 (v0:List Int) (v1:Int) (v2:Int):List Cell:=vc (.d .fro (.sl (.int .i64)) v0)::vc (.fn 99 [.rp [.fn 91 []] 0])::nn 5 (vc (iL v1)::vc (iL v2)::nn 10 ([]))
def xs02.q2:=fun v0 v1 v2 => loopAtL E (callT E tab) 101 Try.f101 2 [.r,.l,.r,.b] (xs02.s2 v0 v1 v2)
def xs02.l2:=fun v0 v1 v2 => tOf xs02.mk (xs02.q2 v0 v1 v2)
def xs02.t {γ:Type} (ret:(Int)→Option γ) (lp2:(List Int)→Int→Int→Option γ) (v0:List Int):Option γ :=
 lp2 (v0) ((↑v0.length:Int)) ((0:Int))
def xs02.t2 {γ:Type} (ret:(Int)→Option γ) (lp2:(List Int)→Int→Int→Option γ) (v0:List Int) (v1:Int) (v2:Int):Option γ :=
 bif decide (v2<v1) then
 bif decide ((0:Int)≤v2) then
 bif decide (v2.toNat<v0.length) then
 (xi04 (v0.getD v2.toNat (0:Int))).bind fun (r0:Bool) =>
 bif r0 then
 ret (v2)
 else
 lp2 (v0) (v1) (IntKind.i64.wrap (v2+(1:Int)))
 else
 none
 else
 none
 else
 ret ((-1:Int))
theorem xs02.u:∀ b,xs02.un (xs02.mk b)=b:=fun _ => by kernel_rfl
theorem xs02.eq (v0) {b} (h:xs02.t some xs02.l2 v0=some b):xs02 v0=some b:=eqF xs02.u Try.f101 (callT_le E tab) rfl rfl rfl (xs02.t (rR xs02.mk) xs02.q2 v0) (by kernel_rfl) (by unfold xs02.t; repeat' first | exact sR | exact sN | exact sL | apply sC | (apply sB; intro _)) h
theorem xs02.eq2 (v0 v1 v2) {b} (h:xs02.t2 some xs02.l2 v0 v1 v2=some b):xs02.l2 v0 v1 v2=some b:=eqL xs02.u (xs02.t2 (rR xs02.mk) xs02.q2 v0 v1 v2) (by kernel_rfl) (by unfold xs02.t2; repeat' first | exact sR | exact sN | exact sL | apply sC | (apply sB; intro _)) h
def xi04.t {γ:Type} (ret:(Bool)→Option γ) (v0:Int):Option γ :=
 (xi0g (v0)).bind fun (r0:Bool) =>
 ret (!r0)
theorem xi04.u:∀ b,xi04.un (xi04.mk b)=b:=fun _ => by kernel_rfl
theorem xi04.eq (v0) {b} (h:xi04.t some v0=some b):xi04 v0=some b:=eqF xi04.u Try.f99 (callT_le E tab) rfl rfl rfl (xi04.t (rR xi04.mk) v0) (by kernel_rfl) (by unfold xi04.t; repeat' first | exact sR | exact sN | exact sL | apply sC | (apply sB; intro _)) h
def xi0g.t {γ:Type} (ret:(Bool)→Option γ) (v0:Int):Option γ :=
 bif v0 == (0:Int) then
 ret (Bool.true)
 else
 (xi0l (v0)).bind fun (r0:Bool) =>
 ret (r0)
theorem xi0g.u:∀ b,xi0g.un (xi0g.mk b)=b:=fun _ => by kernel_rfl
theorem xi0g.eq (v0) {b} (h:xi0g.t some v0=some b):xi0g v0=some b:=eqF xi0g.u Try.f91 (callT_le E tab) rfl rfl rfl (xi0g.t (rR xi0g.mk) v0) (by kernel_rfl) (by unfold xi0g.t; repeat' first | exact sR | exact sN | exact sL | apply sC | (apply sB; intro _)) h
def xi0l.t {γ:Type} (ret:(Bool)→Option γ) (v0:Int):Option γ :=
 (xi1f (v0) ((1:Int)) ((1000000:Int))).bind fun (r0:Bool) =>
 ret (r0)
theorem xi0l.u:∀ b,xi0l.un (xi0l.mk b)=b:=fun _ => by kernel_rfl
theorem xi0l.eq (v0) {b} (h:xi0l.t some v0=some b):xi0l v0=some b:=eqF xi0l.u Try.f92 (callT_le E tab) rfl rfl rfl (xi0l.t (rR xi0l.mk) v0) (by kernel_rfl) (by unfold xi0l.t; repeat' first | exact sR | exact sN | exact sL | apply sC | (apply sB; intro _)) h
def xi07.t {γ:Type} (ret:(Bool)→Option γ) (v0:List Int):Option γ :=
 (xs01 (v0)).bind fun (r0:Bool) =>
 ret (!r0)
theorem xi07.u:∀ b,xi07.un (xi07.mk b)=b:=fun _ => by kernel_rfl
theorem xi07.eq (v0) {b} (h:xi07.t some v0=some b):xi07 v0=some b:=eqF xi07.u Try.f90 (callT_le E tab) rfl rfl rfl (xi07.t (rR xi07.mk) v0) (by kernel_rfl) (by unfold xi07.t; repeat' first | exact sR | exact sN | exact sL | apply sC | (apply sB; intro _)) h
def xs01.t {γ:Type} (ret:(Bool)→Option γ) (v0:List Int):Option γ :=
 (xs03 (v0)).bind fun (r0:Int) =>
 ret (decide (r0 ≥ (0:Int)))
theorem xs01.u:∀ b,xs01.un (xs01.mk b)=b:=fun _ => by kernel_rfl
theorem xs01.eq (v0) {b} (h:xs01.t some v0=some b):xs01 v0=some b:=eqF xs01.u Try.f98 (callT_le E tab) rfl rfl rfl (xs01.t (rR xs01.mk) v0) (by kernel_rfl) (by unfold xs01.t; repeat' first | exact sR | exact sN | exact sL | apply sC | (apply sB; intro _)) h
def xs03.s2 (v0:List Int) (v1:Int) (v2:Int):List Cell:=vc (.d .fro (.sl (.int .i64)) v0)::vc (.fn 99 [.rp [.fn 92 []] 0])::nn 5 (vc (iL v1)::vc (iL v2)::nn 10 ([]))
def xs03.q2:=fun v0 v1 v2 => loopAtL E (callT E tab) 101 Try.f101 2 [.r,.l,.r,.b] (xs03.s2 v0 v1 v2)
def xs03.l2:=fun v0 v1 v2 => tOf xs03.mk (xs03.q2 v0 v1 v2)
def xs03.t {γ:Type} (ret:(Int)→Option γ) (lp2:(List Int)→Int→Int→Option γ) (v0:List Int):Option γ :=
 lp2 (v0) ((↑v0.length:Int)) ((0:Int))
def xs03.t2 {γ:Type} (ret:(Int)→Option γ) (lp2:(List Int)→Int→Int→Option γ) (v0:List Int) (v1:Int) (v2:Int):Option γ :=
 bif decide (v2<v1) then
 bif decide ((0:Int)≤v2) then
 bif decide (v2.toNat<v0.length) then
 (xi05 (v0.getD v2.toNat (0:Int))).bind fun (r0:Bool) =>
 bif r0 then
 ret (v2)
 else
 lp2 (v0) (v1) (IntKind.i64.wrap (v2+(1:Int)))
 else
 none
 else
 none
 else
 ret ((-1:Int))
theorem xs03.u:∀ b,xs03.un (xs03.mk b)=b:=fun _ => by kernel_rfl
theorem xs03.eq (v0) {b} (h:xs03.t some xs03.l2 v0=some b):xs03 v0=some b:=eqF xs03.u Try.f101 (callT_le E tab) rfl rfl rfl (xs03.t (rR xs03.mk) xs03.q2 v0) (by kernel_rfl) (by unfold xs03.t; repeat' first | exact sR | exact sN | exact sL | apply sC | (apply sB; intro _)) h
theorem xs03.eq2 (v0 v1 v2) {b} (h:xs03.t2 some xs03.l2 v0 v1 v2=some b):xs03.l2 v0 v1 v2=some b:=eqL xs03.u (xs03.t2 (rR xs03.mk) xs03.q2 v0 v1 v2) (by kernel_rfl) (by unfold xs03.t2; repeat' first | exact sR | exact sN | exact sL | apply sC | (apply sB; intro _)) h
def xi05.t {γ:Type} (ret:(Bool)→Option γ) (v0:Int):Option γ :=
 (xi0l (v0)).bind fun (r0:Bool) =>
 ret (!r0)
theorem xi05.u:∀ b,xi05.un (xi05.mk b)=b:=fun _ => by kernel_rfl
theorem xi05.eq (v0) {b} (h:xi05.t some v0=some b):xi05 v0=some b:=eqF xi05.u Try.f99 (callT_le E tab) rfl rfl rfl (xi05.t (rR xi05.mk) v0) (by kernel_rfl) (by unfold xi05.t; repeat' first | exact sR | exact sN | exact sL | apply sC | (apply sB; intro _)) h
def xi0o.t {γ:Type} (ret:(Bool)→Option γ) (v0:List Int) (v1:List Int) (v2:Bool):Option γ :=
 bif (↑v0.length:Int) == (0:Int) then
 bif (↑v1.length:Int) == (0:Int) then
 ret (!v2)
 else
 ret (Bool.false)
 else
 ret (Bool.false)
theorem xi0o.u:∀ b,xi0o.un (xi0o.mk b)=b:=fun _ => by kernel_rfl
theorem xi0o.eq (v0 v1 v2) {b} (h:xi0o.t some v0 v1 v2=some b):xi0o v0 v1 v2=some b:=eqF xi0o.u Try.f70 (callT_le E tab) rfl rfl rfl (xi0o.t (rR xi0o.mk) v0 v1 v2) (by kernel_rfl) (by unfold xi0o.t; repeat' first | exact sR | exact sN | exact sL | apply sC | (apply sB; intro _)) h
def xi1m.s3 (v0:Int) (v1:List Int) (v2:Int) (v3:Int):List Cell:=nn 3 (vc (iL v0)::nn 2 (vc (.d .fro (.sl (.int .i64)) v1)::vc (iL v2)::vc (iL v3)::nn 8 ([])))
def xi1m.q3:=fun v0 v1 v2 v3 => loopAtL E (callT E tab) 67 Try.f67 1 [.r,.r,.l,.r,.b] (xi1m.s3 v0 v1 v2 v3)
def xi1m.l3:=fun v0 v1 v2 v3 => tOf xi1m.mk (xi1m.q3 v0 v1 v2 v3)
def xi1m.t {γ:Type} (ret:(Int)→Option γ) (lp3:Int→(List Int)→Int→Int→Option γ) (v0:List Int):Option γ :=
 lp3 ((0:Int)) (v0) ((↑v0.length:Int)) ((0:Int))
def xi1m.t3 {γ:Type} (ret:(Int)→Option γ) (lp3:Int→(List Int)→Int→Int→Option γ) (v0:Int) (v1:List Int) (v2:Int) (v3:Int):Option γ :=
 bif decide (v3<v2) then
 bif decide ((0:Int)≤v3) then
 bif decide (v3.toNat<v1.length) then
 lp3 (IntKind.i64.wrap (v0+v1.getD v3.toNat (0:Int))) (v1) (v2) (IntKind.i64.wrap (v3+(1:Int)))
 else
 none
 else
 none
 else
 ret (v0)
theorem xi1m.u:∀ b,xi1m.un (xi1m.mk b)=b:=fun _ => by kernel_rfl
theorem xi1m.eq (v0) {b} (h:xi1m.t some xi1m.l3 v0=some b):xi1m v0=some b:=eqF xi1m.u Try.f67 (callT_le E tab) rfl rfl rfl (xi1m.t (rR xi1m.mk) xi1m.q3 v0) (by kernel_rfl) (by unfold xi1m.t; repeat' first | exact sR | exact sN | exact sL | apply sC | (apply sB; intro _)) h
theorem xi1m.eq3 (v0 v1 v2 v3) {b} (h:xi1m.t3 some xi1m.l3 v0 v1 v2 v3=some b):xi1m.l3 v0 v1 v2 v3=some b:=eqL xi1m.u (xi1m.t3 (rR xi1m.mk) xi1m.q3 v0 v1 v2 v3) (by kernel_rfl) (by unfold xi1m.t3; repeat' first | exact sR | exact sN | exact sL | apply sC | (apply sB; intro _)) h
def xi0k.t {γ:Type} (ret:((List (Int × Int × Bool)) × (List (List Int × List Int × Bool)) × Bool)→Option γ) (v0:List (Int × Int × Bool)) (v1:List (List Int × List Int × Bool)) (v2:Int) (v3:Int) (v4:Int) (v5:Int):Option γ :=
 (xi13 (v0) (v1)).bind fun (r0:(List (Int × Int × Bool)) × (List (List Int × List Int × Bool))) =>
 (xi0e (r0.fst) (r0.snd) (v2) (v3) (v4) (v5)).bind fun (r1:Bool × (List (Int × Int × Bool)) × (List (List Int × List Int × Bool))) =>
 bif !r1.fst then
 ret ([],[],Bool.false)
 else
 (xi11 (r1.snd.fst) (r1.snd.snd)).bind fun (r2:Bool) =>
 bif !r2 then
 ret ([],[],Bool.false)
 else
 (xi13 (r1.snd.fst) (r1.snd.snd)).bind fun (r3:(List (Int × Int × Bool)) × (List (List Int × List Int × Bool))) =>
 ret (r3.fst,r3.snd,Bool.true)
theorem xi0k.u:∀ b,xi0k.un (xi0k.mk b)=b:=fun _ => by kernel_rfl
theorem xi0k.eq (v0 v1 v2 v3 v4 v5) {b} (h:xi0k.t some v0 v1 v2 v3 v4 v5=some b):xi0k v0 v1 v2 v3 v4 v5=some b:=eqF xi0k.u Try.f48 (callT_le E tab) rfl rfl rfl (xi0k.t (rR xi0k.mk) v0 v1 v2 v3 v4 v5) (by kernel_rfl) (by unfold xi0k.t; repeat' first | exact sR | exact sN | exact sL | apply sC | (apply sB; intro _)) h
def xi13.s3 (v0:List (Int × Int × Bool)) (v1:List (List Int × List Int × Bool)) (v2:List (Int × Int × Bool)) (v3:List (List Int × List Int × Bool)) (v4:List (List Int × List Int × Bool)) (v5:Int) (v6:Int):List Cell:=nn 2 (⟨(.box false),[.d .deep Yc v0,.d .deep Yb v1],false,false,false,0,0⟩::⟨(.box false),[.d .deep Yc v2,.d .deep Yb v3],false,false,false,0,0⟩::nn 7 (vc (.d .fro Yb v4)::vc (iL v5)::vc (iL v6)::nn 19 ([])))
def xi13.q3:=fun v0 v1 v2 v3 v4 v5 v6 => loopAtL E (callT E tab) 57 Try.f57 1 [.r,.r,.l,.r,.b] (xi13.s3 v0 v1 v2 v3 v4 v5 v6)
def xi13.l3:=fun v0 v1 v2 v3 v4 v5 v6 => tOf xi13.mk (xi13.q3 v0 v1 v2 v3 v4 v5 v6)
def xi13.t {γ:Type} (ret:((List (Int × Int × Bool)) × (List (List Int × List Int × Bool)))→Option γ) (lp3:(List (Int × Int × Bool))→(List (List Int × List Int × Bool))→(List (Int × Int × Bool))→(List (List Int × List Int × Bool))→(List (List Int × List Int × Bool))→Int→Int→Option γ) (v0:List (Int × Int × Bool)) (v1:List (List Int × List Int × Bool)):Option γ :=
 (xs08 (v0)).bind fun (r0:(List (Int × Int × Bool))) =>
 lp3 ([]) ([]) (r0) ([]) (v1) ((↑v1.length:Int)) ((0:Int))
def xi13.t3 {γ:Type} (ret:((List (Int × Int × Bool)) × (List (List Int × List Int × Bool)))→Option γ) (lp3:(List (Int × Int × Bool))→(List (List Int × List Int × Bool))→(List (Int × Int × Bool))→(List (List Int × List Int × Bool))→(List (List Int × List Int × Bool))→Int→Int→Option γ) (v0:List (Int × Int × Bool)) (v1:List (List Int × List Int × Bool)) (v2:List (Int × Int × Bool)) (v3:List (List Int × List Int × Bool)) (v4:List (List Int × List Int × Bool)) (v5:Int) (v6:Int):Option γ :=
 bif decide (v6<v5) then
 bif decide ((0:Int)≤v6) then
 bif decide (v6.toNat<v4.length) then
 (xs0b ((v4.getD v6.toNat ([],[],Bool.false)).fst)).bind fun (r1:(List Int)) =>
 (xs0b ((v4.getD v6.toNat ([],[],Bool.false)).snd.fst)).bind fun (r2:(List Int)) =>
 bif decide (v3.length+[(r1,r2,(v4.getD v6.toNat ([],[],Bool.false)).snd.snd)].length≤(4294967296:Nat)) then
 lp3 (v0) (v1) (v2) (v3 ++ [(r1,r2,(v4.getD v6.toNat ([],[],Bool.false)).snd.snd)]) (v4) (v5) (IntKind.i64.wrap (v6+(1:Int)))
 else
 none
 else
 none
 else
 none
 else
 ret (v2,v3)
theorem xi13.u:∀ b,xi13.un (xi13.mk b)=b:=fun _ => by kernel_rfl
theorem xi13.eq (v0 v1) {b} (h:xi13.t some xi13.l3 v0 v1=some b):xi13 v0 v1=some b:=eqF xi13.u Try.f57 (callT_le E tab) rfl rfl rfl (xi13.t (rR xi13.mk) xi13.q3 v0 v1) (by kernel_rfl) (by unfold xi13.t; repeat' first | exact sR | exact sN | exact sL | apply sC | (apply sB; intro _)) h
theorem xi13.eq3 (v0 v1 v2 v3 v4 v5 v6) {b} (h:xi13.t3 some xi13.l3 v0 v1 v2 v3 v4 v5 v6=some b):xi13.l3 v0 v1 v2 v3 v4 v5 v6=some b:=eqL xi13.u (xi13.t3 (rR xi13.mk) xi13.q3 v0 v1 v2 v3 v4 v5 v6) (by kernel_rfl) (by unfold xi13.t3; repeat' first | exact sR | exact sN | exact sL | apply sC | (apply sB; intro _)) h
def xs08.t {γ:Type} (ret:((List (Int × Int × Bool)))→Option γ) (v0:List (Int × Int × Bool)):Option γ :=
 bif decide (v0.length≤(4294967296:Nat)) then
 ret (v0)
 else
 none
theorem xs08.k (v0:List (Int × Int × Bool)):extOf 86 (xs08.c v0)=xs08.t (fun b => some (xs08.mk b)) v0:=by kernel_rfl
theorem xs08.eq (v0:List (Int × Int × Bool)) {b:(List (Int × Int × Bool))} (h:xs08.t some v0=some b):xs08 v0=some b:=tOf_intro xs08.un (fun _ => by kernel_rfl) (vlim_ext (g:=extOf 86) rfl ((xs08.k v0).trans ((by unfold xs08.t; repeat' first | exact Sub.ret | exact Sub.none | exact Sub.loop | apply Sub.cond | (apply Sub.bind; intro _):Sub xs08.mk _ _) b h)))
def xs0b.t {γ:Type} (ret:((List Int))→Option γ) (v0:List Int):Option γ :=
 bif decide (v0.length≤(4294967296:Nat)) then
 ret (v0)
 else
 none
theorem xs0b.k (v0:List Int):extOf 87 (xs0b.c v0)=xs0b.t (fun b => some (xs0b.mk b)) v0:=by kernel_rfl
theorem xs0b.eq (v0:List Int) {b:(List Int)} (h:xs0b.t some v0=some b):xs0b v0=some b:=tOf_intro xs0b.un (fun _ => by kernel_rfl) (vlim_ext (g:=extOf 87) rfl ((xs0b.k v0).trans ((by unfold xs0b.t; repeat' first | exact Sub.ret | exact Sub.none | exact Sub.loop | apply Sub.cond | (apply Sub.bind; intro _):Sub xs0b.mk _ _) b h)))
def xi0e.t {γ:Type} (ret:(Bool × (List (Int × Int × Bool)) × (List (List Int × List Int × Bool)))→Option γ) (v0:List (Int × Int × Bool)) (v1:List (List Int × List Int × Bool)) (v2:Int) (v3:Int) (v4:Int) (v5:Int):Option γ :=
 (xi1f (v3) ((0:Int)) (IntKind.i64.wrap ((↑v0.length:Int) - (1:Int)))).bind fun (r0:Bool) =>
 bif !r0 then
 ret (Bool.false,v0,v1)
 else
 bif v2 == (3:Int) then
 bif decide ((0:Int)≤v3) then
 bif decide (v3.toNat<v0.length) then
 bif decide (v3.toNat<v0.length) then
 bif !(v0.getD v3.toNat ((0:Int),(0:Int),Bool.false)).snd.snd then
 (xi0c (v0) (v1) (v3) (v3)).bind fun (r1:Bool × (List (Int × Int × Bool)) × (List (List Int × List Int × Bool))) =>
 ret (r1.fst,r1.snd.fst,r1.snd.snd)
 else
 ret (Bool.false,v0,v1)
 else
 none
 else
 none
 else
 none
 else
 (xi1f (v4) ((0:Int)) (IntKind.i64.wrap ((↑v0.length:Int) - (1:Int)))).bind fun (r2:Bool) =>
 bif !r2 then
 ret (Bool.false,v0,v1)
 else
 bif v4 == v3 then
 ret (Bool.false,v0,v1)
 else
 bif v2 == (1:Int) then
 (xi0d (v0) (v1) (v2) (v3) (v4) (v5)).bind fun (r3:Bool × (List (Int × Int × Bool)) × (List (List Int × List Int × Bool))) =>
 ret (r3.fst,r3.snd.fst,r3.snd.snd)
 else
 bif v2 == (2:Int) then
 (xi0f (v0) (v1) (v3) (v4)).bind fun (r4:Bool × (List (Int × Int × Bool)) × (List (List Int × List Int × Bool))) =>
 ret (r4.fst,r4.snd.fst,r4.snd.snd)
 else
 ret (Bool.false,v0,v1)
theorem xi0e.u:∀ b,xi0e.un (xi0e.mk b)=b:=fun _ => by kernel_rfl
theorem xi0e.eq (v0 v1 v2 v3 v4 v5) {b} (h:xi0e.t some v0 v1 v2 v3 v4 v5=some b):xi0e v0 v1 v2 v3 v4 v5=some b:=eqF xi0e.u Try.f81 (callT_le E tab) rfl rfl rfl (xi0e.t (rR xi0e.mk) v0 v1 v2 v3 v4 v5) (by kernel_rfl) (by unfold xi0e.t; repeat' first | exact sR | exact sN | exact sL | apply sC | (apply sB; intro _)) h
def xi0c.s4 (v0:List (Int × Int × Bool)) (v1:List (List Int × List Int × Bool)) (v2:Int) (v3:Int) (v4:Int) (v5:Int):List Cell:=⟨(.val .agg),[.d .deep Yc v0,.d .deep Yb v1],true,false,false,0,0⟩::vc (iL v2)::vc (iL v3)::⟨(.box false),[.lent ⟨0,0,none⟩ none,.lent ⟨0,1,none⟩ none],false,false,false,0,0⟩::nn 22 (vc (iL v4)::vc (iL v5)::nn 34 ([]))
def xi0c.q4:=fun v0 v1 v2 v3 v4 v5 => loopAtL E (callT E tab) 95 Try.f95 3 [.r,.r,.r,.l,.r,.b] (xi0c.s4 v0 v1 v2 v3 v4 v5)
def xi0c.l4:=fun v0 v1 v2 v3 v4 v5 => tOf xi0c.mk (xi0c.q4 v0 v1 v2 v3 v4 v5)
def xi0c.t {γ:Type} (ret:(Bool × (List (Int × Int × Bool)) × (List (List Int × List Int × Bool)))→Option γ) (lp4:(List (Int × Int × Bool))→(List (List Int × List Int × Bool))→Int→Int→Int→Int→Option γ) (v0:List (Int × Int × Bool)) (v1:List (List Int × List Int × Bool)) (v2:Int) (v3:Int):Option γ :=
 bif decide ((0:Int)≤v2) then
 bif decide (v2.toNat<v0.length) then
 bif decide (v2.toNat<v0.length) then
 bif decide (v2.toNat<v0.length) then
 bif decide   (v2.toNat<    (v0.set v2.toNat         ((v0.getD v2.toNat ((0:Int),(0:Int),Bool.false)).fst,          (v0.getD v2.toNat ((0:Int),(0:Int),Bool.false)).fst,          (v0.getD v2.toNat ((0:Int),(0:Int),Bool.false)).snd.snd)).length) then
 lp4 ((v0.set v2.toNat       ((v0.getD v2.toNat ((0:Int),(0:Int),Bool.false)).fst,        (v0.getD v2.toNat ((0:Int),(0:Int),Bool.false)).fst,        (v0.getD v2.toNat ((0:Int),(0:Int),Bool.false)).snd.snd)).set   v2.toNat   (((v0.set v2.toNat             ((v0.getD v2.toNat ((0:Int),(0:Int),Bool.false)).fst,              (v0.getD v2.toNat ((0:Int),(0:Int),Bool.false)).fst,              (v0.getD v2.toNat ((0:Int),(0:Int),Bool.false)).snd.snd)).getD         v2.toNat ((0:Int),(0:Int),Bool.false)).fst,    ((v0.set v2.toNat               ((v0.getD v2.toNat ((0:Int),(0:Int),Bool.false)).fst,                (v0.getD v2.toNat ((0:Int),(0:Int),Bool.false)).fst,                (v0.getD v2.toNat ((0:Int),(0:Int),Bool.false)).snd.snd)).getD           v2.toNat ((0:Int),(0:Int),Bool.false)).snd.fst,    Bool.true)) (v1) (v2) (v3) ((↑((v0.set v2.toNat             ((v0.getD v2.toNat ((0:Int),(0:Int),Bool.false)).fst,              (v0.getD v2.toNat ((0:Int),(0:Int),Bool.false)).fst,              (v0.getD v2.toNat ((0:Int),(0:Int),Bool.false)).snd.snd)).set         v2.toNat         (((v0.set v2.toNat                   ((v0.getD v2.toNat ((0:Int),(0:Int),Bool.false)).fst,                    (v0.getD v2.toNat ((0:Int),(0:Int),Bool.false)).fst,                    (v0.getD v2.toNat ((0:Int),(0:Int),Bool.false)).snd.snd)).getD               v2.toNat ((0:Int),(0:Int),Bool.false)).fst,          ((v0.set v2.toNat                     ((v0.getD v2.toNat ((0:Int),(0:Int),Bool.false)).fst,                      (v0.getD v2.toNat ((0:Int),(0:Int),Bool.false)).fst,                      (v0.getD v2.toNat ((0:Int),(0:Int),Bool.false)).snd.snd)).getD                 v2.toNat ((0:Int),(0:Int),Bool.false)).snd.fst,          Bool.true)).length:  Int)) ((0:Int))
 else
 none
 else
 none
 else
 none
 else
 none
 else
 none
def xi0c.t4 {γ:Type} (ret:(Bool × (List (Int × Int × Bool)) × (List (List Int × List Int × Bool)))→Option γ) (lp4:(List (Int × Int × Bool))→(List (List Int × List Int × Bool))→Int→Int→Int→Int→Option γ) (v0:List (Int × Int × Bool)) (v1:List (List Int × List Int × Bool)) (v2:Int) (v3:Int) (v4:Int) (v5:Int):Option γ :=
 bif decide (v5<v4) then
 bif v5 == v2 then
 lp4 (v0) (v1) (v2) (v3) (v4) (IntKind.i64.wrap (v5+(1:Int)))
 else
 bif decide ((0:Int)≤IntKind.i64.wrap (IntKind.i64.wrap (v5 * (↑v0.length:Int))+v2)) then
 bif decide ((IntKind.i64.wrap (IntKind.i64.wrap (v5 * (↑v0.length:Int))+v2)).toNat<v1.length) then
 bif decide ((IntKind.i64.wrap (IntKind.i64.wrap (v5 * (↑v0.length:Int))+v2)).toNat<v1.length) then
 bif decide ((0:Int)≤IntKind.i64.wrap (IntKind.i64.wrap (v2 * (↑v0.length:Int))+v5)) then
 bif decide   ((IntKind.i64.wrap (IntKind.i64.wrap (v2 * (↑v0.length:Int))+v5)).toNat<    (v1.set (IntKind.i64.wrap (IntKind.i64.wrap (v5 * (↑v0.length:Int))+v2)).toNat         ((v1.getD (IntKind.i64.wrap (IntKind.i64.wrap (v5 * (↑v0.length:Int))+v2)).toNat               ([],[],Bool.false)).fst,          (v1.getD (IntKind.i64.wrap (IntKind.i64.wrap (v5 * (↑v0.length:Int))+v2)).toNat                 ([],[],Bool.false)).snd.fst,          v5 != v3)).length) then
 bif decide   ((IntKind.i64.wrap (IntKind.i64.wrap (v2 * (↑v0.length:Int))+v5)).toNat<    (v1.set (IntKind.i64.wrap (IntKind.i64.wrap (v5 * (↑v0.length:Int))+v2)).toNat         ((v1.getD (IntKind.i64.wrap (IntKind.i64.wrap (v5 * (↑v0.length:Int))+v2)).toNat               ([],[],Bool.false)).fst,          (v1.getD (IntKind.i64.wrap (IntKind.i64.wrap (v5 * (↑v0.length:Int))+v2)).toNat                 ([],[],Bool.false)).snd.fst,          v5 != v3)).length) then
 bif decide   ((IntKind.i64.wrap (IntKind.i64.wrap (v2 * (↑v0.length:Int))+v5)).toNat<    (v1.set (IntKind.i64.wrap (IntKind.i64.wrap (v5 * (↑v0.length:Int))+v2)).toNat         ((v1.getD (IntKind.i64.wrap (IntKind.i64.wrap (v5 * (↑v0.length:Int))+v2)).toNat               ([],[],Bool.false)).fst,          (v1.getD (IntKind.i64.wrap (IntKind.i64.wrap (v5 * (↑v0.length:Int))+v2)).toNat                 ([],[],Bool.false)).snd.fst,          v5 != v3)).length) then
 bif (↑((v1.set (IntKind.i64.wrap (IntKind.i64.wrap (v5 * (↑v0.length:Int))+v2)).toNat                 ((v1.getD (IntKind.i64.wrap (IntKind.i64.wrap (v5 * (↑v0.length:Int))+v2)).toNat                       ([],[],Bool.false)).fst,                  (v1.getD (IntKind.i64.wrap (IntKind.i64.wrap (v5 * (↑v0.length:Int))+v2)).toNat                         ([],[],Bool.false)).snd.fst,                  v5 != v3)).getD             (IntKind.i64.wrap (IntKind.i64.wrap (v2 * (↑v0.length:Int))+v5)).toNat             ([],[],Bool.false)).fst.length:    Int) ==   (12:Int) then
 ret (Bool.false,v0,v1.set (IntKind.i64.wrap (IntKind.i64.wrap (v5 * (↑v0.length:Int))+v2)).toNat   ((v1.getD (IntKind.i64.wrap (IntKind.i64.wrap (v5 * (↑v0.length:Int))+v2)).toNat ([],[],Bool.false)).fst,    (v1.getD (IntKind.i64.wrap (IntKind.i64.wrap (v5 * (↑v0.length:Int))+v2)).toNat           ([],[],Bool.false)).snd.fst,    v5 != v3))
 else
 bif decide   ((IntKind.i64.wrap (IntKind.i64.wrap (v2 * (↑v0.length:Int))+v5)).toNat<    (v1.set (IntKind.i64.wrap (IntKind.i64.wrap (v5 * (↑v0.length:Int))+v2)).toNat         ((v1.getD (IntKind.i64.wrap (IntKind.i64.wrap (v5 * (↑v0.length:Int))+v2)).toNat               ([],[],Bool.false)).fst,          (v1.getD (IntKind.i64.wrap (IntKind.i64.wrap (v5 * (↑v0.length:Int))+v2)).toNat                 ([],[],Bool.false)).snd.fst,          v5 != v3)).length) then
 bif decide   ((IntKind.i64.wrap (IntKind.i64.wrap (v2 * (↑v0.length:Int))+v5)).toNat<    (v1.set (IntKind.i64.wrap (IntKind.i64.wrap (v5 * (↑v0.length:Int))+v2)).toNat         ((v1.getD (IntKind.i64.wrap (IntKind.i64.wrap (v5 * (↑v0.length:Int))+v2)).toNat               ([],[],Bool.false)).fst,          (v1.getD (IntKind.i64.wrap (IntKind.i64.wrap (v5 * (↑v0.length:Int))+v2)).toNat                 ([],[],Bool.false)).snd.fst,          v5 != v3)).length) then
 bif decide   (((v1.set (IntKind.i64.wrap (IntKind.i64.wrap (v5 * (↑v0.length:Int))+v2)).toNat                 ((v1.getD (IntKind.i64.wrap (IntKind.i64.wrap (v5 * (↑v0.length:Int))+v2)).toNat                       ([],[],Bool.false)).fst,                  (v1.getD (IntKind.i64.wrap (IntKind.i64.wrap (v5 * (↑v0.length:Int))+v2)).toNat                         ([],[],Bool.false)).snd.fst,                  v5 != v3)).getD             (IntKind.i64.wrap (IntKind.i64.wrap (v2 * (↑v0.length:Int))+v5)).toNat             ([],[],Bool.false)).fst.length+      [(0:Int)].length≤    (4294967296:Nat)) then
 bif decide   ((IntKind.i64.wrap (IntKind.i64.wrap (v2 * (↑v0.length:Int))+v5)).toNat=    (IntKind.i64.wrap (IntKind.i64.wrap (v2 * (↑v0.length:Int))+v5)).toNat) then
 bif decide   ((IntKind.i64.wrap (IntKind.i64.wrap (v2 * (↑v0.length:Int))+v5)).toNat<    (v1.set (IntKind.i64.wrap (IntKind.i64.wrap (v5 * (↑v0.length:Int))+v2)).toNat         ((v1.getD (IntKind.i64.wrap (IntKind.i64.wrap (v5 * (↑v0.length:Int))+v2)).toNat               ([],[],Bool.false)).fst,          (v1.getD (IntKind.i64.wrap (IntKind.i64.wrap (v5 * (↑v0.length:Int))+v2)).toNat                 ([],[],Bool.false)).snd.fst,          v5 != v3)).length) then
 lp4 (v0) ((v1.set (IntKind.i64.wrap (IntKind.i64.wrap (v5 * (↑v0.length:Int))+v2)).toNat       ((v1.getD (IntKind.i64.wrap (IntKind.i64.wrap (v5 * (↑v0.length:Int))+v2)).toNat             ([],[],Bool.false)).fst,        (v1.getD (IntKind.i64.wrap (IntKind.i64.wrap (v5 * (↑v0.length:Int))+v2)).toNat               ([],[],Bool.false)).snd.fst,        v5 != v3)).set   (IntKind.i64.wrap (IntKind.i64.wrap (v2 * (↑v0.length:Int))+v5)).toNat   (((v1.set (IntKind.i64.wrap (IntKind.i64.wrap (v5 * (↑v0.length:Int))+v2)).toNat               ((v1.getD (IntKind.i64.wrap (IntKind.i64.wrap (v5 * (↑v0.length:Int))+v2)).toNat                     ([],[],Bool.false)).fst,                (v1.getD (IntKind.i64.wrap (IntKind.i64.wrap (v5 * (↑v0.length:Int))+v2)).toNat                       ([],[],Bool.false)).snd.fst,                v5 != v3)).getD           (IntKind.i64.wrap (IntKind.i64.wrap (v2 * (↑v0.length:Int))+v5)).toNat ([],[],Bool.false)).fst ++       [(0:Int)],    ((v1.set (IntKind.i64.wrap (IntKind.i64.wrap (v5 * (↑v0.length:Int))+v2)).toNat             ((v1.getD (IntKind.i64.wrap (IntKind.i64.wrap (v5 * (↑v0.length:Int))+v2)).toNat                   ([],[],Bool.false)).fst,              (v1.getD (IntKind.i64.wrap (IntKind.i64.wrap (v5 * (↑v0.length:Int))+v2)).toNat                     ([],[],Bool.false)).snd.fst,              v5 != v3)).getD         (IntKind.i64.wrap (IntKind.i64.wrap (v2 * (↑v0.length:Int))+v5)).toNat ([],[],Bool.false)).snd)) (v2) (v3) (v4) (IntKind.i64.wrap (v5+(1:Int)))
 else
 none
 else
 none
 else
 none
 else
 none
 else
 none
 else
 none
 else
 none
 else
 none
 else
 none
 else
 none
 else
 none
 else
 none
 else
 ret (Bool.true,v0,v1)
theorem xi0c.u:∀ b,xi0c.un (xi0c.mk b)=b:=fun _ => by kernel_rfl
theorem xi0c.eq (v0 v1 v2 v3) {b} (h:xi0c.t some xi0c.l4 v0 v1 v2 v3=some b):xi0c v0 v1 v2 v3=some b:=eqF xi0c.u Try.f95 (callT_le E tab) rfl rfl rfl (xi0c.t (rR xi0c.mk) xi0c.q4 v0 v1 v2 v3) (by kernel_rfl) (by unfold xi0c.t; repeat' first | exact sR | exact sN | exact sL | apply sC | (apply sB; intro _)) h
theorem xi0c.eq4 (v0 v1 v2 v3 v4 v5) {b} (h:xi0c.t4 some xi0c.l4 v0 v1 v2 v3 v4 v5=some b):xi0c.l4 v0 v1 v2 v3 v4 v5=some b:=eqL xi0c.u (xi0c.t4 (rR xi0c.mk) xi0c.q4 v0 v1 v2 v3 v4 v5) (by kernel_rfl) (by unfold xi0c.t4; repeat' first | exact sR | exact sN | exact sL | apply sC | (apply sB; intro _)) h
def xi0d.t {γ:Type} (ret:(Bool × (List (Int × Int × Bool)) × (List (List Int × List Int × Bool)))→Option γ) (v0:List (Int × Int × Bool)) (v1:List (List Int × List Int × Bool)) (v2:Int) (v3:Int) (v4:Int) (v5:Int):Option γ :=
 bif decide ((0:Int)≤IntKind.i64.wrap (IntKind.i64.wrap (v3 * (↑v0.length:Int))+v4)) then
 bif decide ((IntKind.i64.wrap (IntKind.i64.wrap (v3 * (↑v0.length:Int))+v4)).toNat<v1.length) then
 bif decide ((0:Int)≤v3) then
 bif decide (v3.toNat<v0.length) then
 bif decide (v3.toNat<v0.length) then
 (xi1f (v5) ((1:Int)) (if Bool.true=Bool.true then   if (1000000:Int)<(v0.getD v3.toNat ((0:Int),(0:Int),Bool.false)).fst then (1000000:Int)   else (v0.getD v3.toNat ((0:Int),(0:Int),Bool.false)).fst else   if (1000000:Int) > (v0.getD v3.toNat ((0:Int),(0:Int),Bool.false)).fst then (1000000:Int)   else (v0.getD v3.toNat ((0:Int),(0:Int),Bool.false)).fst)).bind fun (r0:Bool) =>
 bif !r0 then
 ret (Bool.false,v0,v1)
 else
 bif decide ((IntKind.i64.wrap (IntKind.i64.wrap (v3 * (↑v0.length:Int))+v4)).toNat<v1.length) then
 bif decide ((IntKind.i64.wrap (IntKind.i64.wrap (v3 * (↑v0.length:Int))+v4)).toNat<v1.length) then
 bif (↑(v1.getD (IntKind.i64.wrap (IntKind.i64.wrap (v3 * (↑v0.length:Int))+v4)).toNat             ([],[],Bool.false)).fst.length:    Int) ==   (12:Int) then
 ret (Bool.false,v0,v1)
 else
 bif decide ((0:Int)≤v3) then
 bif decide (v3.toNat<v0.length) then
 bif decide (v3.toNat<v0.length) then
 bif decide ((0:Int)≤v3) then
 bif decide (v3.toNat<v0.length) then
 bif decide (v3.toNat<v0.length) then
 bif decide ((IntKind.i64.wrap (IntKind.i64.wrap (v3 * (↑v0.length:Int))+v4)).toNat<v1.length) then
 bif decide ((IntKind.i64.wrap (IntKind.i64.wrap (v3 * (↑v0.length:Int))+v4)).toNat<v1.length) then
 bif decide   ((v1.getD (IntKind.i64.wrap (IntKind.i64.wrap (v3 * (↑v0.length:Int))+v4)).toNat             ([],[],Bool.false)).fst.length+      [v5].length≤    (4294967296:Nat)) then
 bif decide   ((IntKind.i64.wrap (IntKind.i64.wrap (v3 * (↑v0.length:Int))+v4)).toNat=    (IntKind.i64.wrap (IntKind.i64.wrap (v3 * (↑v0.length:Int))+v4)).toNat) then
 bif decide ((IntKind.i64.wrap (IntKind.i64.wrap (v3 * (↑v0.length:Int))+v4)).toNat<v1.length) then
 ret (Bool.true,v0.set v3.toNat   (IntKind.i64.wrap ((v0.getD v3.toNat ((0:Int),(0:Int),Bool.false)).fst - v5),    (v0.getD v3.toNat ((0:Int),(0:Int),Bool.false)).snd),v1.set (IntKind.i64.wrap (IntKind.i64.wrap (v3 * (↑v0.length:Int))+v4)).toNat   ((v1.getD (IntKind.i64.wrap (IntKind.i64.wrap (v3 * (↑v0.length:Int))+v4)).toNat           ([],[],Bool.false)).fst ++       [v5],    (v1.getD (IntKind.i64.wrap (IntKind.i64.wrap (v3 * (↑v0.length:Int))+v4)).toNat ([],[],Bool.false)).snd))
 else
 none
 else
 none
 else
 none
 else
 none
 else
 none
 else
 none
 else
 none
 else
 none
 else
 none
 else
 none
 else
 none
 else
 none
 else
 none
 else
 none
 else
 none
 else
 none
 else
 none
 else
 none
theorem xi0d.u:∀ b,xi0d.un (xi0d.mk b)=b:=fun _ => by kernel_rfl
theorem xi0d.eq (v0 v1 v2 v3 v4 v5) {b} (h:xi0d.t some v0 v1 v2 v3 v4 v5=some b):xi0d v0 v1 v2 v3 v4 v5=some b:=eqF xi0d.u Try.f96 (callT_le E tab) rfl rfl rfl (xi0d.t (rR xi0d.mk) v0 v1 v2 v3 v4 v5) (by kernel_rfl) (by unfold xi0d.t; repeat' first | exact sR | exact sN | exact sL | apply sC | (apply sB; intro _)) h
def xi0f.t {γ:Type} (ret:(Bool × (List (Int × Int × Bool)) × (List (List Int × List Int × Bool)))→Option γ) (v0:List (Int × Int × Bool)) (v1:List (List Int × List Int × Bool)) (v2:Int) (v3:Int):Option γ :=
 bif decide ((0:Int)≤IntKind.i64.wrap (IntKind.i64.wrap (v2 * (↑v0.length:Int))+v3)) then
 bif decide ((IntKind.i64.wrap (IntKind.i64.wrap (v2 * (↑v0.length:Int))+v3)).toNat<v1.length) then
 bif decide ((IntKind.i64.wrap (IntKind.i64.wrap (v2 * (↑v0.length:Int))+v3)).toNat<v1.length) then
 bif decide ((IntKind.i64.wrap (IntKind.i64.wrap (v2 * (↑v0.length:Int))+v3)).toNat<v1.length) then
 bif (↑(v1.getD (IntKind.i64.wrap (IntKind.i64.wrap (v2 * (↑v0.length:Int))+v3)).toNat             ([],[],Bool.false)).fst.length:    Int) ==   (0:Int) then
 ret (Bool.false,v0,v1)
 else
 bif decide ((IntKind.i64.wrap (IntKind.i64.wrap (v2 * (↑v0.length:Int))+v3)).toNat<v1.length) then
 bif decide ((IntKind.i64.wrap (IntKind.i64.wrap (v2 * (↑v0.length:Int))+v3)).toNat<v1.length) then
 bif decide   ((↑(v1.getD (IntKind.i64.wrap (IntKind.i64.wrap (v2 * (↑v0.length:Int))+v3)).toNat                 ([],[],Bool.false)).snd.fst.length:      Int) ≥     (200:Int)) then
 ret (Bool.false,v0,v1)
 else
 bif decide ((IntKind.i64.wrap (IntKind.i64.wrap (v2 * (↑v0.length:Int))+v3)).toNat<v1.length) then
 bif decide ((IntKind.i64.wrap (IntKind.i64.wrap (v2 * (↑v0.length:Int))+v3)).toNat<v1.length) then
 bif decide   (Int.toNat (0:Int)<    (v1.getD (IntKind.i64.wrap (IntKind.i64.wrap (v2 * (↑v0.length:Int))+v3)).toNat           ([],[],Bool.false)).fst.length) then
 bif decide ((IntKind.i64.wrap (IntKind.i64.wrap (v2 * (↑v0.length:Int))+v3)).toNat<v1.length) then
 bif decide   (Int.toNat (0:Int)<    (v1.getD (IntKind.i64.wrap (IntKind.i64.wrap (v2 * (↑v0.length:Int))+v3)).toNat           ([],[],Bool.false)).fst.length) then
 bif decide ((IntKind.i64.wrap (IntKind.i64.wrap (v2 * (↑v0.length:Int))+v3)).toNat<v1.length) then
 bif decide ((IntKind.i64.wrap (IntKind.i64.wrap (v2 * (↑v0.length:Int))+v3)).toNat<v1.length) then
 bif decide ((IntKind.i64.wrap (IntKind.i64.wrap (v2 * (↑v0.length:Int))+v3)).toNat<v1.length) then
 bif decide   ((Option.some (1:Int)).getD (0:Int)≤    (↑(v1.getD (IntKind.i64.wrap (IntKind.i64.wrap (v2 * (↑v0.length:Int))+v3)).toNat               ([],[],Bool.false)).fst.length:      Int)) then
 bif decide ((IntKind.i64.wrap (IntKind.i64.wrap (v2 * (↑v0.length:Int))+v3)).toNat<v1.length) then
 bif decide   ((IntKind.i64.wrap (IntKind.i64.wrap (v2 * (↑v0.length:Int))+v3)).toNat=    (IntKind.i64.wrap (IntKind.i64.wrap (v2 * (↑v0.length:Int))+v3)).toNat) then
 bif decide ((IntKind.i64.wrap (IntKind.i64.wrap (v2 * (↑v0.length:Int))+v3)).toNat<v1.length) then
 bif (v1.getD (IntKind.i64.wrap (IntKind.i64.wrap (v2 * (↑v0.length:Int))+v3)).toNat ([],[],Bool.false)).fst.getD     (Int.toNat (0:Int)) (0:Int) !=   (0:Int) then
 bif decide ((0:Int)≤v3) then
 bif decide (v3.toNat<v0.length) then
 bif decide (v3.toNat<v0.length) then
 bif decide ((0:Int)≤v3) then
 bif decide (v3.toNat<v0.length) then
 bif decide (v3.toNat<v0.length) then
 bif decide   ((IntKind.i64.wrap (IntKind.i64.wrap (v2 * (↑v0.length:Int))+v3)).toNat<    (v1.set (IntKind.i64.wrap (IntKind.i64.wrap (v2 * (↑v0.length:Int))+v3)).toNat         (List.drop ((Option.some (1:Int)).getD (0:Int)).toNat             (v1.getD (IntKind.i64.wrap (IntKind.i64.wrap (v2 * (↑v0.length:Int))+v3)).toNat                 ([],[],Bool.false)).fst,          (v1.getD (IntKind.i64.wrap (IntKind.i64.wrap (v2 * (↑v0.length:Int))+v3)).toNat               ([],[],Bool.false)).snd)).length) then
 bif ((v1.set (IntKind.i64.wrap (IntKind.i64.wrap (v2 * (↑v0.length:Int))+v3)).toNat           (List.drop ((Option.some (1:Int)).getD (0:Int)).toNat               (v1.getD (IntKind.i64.wrap (IntKind.i64.wrap (v2 * (↑v0.length:Int))+v3)).toNat                   ([],[],Bool.false)).fst,            (v1.getD (IntKind.i64.wrap (IntKind.i64.wrap (v2 * (↑v0.length:Int))+v3)).toNat                 ([],[],Bool.false)).snd)).getD       (IntKind.i64.wrap (IntKind.i64.wrap (v2 * (↑v0.length:Int))+v3)).toNat ([],[],Bool.false)).snd.snd then
 bif decide   ((IntKind.i64.wrap (IntKind.i64.wrap (v2 * (↑v0.length:Int))+v3)).toNat<    (v1.set (IntKind.i64.wrap (IntKind.i64.wrap (v2 * (↑v0.length:Int))+v3)).toNat         (List.drop ((Option.some (1:Int)).getD (0:Int)).toNat             (v1.getD (IntKind.i64.wrap (IntKind.i64.wrap (v2 * (↑v0.length:Int))+v3)).toNat                 ([],[],Bool.false)).fst,          (v1.getD (IntKind.i64.wrap (IntKind.i64.wrap (v2 * (↑v0.length:Int))+v3)).toNat               ([],[],Bool.false)).snd)).length) then
 bif decide   ((IntKind.i64.wrap (IntKind.i64.wrap (v2 * (↑v0.length:Int))+v3)).toNat<    (v1.set (IntKind.i64.wrap (IntKind.i64.wrap (v2 * (↑v0.length:Int))+v3)).toNat         (List.drop ((Option.some (1:Int)).getD (0:Int)).toNat             (v1.getD (IntKind.i64.wrap (IntKind.i64.wrap (v2 * (↑v0.length:Int))+v3)).toNat                 ([],[],Bool.false)).fst,          (v1.getD (IntKind.i64.wrap (IntKind.i64.wrap (v2 * (↑v0.length:Int))+v3)).toNat               ([],[],Bool.false)).snd)).length) then
 bif decide   (((v1.set (IntKind.i64.wrap (IntKind.i64.wrap (v2 * (↑v0.length:Int))+v3)).toNat                   (List.drop ((Option.some (1:Int)).getD (0:Int)).toNat                       (v1.getD (IntKind.i64.wrap (IntKind.i64.wrap (v2 * (↑v0.length:Int))+v3)).toNat                           ([],[],Bool.false)).fst,                    (v1.getD (IntKind.i64.wrap (IntKind.i64.wrap (v2 * (↑v0.length:Int))+v3)).toNat                         ([],[],Bool.false)).snd)).getD               (IntKind.i64.wrap (IntKind.i64.wrap (v2 * (↑v0.length:Int))+v3)).toNat               ([],[],Bool.false)).snd.fst.length+      [(v1.getD (IntKind.i64.wrap (IntKind.i64.wrap (v2 * (↑v0.length:Int))+v3)).toNat                   ([],[],Bool.false)).fst.getD             (Int.toNat (0:Int)) (0:Int)].length≤    (4294967296:Nat)) then
 bif decide   ((IntKind.i64.wrap (IntKind.i64.wrap (v2 * (↑v0.length:Int))+v3)).toNat=    (IntKind.i64.wrap (IntKind.i64.wrap (v2 * (↑v0.length:Int))+v3)).toNat) then
 bif decide   ((IntKind.i64.wrap (IntKind.i64.wrap (v2 * (↑v0.length:Int))+v3)).toNat<    (v1.set (IntKind.i64.wrap (IntKind.i64.wrap (v2 * (↑v0.length:Int))+v3)).toNat         (List.drop ((Option.some (1:Int)).getD (0:Int)).toNat             (v1.getD (IntKind.i64.wrap (IntKind.i64.wrap (v2 * (↑v0.length:Int))+v3)).toNat                 ([],[],Bool.false)).fst,          (v1.getD (IntKind.i64.wrap (IntKind.i64.wrap (v2 * (↑v0.length:Int))+v3)).toNat               ([],[],Bool.false)).snd)).length) then
 ret (Bool.true,v0.set v3.toNat   (IntKind.i64.wrap       ((v0.getD v3.toNat ((0:Int),(0:Int),Bool.false)).fst+        (v1.getD (IntKind.i64.wrap (IntKind.i64.wrap (v2 * (↑v0.length:Int))+v3)).toNat                 ([],[],Bool.false)).fst.getD           (Int.toNat (0:Int)) (0:Int)),    (v0.getD v3.toNat ((0:Int),(0:Int),Bool.false)).snd),(v1.set (IntKind.i64.wrap (IntKind.i64.wrap (v2 * (↑v0.length:Int))+v3)).toNat       (List.drop ((Option.some (1:Int)).getD (0:Int)).toNat           (v1.getD (IntKind.i64.wrap (IntKind.i64.wrap (v2 * (↑v0.length:Int))+v3)).toNat               ([],[],Bool.false)).fst,        (v1.getD (IntKind.i64.wrap (IntKind.i64.wrap (v2 * (↑v0.length:Int))+v3)).toNat             ([],[],Bool.false)).snd)).set   (IntKind.i64.wrap (IntKind.i64.wrap (v2 * (↑v0.length:Int))+v3)).toNat   (((v1.set (IntKind.i64.wrap (IntKind.i64.wrap (v2 * (↑v0.length:Int))+v3)).toNat             (List.drop ((Option.some (1:Int)).getD (0:Int)).toNat                 (v1.getD (IntKind.i64.wrap (IntKind.i64.wrap (v2 * (↑v0.length:Int))+v3)).toNat                     ([],[],Bool.false)).fst,              (v1.getD (IntKind.i64.wrap (IntKind.i64.wrap (v2 * (↑v0.length:Int))+v3)).toNat                   ([],[],Bool.false)).snd)).getD         (IntKind.i64.wrap (IntKind.i64.wrap (v2 * (↑v0.length:Int))+v3)).toNat ([],[],Bool.false)).fst,    ((v1.set (IntKind.i64.wrap (IntKind.i64.wrap (v2 * (↑v0.length:Int))+v3)).toNat                 (List.drop ((Option.some (1:Int)).getD (0:Int)).toNat                     (v1.getD (IntKind.i64.wrap (IntKind.i64.wrap (v2 * (↑v0.length:Int))+v3)).toNat                         ([],[],Bool.false)).fst,                  (v1.getD (IntKind.i64.wrap (IntKind.i64.wrap (v2 * (↑v0.length:Int))+v3)).toNat                       ([],[],Bool.false)).snd)).getD             (IntKind.i64.wrap (IntKind.i64.wrap (v2 * (↑v0.length:Int))+v3)).toNat             ([],[],Bool.false)).snd.fst ++       [(v1.getD (IntKind.i64.wrap (IntKind.i64.wrap (v2 * (↑v0.length:Int))+v3)).toNat                 ([],[],Bool.false)).fst.getD           (Int.toNat (0:Int)) (0:Int)],    ((v1.set (IntKind.i64.wrap (IntKind.i64.wrap (v2 * (↑v0.length:Int))+v3)).toNat               (List.drop ((Option.some (1:Int)).getD (0:Int)).toNat                   (v1.getD (IntKind.i64.wrap (IntKind.i64.wrap (v2 * (↑v0.length:Int))+v3)).toNat                       ([],[],Bool.false)).fst,                (v1.getD (IntKind.i64.wrap (IntKind.i64.wrap (v2 * (↑v0.length:Int))+v3)).toNat                     ([],[],Bool.false)).snd)).getD           (IntKind.i64.wrap (IntKind.i64.wrap (v2 * (↑v0.length:Int))+v3)).toNat           ([],[],Bool.false)).snd.snd))
 else
 none
 else
 none
 else
 none
 else
 none
 else
 none
 else
 ret (Bool.true,v0.set v3.toNat   (IntKind.i64.wrap       ((v0.getD v3.toNat ((0:Int),(0:Int),Bool.false)).fst+        (v1.getD (IntKind.i64.wrap (IntKind.i64.wrap (v2 * (↑v0.length:Int))+v3)).toNat                 ([],[],Bool.false)).fst.getD           (Int.toNat (0:Int)) (0:Int)),    (v0.getD v3.toNat ((0:Int),(0:Int),Bool.false)).snd),v1.set (IntKind.i64.wrap (IntKind.i64.wrap (v2 * (↑v0.length:Int))+v3)).toNat   (List.drop ((Option.some (1:Int)).getD (0:Int)).toNat       (v1.getD (IntKind.i64.wrap (IntKind.i64.wrap (v2 * (↑v0.length:Int))+v3)).toNat           ([],[],Bool.false)).fst,    (v1.getD (IntKind.i64.wrap (IntKind.i64.wrap (v2 * (↑v0.length:Int))+v3)).toNat ([],[],Bool.false)).snd))
 else
 none
 else
 none
 else
 none
 else
 none
 else
 none
 else
 none
 else
 none
 else
 bif decide ((0:Int)≤v3) then
 bif decide (v3.toNat<v0.length) then
 bif decide (v3.toNat<v0.length) then
 bif !(v0.getD v3.toNat ((0:Int),(0:Int),Bool.false)).snd.snd then
 (xi0c (v0) (v1.set (IntKind.i64.wrap (IntKind.i64.wrap (v2 * (↑v0.length:Int))+v3)).toNat   (List.drop ((Option.some (1:Int)).getD (0:Int)).toNat       (v1.getD (IntKind.i64.wrap (IntKind.i64.wrap (v2 * (↑v0.length:Int))+v3)).toNat           ([],[],Bool.false)).fst,    (v1.getD (IntKind.i64.wrap (IntKind.i64.wrap (v2 * (↑v0.length:Int))+v3)).toNat ([],[],Bool.false)).snd)) (v3) (v2)).bind fun (r0:Bool × (List (Int × Int × Bool)) × (List (List Int × List Int × Bool))) =>
 ret (r0.fst,r0.snd.fst,r0.snd.snd)
 else
 bif decide   ((IntKind.i64.wrap (IntKind.i64.wrap (v2 * (↑v0.length:Int))+v3)).toNat<    (v1.set (IntKind.i64.wrap (IntKind.i64.wrap (v2 * (↑v0.length:Int))+v3)).toNat         (List.drop ((Option.some (1:Int)).getD (0:Int)).toNat             (v1.getD (IntKind.i64.wrap (IntKind.i64.wrap (v2 * (↑v0.length:Int))+v3)).toNat                 ([],[],Bool.false)).fst,          (v1.getD (IntKind.i64.wrap (IntKind.i64.wrap (v2 * (↑v0.length:Int))+v3)).toNat               ([],[],Bool.false)).snd)).length) then
 ret (Bool.true,v0,(v1.set (IntKind.i64.wrap (IntKind.i64.wrap (v2 * (↑v0.length:Int))+v3)).toNat       (List.drop ((Option.some (1:Int)).getD (0:Int)).toNat           (v1.getD (IntKind.i64.wrap (IntKind.i64.wrap (v2 * (↑v0.length:Int))+v3)).toNat               ([],[],Bool.false)).fst,        (v1.getD (IntKind.i64.wrap (IntKind.i64.wrap (v2 * (↑v0.length:Int))+v3)).toNat             ([],[],Bool.false)).snd)).set   (IntKind.i64.wrap (IntKind.i64.wrap (v2 * (↑v0.length:Int))+v3)).toNat   (((v1.set (IntKind.i64.wrap (IntKind.i64.wrap (v2 * (↑v0.length:Int))+v3)).toNat             (List.drop ((Option.some (1:Int)).getD (0:Int)).toNat                 (v1.getD (IntKind.i64.wrap (IntKind.i64.wrap (v2 * (↑v0.length:Int))+v3)).toNat                     ([],[],Bool.false)).fst,              (v1.getD (IntKind.i64.wrap (IntKind.i64.wrap (v2 * (↑v0.length:Int))+v3)).toNat                   ([],[],Bool.false)).snd)).getD         (IntKind.i64.wrap (IntKind.i64.wrap (v2 * (↑v0.length:Int))+v3)).toNat ([],[],Bool.false)).fst,    ((v1.set (IntKind.i64.wrap (IntKind.i64.wrap (v2 * (↑v0.length:Int))+v3)).toNat               (List.drop ((Option.some (1:Int)).getD (0:Int)).toNat                   (v1.getD (IntKind.i64.wrap (IntKind.i64.wrap (v2 * (↑v0.length:Int))+v3)).toNat                       ([],[],Bool.false)).fst,                (v1.getD (IntKind.i64.wrap (IntKind.i64.wrap (v2 * (↑v0.length:Int))+v3)).toNat                     ([],[],Bool.false)).snd)).getD           (IntKind.i64.wrap (IntKind.i64.wrap (v2 * (↑v0.length:Int))+v3)).toNat           ([],[],Bool.false)).snd.fst,    Bool.false))
 else
 none
 else
 none
 else
 none
 else
 none
 else
 none
 else
 none
 else
 none
 else
 none
 else
 none
 else
 none
 else
 none
 else
 none
 else
 none
 else
 none
 else
 none
 else
 none
 else
 none
 else
 none
 else
 none
 else
 none
 else
 none
 else
 none
theorem xi0f.u:∀ b,xi0f.un (xi0f.mk b)=b:=fun _ => by kernel_rfl
theorem xi0f.eq (v0 v1 v2 v3) {b} (h:xi0f.t some v0 v1 v2 v3=some b):xi0f v0 v1 v2 v3=some b:=eqF xi0f.u Try.f97 (callT_le E tab) rfl rfl rfl (xi0f.t (rR xi0f.mk) v0 v1 v2 v3) (by kernel_rfl) (by unfold xi0f.t; repeat' first | exact sR | exact sN | exact sL | apply sC | (apply sB; intro _)) h
end
end GoV

/- Equations of the program's functions (printed by wip/tools/emit.py). -/
namespace GoV
open Go Go.Proofs
set_option maxRecDepth 100000
noncomputable section

def xl1i.t {γ:Type} (ret:(Bool)→Option γ) (v0:List (Int × Int × Bool)) (v1:List (List Int × List Int × Bool)) (v2:List (Int × Int × Bool)) (v3:List (List Int × List Int × Bool)):Option γ :=
 (xl1c (v0) (v2)).bind fun (r0:Bool) =>
 bif !r0 then
 ret (Bool.false)
 else
 (xl1d (v1) (v3)).bind fun (r1:Bool) =>
 bif !r1 then
 ret (Bool.false)
 else
 ret (Bool.true)
theorem xl1i.u:∀ b,xl1i.un (xl1i.mk b)=b:=fun _ => by kernel_rfl
theorem xl1i.eq (v0 v1 v2 v3) {b} (h:xl1i.t some v0 v1 v2 v3=some b):xl1i v0 v1 v2 v3=some b:=eqF xl1i.u Try.f13 (callT_le E tab) rfl rfl rfl (xl1i.t (rR xl1i.mk) v0 v1 v2 v3) (by kernel_rfl) (by unfold xl1i.t; repeat' first | exact sR | exact sN | exact sL | apply sC | (apply sB; intro _)) h
def xl1c.s4 (v0:List (Int × Int × Bool)) (v1:List (Int × Int × Bool)) (v2:Int):List Cell:=vc (.d .fro Yc v0)::vc (.d .fro Yc v1)::nn 3 (vc (iL v2)::nn 21 ([]))
def xl1c.q4:=fun v0 v1 v2 => loopAtL E (callT E tab) 49 Try.f49 2 [.r,.r,.l,.r,.b] (xl1c.s4 v0 v1 v2)
def xl1c.l4:=fun v0 v1 v2 => tOf xl1c.mk (xl1c.q4 v0 v1 v2)
def xl1c.t {γ:Type} (ret:(Bool)→Option γ) (lp4:(List (Int × Int × Bool))→(List (Int × Int × Bool))→Int→Option γ) (v0:List (Int × Int × Bool)) (v1:List (Int × Int × Bool)):Option γ :=
 bif (↑v0.length:Int) != (↑v1.length:Int) then
 ret (Bool.false)
 else
 lp4 (v0) (v1) ((0:Int))
def xl1c.t4 {γ:Type} (ret:(Bool)→Option γ) (lp4:(List (Int × Int × Bool))→(List (Int × Int × Bool))→Int→Option γ) (v0:List (Int × Int × Bool)) (v1:List (Int × Int × Bool)) (v2:Int):Option γ :=
 bif decide (v2<(↑v0.length:Int)) then
 bif decide ((0:Int)≤v2) then
 bif decide (v2.toNat<v0.length) then
 bif decide ((0:Int)≤v2) then
 bif decide (v2.toNat<v1.length) then
 (xl1h ((v0.getD v2.toNat ((0:Int),(0:Int),Bool.false)).fst) ((v0.getD v2.toNat ((0:Int),(0:Int),Bool.false)).snd.fst) ((v0.getD v2.toNat ((0:Int),(0:Int),Bool.false)).snd.snd) ((v1.getD v2.toNat ((0:Int),(0:Int),Bool.false)).fst) ((v1.getD v2.toNat ((0:Int),(0:Int),Bool.false)).snd.fst) ((v1.getD v2.toNat ((0:Int),(0:Int),Bool.false)).snd.snd)).bind fun (r0:Bool) =>
 bif !r0 then
 ret (Bool.false)
 else
 lp4 (v0) (v1) (IntKind.i64.wrap (v2+(1:Int)))
 else
 none
 else
 none
 else
 none
 else
 none
 else
 ret (Bool.true)
theorem xl1c.u:∀ b,xl1c.un (xl1c.mk b)=b:=fun _ => by kernel_rfl
theorem xl1c.eq (v0 v1) {b} (h:xl1c.t some xl1c.l4 v0 v1=some b):xl1c v0 v1=some b:=eqF xl1c.u Try.f49 (callT_le E tab) rfl rfl rfl (xl1c.t (rR xl1c.mk) xl1c.q4 v0 v1) (by kernel_rfl) (by unfold xl1c.t; repeat' first | exact sR | exact sN | exact sL | apply sC | (apply sB; intro _)) h
theorem xl1c.eq4 (v0 v1 v2) {b} (h:xl1c.t4 some xl1c.l4 v0 v1 v2=some b):xl1c.l4 v0 v1 v2=some b:=eqL xl1c.u (xl1c.t4 (rR xl1c.mk) xl1c.q4 v0 v1 v2) (by kernel_rfl) (by unfold xl1c.t4; repeat' first | exact sR | exact sN | exact sL | apply sC | (apply sB; intro _)) h
def xl1h.t {γ:Type} (ret:(Bool)→Option γ) (v0:Int) (v1:Int) (v2:Bool) (v3:Int) (v4:Int) (v5:Bool):Option γ :=
 bif v0 != v3 then
 ret (Bool.false)
 else
 bif v1 != v4 then
 ret (Bool.false)
 else
 bif !v2 == v5 then
 ret (Bool.false)
 else
 ret (Bool.true)
theorem xl1h.u:∀ b,xl1h.un (xl1h.mk b)=b:=fun _ => by kernel_rfl
theorem xl1h.eq (v0 v1 v2 v3 v4 v5) {b} (h:xl1h.t some v0 v1 v2 v3 v4 v5=some b):xl1h v0 v1 v2 v3 v4 v5=some b:=eqF xl1h.u Try.f82 (callT_le E tab) rfl rfl rfl (xl1h.t (rR xl1h.mk) v0 v1 v2 v3 v4 v5) (by kernel_rfl) (by unfold xl1h.t; repeat' first | exact sR | exact sN | exact sL | apply sC | (apply sB; intro _)) h
def xl1d.s4 (v0:List (List Int × List Int × Bool)) (v1:List (List Int × List Int × Bool)) (v2:Int):List Cell:=vc (.d .fro Yb v0)::vc (.d .fro Yb v1)::nn 3 (vc (iL v2)::nn 21 ([]))
def xl1d.q4:=fun v0 v1 v2 => loopAtL E (callT E tab) 50 Try.f50 2 [.r,.r,.l,.r,.b] (xl1d.s4 v0 v1 v2)
def xl1d.l4:=fun v0 v1 v2 => tOf xl1d.mk (xl1d.q4 v0 v1 v2)
def xl1d.t {γ:Type} (ret:(Bool)→Option γ) (lp4:(List (List Int × List Int × Bool))→(List (List Int × List Int × Bool))→Int→Option γ) (v0:List (List Int × List Int × Bool)) (v1:List (List Int × List Int × Bool)):Option γ :=
 bif (↑v0.length:Int) != (↑v1.length:Int) then
 ret (Bool.false)
 else
 lp4 (v0) (v1) ((0:Int))
def xl1d.t4 {γ:Type} (ret:(Bool)→Option γ) (lp4:(List (List Int × List Int × Bool))→(List (List Int × List Int × Bool))→Int→Option γ) (v0:List (List Int × List Int × Bool)) (v1:List (List Int × List Int × Bool)) (v2:Int):Option γ :=
 bif decide (v2<(↑v0.length:Int)) then
 bif decide ((0:Int)≤v2) then
 bif decide (v2.toNat<v0.length) then
 bif decide ((0:Int)≤v2) then
 bif decide (v2.toNat<v1.length) then
 (xl1j ((v0.getD v2.toNat ([],[],Bool.false)).fst) ((v0.getD v2.toNat ([],[],Bool.false)).snd.fst) ((v0.getD v2.toNat ([],[],Bool.false)).snd.snd) ((v1.getD v2.toNat ([],[],Bool.false)).fst) ((v1.getD v2.toNat ([],[],Bool.false)).snd.fst) ((v1.getD v2.toNat ([],[],Bool.false)).snd.snd)).bind fun (r0:Bool) =>
 bif !r0 then
 ret (Bool.false)
 else
 lp4 (v0) (v1) (IntKind.i64.wrap (v2+(1:Int)))
 else
 none
 else
 none
 else
 none
 else
 none
 else
 ret (Bool.true)
theorem xl1d.u:∀ b,xl1d.un (xl1d.mk b)=b:=fun _ => by kernel_rfl
theorem xl1d.eq (v0 v1) {b} (h:xl1d.t some xl1d.l4 v0 v1=some b):xl1d v0 v1=some b:=eqF xl1d.u Try.f50 (callT_le E tab) rfl rfl rfl (xl1d.t (rR xl1d.mk) xl1d.q4 v0 v1) (by kernel_rfl) (by unfold xl1d.t; repeat' first | exact sR | exact sN | exact sL | apply sC | (apply sB; intro _)) h
theorem xl1d.eq4 (v0 v1 v2) {b} (h:xl1d.t4 some xl1d.l4 v0 v1 v2=some b):xl1d.l4 v0 v1 v2=some b:=eqL xl1d.u (xl1d.t4 (rR xl1d.mk) xl1d.q4 v0 v1 v2) (by kernel_rfl) (by unfold xl1d.t4; repeat' first | exact sR | exact sN | exact sL | apply sC | (apply sB; intro _)) h
def xl1j.t {γ:Type} (ret:(Bool)→Option γ) (v0:List Int) (v1:List Int) (v2:Bool) (v3:List Int) (v4:List Int) (v5:Bool):Option γ :=
 (xl1g (v0) (v3)).bind fun (r0:Bool) =>
 bif !r0 then
 ret (Bool.false)
 else
 (xl1g (v1) (v4)).bind fun (r1:Bool) =>
 bif !r1 then
 ret (Bool.false)
 else
 bif !v2 == v5 then
 ret (Bool.false)
 else
 ret (Bool.true)
theorem xl1j.u:∀ b,xl1j.un (xl1j.mk b)=b:=fun _ => by kernel_rfl
theorem xl1j.eq (v0 v1 v2 v3 v4 v5) {b} (h:xl1j.t some v0 v1 v2 v3 v4 v5=some b):xl1j v0 v1 v2 v3 v4 v5=some b:=eqF xl1j.u Try.f83 (callT_le E tab) rfl rfl rfl (xl1j.t (rR xl1j.mk) v0 v1 v2 v3 v4 v5) (by kernel_rfl) (by unfold xl1j.t; repeat' first | exact sR | exact sN | exact sL | apply sC | (apply sB; intro _)) h
def xl1g.s4 (v0:List Int) (v1:List Int) (v2:Int):List Cell:=vc (.d .fro (.sl (.int .i64)) v0)::vc (.d .fro (.sl (.int .i64)) v1)::nn 3 (vc (iL v2)::nn 20 ([]))
def xl1g.q4:=fun v0 v1 v2 => loopAtL E (callT E tab) 24 Try.f24 2 [.r,.r,.l,.r,.b] (xl1g.s4 v0 v1 v2)
def xl1g.l4:=fun v0 v1 v2 => tOf xl1g.mk (xl1g.q4 v0 v1 v2)
def xl1g.t {γ:Type} (ret:(Bool)→Option γ) (lp4:(List Int)→(List Int)→Int→Option γ) (v0:List Int) (v1:List Int):Option γ :=
 bif (↑v0.length:Int) != (↑v1.length:Int) then
 ret (Bool.false)
 else
 lp4 (v0) (v1) ((0:Int))
def xl1g.t4 {γ:Type} (ret:(Bool)→Option γ) (lp4:(List Int)→(List Int)→Int→Option γ) (v0:List Int) (v1:List Int) (v2:Int):Option γ :=
 bif decide (v2<(↑v0.length:Int)) then
 bif decide ((0:Int)≤v2) then
 bif decide (v2.toNat<v0.length) then
 bif decide ((0:Int)≤v2) then
 bif decide (v2.toNat<v1.length) then
 bif v0.getD v2.toNat (0:Int) != v1.getD v2.toNat (0:Int) then
 ret (Bool.false)
 else
 lp4 (v0) (v1) (IntKind.i64.wrap (v2+(1:Int)))
 else
 none
 else
 none
 else
 none
 else
 none
 else
 ret (Bool.true)
theorem xl1g.u:∀ b,xl1g.un (xl1g.mk b)=b:=fun _ => by kernel_rfl
theorem xl1g.eq (v0 v1) {b} (h:xl1g.t some xl1g.l4 v0 v1=some b):xl1g v0 v1=some b:=eqF xl1g.u Try.f24 (callT_le E tab) rfl rfl rfl (xl1g.t (rR xl1g.mk) xl1g.q4 v0 v1) (by kernel_rfl) (by unfold xl1g.t; repeat' first | exact sR | exact sN | exact sL | apply sC | (apply sB; intro _)) h
theorem xl1g.eq4 (v0 v1 v2) {b} (h:xl1g.t4 some xl1g.l4 v0 v1 v2=some b):xl1g.l4 v0 v1 v2=some b:=eqL xl1g.u (xl1g.t4 (rR xl1g.mk) xl1g.q4 v0 v1 v2) (by kernel_rfl) (by unfold xl1g.t4; repeat' first | exact sR | exact sN | exact sL | apply sC | (apply sB; intro _)) h
def xl1b.s4 (v0:List Bool) (v1:List Bool) (v2:Int):List Cell:=vc (.d .fro (.sl .bool) v0)::vc (.d .fro (.sl .bool) v1)::nn 3 (vc (iL v2)::nn 20 ([]))
def xl1b.q4:=fun v0 v1 v2 => loopAtL E (callT E tab) 23 Try.f23 2 [.r,.r,.l,.r,.b] (xl1b.s4 v0 v1 v2)
def xl1b.l4:=fun v0 v1 v2 => tOf xl1b.mk (xl1b.q4 v0 v1 v2)
def xl1b.t {γ:Type} (ret:(Bool)→Option γ) (lp4:(List Bool)→(List Bool)→Int→Option γ) (v0:List Bool) (v1:List Bool):Option γ :=
 bif (↑v0.length:Int) != (↑v1.length:Int) then
 ret (Bool.false)
 else
 lp4 (v0) (v1) ((0:Int))
def xl1b.t4 {γ:Type} (ret:(Bool)→Option γ) (lp4:(List Bool)→(List Bool)→Int→Option γ) (v0:List Bool) (v1:List Bool) (v2:Int):Option γ :=
 bif decide (v2<(↑v0.length:Int)) then
 bif decide ((0:Int)≤v2) then
 bif decide (v2.toNat<v0.length) then
 bif decide ((0:Int)≤v2) then
 bif decide (v2.toNat<v1.length) then
 bif !v0.getD v2.toNat Bool.false == v1.getD v2.toNat Bool.false then
 ret (Bool.false)
 else
 lp4 (v0) (v1) (IntKind.i64.wrap (v2+(1:Int)))
 else
 none
 else
 none
 else
 none
 else
 none
 else
 ret (Bool.true)
theorem xl1b.u:∀ b,xl1b.un (xl1b.mk b)=b:=fun _ => by kernel_rfl
theorem xl1b.eq (v0 v1) {b} (h:xl1b.t some xl1b.l4 v0 v1=some b):xl1b v0 v1=some b:=eqF xl1b.u Try.f23 (callT_le E tab) rfl rfl rfl (xl1b.t (rR xl1b.mk) xl1b.q4 v0 v1) (by kernel_rfl) (by unfold xl1b.t; repeat' first | exact sR | exact sN | exact sL | apply sC | (apply sB; intro _)) h
theorem xl1b.eq4 (v0 v1 v2) {b} (h:xl1b.t4 some xl1b.l4 v0 v1 v2=some b):xl1b.l4 v0 v1 v2=some b:=eqL xl1b.u (xl1b.t4 (rR xl1b.mk) xl1b.q4 v0 v1 v2) (by kernel_rfl) (by unfold xl1b.t4; repeat' first | exact sR | exact sN | exact sL | apply sC | (apply sB; intro _)) h
def xl0q.s4 (v0:List (Int × Int × Int × Int)) (v1:List (Int × Int × Int × Int)) (v2:Int):List Cell:=vc (.d .fro Ya v0)::vc (.d .fro Ya v1)::nn 3 (vc (iL v2)::nn 21 ([]))
def xl0q.q4:=fun v0 v1 v2 => loopAtL E (callT E tab) 25 Try.f25 2 [.r,.r,.l,.r,.b] (xl0q.s4 v0 v1 v2)
def xl0q.l4:=fun v0 v1 v2 => tOf xl0q.mk (xl0q.q4 v0 v1 v2)
def xl0q.t {γ:Type} (ret:(Bool)→Option γ) (lp4:(List (Int × Int × Int × Int))→(List (Int × Int × Int × Int))→Int→Option γ) (v0:List (Int × Int × Int × Int)) (v1:List (Int × Int × Int × Int)):Option γ :=
 bif (↑v0.length:Int) != (↑v1.length:Int) then
 ret (Bool.false)
 else
 lp4 (v0) (v1) ((0:Int))
def xl0q.t4 {γ:Type} (ret:(Bool)→Option γ) (lp4:(List (Int × Int × Int × Int))→(List (Int × Int × Int × Int))→Int→Option γ) (v0:List (Int × Int × Int × Int)) (v1:List (Int × Int × Int × Int)) (v2:Int):Option γ :=
 bif decide (v2<(↑v0.length:Int)) then
 bif decide ((0:Int)≤v2) then
 bif decide (v2.toNat<v0.length) then
 bif decide ((0:Int)≤v2) then
 bif decide (v2.toNat<v1.length) then
 (xl0v ((v0.getD v2.toNat ((0:Int),(0:Int),(0:Int),(0:Int))).fst) ((v0.getD v2.toNat ((0:Int),(0:Int),(0:Int),(0:Int))).snd.fst) ((v0.getD v2.toNat ((0:Int),(0:Int),(0:Int),(0:Int))).snd.snd.fst) ((v0.getD v2.toNat ((0:Int),(0:Int),(0:Int),(0:Int))).snd.snd.snd) ((v1.getD v2.toNat ((0:Int),(0:Int),(0:Int),(0:Int))).fst) ((v1.getD v2.toNat ((0:Int),(0:Int),(0:Int),(0:Int))).snd.fst) ((v1.getD v2.toNat ((0:Int),(0:Int),(0:Int),(0:Int))).snd.snd.fst) ((v1.getD v2.toNat ((0:Int),(0:Int),(0:Int),(0:Int))).snd.snd.snd)).bind fun (r0:Bool) =>
 bif !r0 then
 ret (Bool.false)
 else
 lp4 (v0) (v1) (IntKind.i64.wrap (v2+(1:Int)))
 else
 none
 else
 none
 else
 none
 else
 none
 else
 ret (Bool.true)
theorem xl0q.u:∀ b,xl0q.un (xl0q.mk b)=b:=fun _ => by kernel_rfl
theorem xl0q.eq (v0 v1) {b} (h:xl0q.t some xl0q.l4 v0 v1=some b):xl0q v0 v1=some b:=eqF xl0q.u Try.f25 (callT_le E tab) rfl rfl rfl (xl0q.t (rR xl0q.mk) xl0q.q4 v0 v1) (by kernel_rfl) (by unfold xl0q.t; repeat' first | exact sR | exact sN | exact sL | apply sC | (apply sB; intro _)) h
theorem xl0q.eq4 (v0 v1 v2) {b} (h:xl0q.t4 some xl0q.l4 v0 v1 v2=some b):xl0q.l4 v0 v1 v2=some b:=eqL xl0q.u (xl0q.t4 (rR xl0q.mk) xl0q.q4 v0 v1 v2) (by kernel_rfl) (by unfold xl0q.t4; repeat' first | exact sR | exact sN | exact sL | apply sC | (apply sB; intro _)) h
def xl0v.t {γ:Type} (ret:(Bool)→Option γ) (v0:Int) (v1:Int) (v2:Int) (v3:Int) (v4:Int) (v5:Int) (v6:Int) (v7:Int):Option γ :=
 bif v0 != v4 then
 ret (Bool.false)
 else
 bif v1 != v5 then
 ret (Bool.false)
 else
 bif v2 != v6 then
 ret (Bool.false)
 else
 bif v3 != v7 then
 ret (Bool.false)
 else
 ret (Bool.true)
theorem xl0v.u:∀ b,xl0v.un (xl0v.mk b)=b:=fun _ => by kernel_rfl
theorem xl0v.eq (v0 v1 v2 v3 v4 v5 v6 v7) {b} (h:xl0v.t some v0 v1 v2 v3 v4 v5 v6 v7=some b):xl0v v0 v1 v2 v3 v4 v5 v6 v7=some b:=eqF xl0v.u Try.f63 (callT_le E tab) rfl rfl rfl (xl0v.t (rR xl0v.mk) v0 v1 v2 v3 v4 v5 v6 v7) (by kernel_rfl) (by unfold xl0v.t; repeat' first | exact sR | exact sN | exact sL | apply sC | (apply sB; intro _)) h
def xl0m.s2 (v0:List Int) (v1:Int) (v2:Int):List Cell:=⟨(.val .one),[.d .deep (.sl (.int .i64)) v0],true,false,false,0,0⟩::vc (iL v1)::nn 3 (vc (iL v2)::nn 13 ([]))
def xl0m.q2:=fun v0 v1 v2 => loopAtL E (callT E tab) 26 Try.f26 2 [.r,.l,.r,.b] (xl0m.s2 v0 v1 v2)
def xl0m.l2:=fun v0 v1 v2 => tOf xl0m.mk (xl0m.q2 v0 v1 v2)
def xl0m.t {γ:Type} (ret:(Int × (List Int))→Option γ) (lp2:(List Int)→Int→Int→Option γ) (v0:List Int) (v1:Int):Option γ :=
 lp2 (v0) (v1) ((0:Int))
def xl0m.t2 {γ:Type} (ret:(Int × (List Int))→Option γ) (lp2:(List Int)→Int→Int→Option γ) (v0:List Int) (v1:Int) (v2:Int):Option γ :=
 bif decide (v2<(↑v0.length:Int)) then
 bif decide ((0:Int)≤v2) then
 bif decide (v2.toNat<v0.length) then
 bif decide (v2.toNat<v0.length) then
 lp2 (v0.set v2.toNat v1) (IntKind.i64.wrap (v1+(1:Int))) (IntKind.i64.wrap (v2+(1:Int)))
 else
 none
 else
 none
 else
 none
 else
 ret (v1,v0)
theorem xl0m.u:∀ b,xl0m.un (xl0m.mk b)=b:=fun _ => by kernel_rfl
theorem xl0m.eq (v0 v1) {b} (h:xl0m.t some xl0m.l2 v0 v1=some b):xl0m v0 v1=some b:=eqF xl0m.u Try.f26 (callT_le E tab) rfl rfl rfl (xl0m.t (rR xl0m.mk) xl0m.q2 v0 v1) (by kernel_rfl) (by unfold xl0m.t; repeat' first | exact sR | exact sN | exact sL | apply sC | (apply sB; intro _)) h
theorem xl0m.eq2 (v0 v1 v2) {b} (h:xl0m.t2 some xl0m.l2 v0 v1 v2=some b):xl0m.l2 v0 v1 v2=some b:=eqL xl0m.u (xl0m.t2 (rR xl0m.mk) xl0m.q2 v0 v1 v2) (by kernel_rfl) (by unfold xl0m.t2; repeat' first | exact sR | exact sN | exact sL | apply sC | (apply sB; intro _)) h
def xl09.s2 (v0:List (Int × Int × Int × Int)) (v1:Int) (v2:Int):List Cell:=⟨(.val .one),[.d .deep Ya v0],true,false,false,0,0⟩::vc (iL v1)::nn 3 (vc (iL v2)::nn 35 ([]))
def xl09.q2:=fun v0 v1 v2 => loopAtL E (callT E tab) 27 Try.f27 2 [.r,.l,.r,.b] (xl09.s2 v0 v1 v2)
def xl09.l2:=fun v0 v1 v2 => tOf xl09.mk (xl09.q2 v0 v1 v2)
def xl09.t {γ:Type} (ret:(Int × (List (Int × Int × Int × Int)))→Option γ) (lp2:(List (Int × Int × Int × Int))→Int→Int→Option γ) (v0:List (Int × Int × Int × Int)) (v1:Int):Option γ :=
 lp2 (v0) (v1) ((0:Int))
def xl09.t2 {γ:Type} (ret:(Int × (List (Int × Int × Int × Int)))→Option γ) (lp2:(List (Int × Int × Int × Int))→Int→Int→Option γ) (v0:List (Int × Int × Int × Int)) (v1:Int) (v2:Int):Option γ :=
 bif decide (v2<(↑v0.length:Int)) then
 bif decide ((0:Int)≤v2) then
 bif decide (v2.toNat<v0.length) then
 bif decide (v2.toNat<v0.length) then
 bif decide ((0:Int)≤v2) then
 bif decide   (v2.toNat<(v0.set v2.toNat (v1,(v0.getD v2.toNat ((0:Int),(0:Int),(0:Int),(0:Int))).snd)).length) then
 bif decide   (v2.toNat<(v0.set v2.toNat (v1,(v0.getD v2.toNat ((0:Int),(0:Int),(0:Int),(0:Int))).snd)).length) then
 bif decide ((0:Int)≤v2) then
 bif decide   (v2.toNat<    ((v0.set v2.toNat (v1,(v0.getD v2.toNat ((0:Int),(0:Int),(0:Int),(0:Int))).snd)).set v2.toNat         (((v0.set v2.toNat (v1,(v0.getD v2.toNat ((0:Int),(0:Int),(0:Int),(0:Int))).snd)).getD v2.toNat               ((0:Int),(0:Int),(0:Int),(0:Int))).fst,          IntKind.i64.wrap (v1+(1:Int)),          ((v0.set v2.toNat (v1,(v0.getD v2.toNat ((0:Int),(0:Int),(0:Int),(0:Int))).snd)).getD v2.toNat                 ((0:Int),(0:Int),(0:Int),(0:Int))).snd.snd)).length) then
 bif decide   (v2.toNat<    ((v0.set v2.toNat (v1,(v0.getD v2.toNat ((0:Int),(0:Int),(0:Int),(0:Int))).snd)).set v2.toNat         (((v0.set v2.toNat (v1,(v0.getD v2.toNat ((0:Int),(0:Int),(0:Int),(0:Int))).snd)).getD v2.toNat               ((0:Int),(0:Int),(0:Int),(0:Int))).fst,          IntKind.i64.wrap (v1+(1:Int)),          ((v0.set v2.toNat (v1,(v0.getD v2.toNat ((0:Int),(0:Int),(0:Int),(0:Int))).snd)).getD v2.toNat                 ((0:Int),(0:Int),(0:Int),(0:Int))).snd.snd)).length) then
 bif decide ((0:Int)≤v2) then
 bif decide   (v2.toNat<    (((v0.set v2.toNat (v1,(v0.getD v2.toNat ((0:Int),(0:Int),(0:Int),(0:Int))).snd)).set v2.toNat             (((v0.set v2.toNat (v1,(v0.getD v2.toNat ((0:Int),(0:Int),(0:Int),(0:Int))).snd)).getD v2.toNat                   ((0:Int),(0:Int),(0:Int),(0:Int))).fst,              IntKind.i64.wrap (v1+(1:Int)),              ((v0.set v2.toNat (v1,(v0.getD v2.toNat ((0:Int),(0:Int),(0:Int),(0:Int))).snd)).getD v2.toNat                     ((0:Int),(0:Int),(0:Int),(0:Int))).snd.snd)).set         v2.toNat         ((((v0.set v2.toNat (v1,(v0.getD v2.toNat ((0:Int),(0:Int),(0:Int),(0:Int))).snd)).set v2.toNat                   (((v0.set v2.toNat (v1,(v0.getD v2.toNat ((0:Int),(0:Int),(0:Int),(0:Int))).snd)).getD                         v2.toNat ((0:Int),(0:Int),(0:Int),(0:Int))).fst,                    IntKind.i64.wrap (v1+(1:Int)),                    ((v0.set v2.toNat (v1,(v0.getD v2.toNat ((0:Int),(0:Int),(0:Int),(0:Int))).snd)).getD                           v2.toNat ((0:Int),(0:Int),(0:Int),(0:Int))).snd.snd)).getD               v2.toNat ((0:Int),(0:Int),(0:Int),(0:Int))).fst,          (((v0.set v2.toNat (v1,(v0.getD v2.toNat ((0:Int),(0:Int),(0:Int),(0:Int))).snd)).set v2.toNat                     (((v0.set v2.toNat (v1,(v0.getD v2.toNat ((0:Int),(0:Int),(0:Int),(0:Int))).snd)).getD                           v2.toNat ((0:Int),(0:Int),(0:Int),(0:Int))).fst,                      IntKind.i64.wrap (v1+(1:Int)),                      ((v0.set v2.toNat (v1,(v0.getD v2.toNat ((0:Int),(0:Int),(0:Int),(0:Int))).snd)).getD                             v2.toNat ((0:Int),(0:Int),(0:Int),(0:Int))).snd.snd)).getD                 v2.toNat ((0:Int),(0:Int),(0:Int),(0:Int))).snd.fst,          IntKind.i64.wrap (IntKind.i64.wrap (v1+(1:Int))+(1:Int)),          (((v0.set v2.toNat (v1,(v0.getD v2.toNat ((0:Int),(0:Int),(0:Int),(0:Int))).snd)).set v2.toNat                       (((v0.set v2.toNat (v1,(v0.getD v2.toNat ((0:Int),(0:Int),(0:Int),(0:Int))).snd)).getD                             v2.toNat ((0:Int),(0:Int),(0:Int),(0:Int))).fst,                        IntKind.i64.wrap (v1+(1:Int)),                        ((v0.set v2.toNat                                   (v1,(v0.getD v2.toNat ((0:Int),(0:Int),(0:Int),(0:Int))).snd)).getD                               v2.toNat ((0:Int),(0:Int),(0:Int),(0:Int))).snd.snd)).getD                   v2.toNat ((0:Int),(0:Int),(0:Int),(0:Int))).snd.snd.snd)).length) then
 bif decide   (v2.toNat<    (((v0.set v2.toNat (v1,(v0.getD v2.toNat ((0:Int),(0:Int),(0:Int),(0:Int))).snd)).set v2.toNat             (((v0.set v2.toNat (v1,(v0.getD v2.toNat ((0:Int),(0:Int),(0:Int),(0:Int))).snd)).getD v2.toNat                   ((0:Int),(0:Int),(0:Int),(0:Int))).fst,              IntKind.i64.wrap (v1+(1:Int)),              ((v0.set v2.toNat (v1,(v0.getD v2.toNat ((0:Int),(0:Int),(0:Int),(0:Int))).snd)).getD v2.toNat                     ((0:Int),(0:Int),(0:Int),(0:Int))).snd.snd)).set         v2.toNat         ((((v0.set v2.toNat (v1,(v0.getD v2.toNat ((0:Int),(0:Int),(0:Int),(0:Int))).snd)).set v2.toNat                   (((v0.set v2.toNat (v1,(v0.getD v2.toNat ((0:Int),(0:Int),(0:Int),(0:Int))).snd)).getD                         v2.toNat ((0:Int),(0:Int),(0:Int),(0:Int))).fst,                    IntKind.i64.wrap (v1+(1:Int)),                    ((v0.set v2.toNat (v1,(v0.getD v2.toNat ((0:Int),(0:Int),(0:Int),(0:Int))).snd)).getD                           v2.toNat ((0:Int),(0:Int),(0:Int),(0:Int))).snd.snd)).getD               v2.toNat ((0:Int),(0:Int),(0:Int),(0:Int))).fst,          (((v0.set v2.toNat (v1,(v0.getD v2.toNat ((0:Int),(0:Int),(0:Int),(0:Int))).snd)).set v2.toNat                     (((v0.set v2.toNat (v1,(v0.getD v2.toNat ((0:Int),(0:Int),(0:Int),(0:Int))).snd)).getD                           v2.toNat ((0:Int),(0:Int),(0:Int),(0:Int))).fst,                      IntKind.i64.wrap (v1+(1:Int)),                      ((v0.set v2.toNat (v1,(v0.getD v2.toNat ((0:Int),(0:Int),(0:Int),(0:Int))).snd)).getD                             v2.toNat ((0:Int),(0:Int),(0:Int),(0:Int))).snd.snd)).getD                 v2.toNat ((0:Int),(0:Int),(0:Int),(0:Int))).snd.fst,          IntKind.i64.wrap (IntKind.i64.wrap (v1+(1:Int))+(1:Int)),          (((v0.set v2.toNat (v1,(v0.getD v2.toNat ((0:Int),(0:Int),(0:Int),(0:Int))).snd)).set v2.toNat                       (((v0.set v2.toNat (v1,(v0.getD v2.toNat ((0:Int),(0:Int),(0:Int),(0:Int))).snd)).getD                             v2.toNat ((0:Int),(0:Int),(0:Int),(0:Int))).fst,                        IntKind.i64.wrap (v1+(1:Int)),                        ((v0.set v2.toNat                                   (v1,(v0.getD v2.toNat ((0:Int),(0:Int),(0:Int),(0:Int))).snd)).getD                               v2.toNat ((0:Int),(0:Int),(0:Int),(0:Int))).snd.snd)).getD                   v2.toNat ((0:Int),(0:Int),(0:Int),(0:Int))).snd.snd.snd)).length) then
 lp2 ((((v0.set v2.toNat (v1,(v0.getD v2.toNat ((0:Int),(0:Int),(0:Int),(0:Int))).snd)).set v2.toNat           (((v0.set v2.toNat (v1,(v0.getD v2.toNat ((0:Int),(0:Int),(0:Int),(0:Int))).snd)).getD v2.toNat                 ((0:Int),(0:Int),(0:Int),(0:Int))).fst,            IntKind.i64.wrap (v1+(1:Int)),            ((v0.set v2.toNat (v1,(v0.getD v2.toNat ((0:Int),(0:Int),(0:Int),(0:Int))).snd)).getD v2.toNat                   ((0:Int),(0:Int),(0:Int),(0:Int))).snd.snd)).set       v2.toNat       ((((v0.set v2.toNat (v1,(v0.getD v2.toNat ((0:Int),(0:Int),(0:Int),(0:Int))).snd)).set v2.toNat                 (((v0.set v2.toNat (v1,(v0.getD v2.toNat ((0:Int),(0:Int),(0:Int),(0:Int))).snd)).getD                       v2.toNat ((0:Int),(0:Int),(0:Int),(0:Int))).fst,                  IntKind.i64.wrap (v1+(1:Int)),                  ((v0.set v2.toNat (v1,(v0.getD v2.toNat ((0:Int),(0:Int),(0:Int),(0:Int))).snd)).getD                         v2.toNat ((0:Int),(0:Int),(0:Int),(0:Int))).snd.snd)).getD             v2.toNat ((0:Int),(0:Int),(0:Int),(0:Int))).fst,        (((v0.set v2.toNat (v1,(v0.getD v2.toNat ((0:Int),(0:Int),(0:Int),(0:Int))).snd)).set v2.toNat                   (((v0.set v2.toNat (v1,(v0.getD v2.toNat ((0:Int),(0:Int),(0:Int),(0:Int))).snd)).getD                         v2.toNat ((0:Int),(0:Int),(0:Int),(0:Int))).fst,                    IntKind.i64.wrap (v1+(1:Int)),                    ((v0.set v2.toNat (v1,(v0.getD v2.toNat ((0:Int),(0:Int),(0:Int),(0:Int))).snd)).getD                           v2.toNat ((0:Int),(0:Int),(0:Int),(0:Int))).snd.snd)).getD               v2.toNat ((0:Int),(0:Int),(0:Int),(0:Int))).snd.fst,        IntKind.i64.wrap (IntKind.i64.wrap (v1+(1:Int))+(1:Int)),        (((v0.set v2.toNat (v1,(v0.getD v2.toNat ((0:Int),(0:Int),(0:Int),(0:Int))).snd)).set v2.toNat                     (((v0.set v2.toNat (v1,(v0.getD v2.toNat ((0:Int),(0:Int),(0:Int),(0:Int))).snd)).getD                           v2.toNat ((0:Int),(0:Int),(0:Int),(0:Int))).fst,                      IntKind.i64.wrap (v1+(1:Int)),                      ((v0.set v2.toNat (v1,(v0.getD v2.toNat ((0:Int),(0:Int),(0:Int),(0:Int))).snd)).getD                             v2.toNat ((0:Int),(0:Int),(0:Int),(0:Int))).snd.snd)).getD                 v2.toNat ((0:Int),(0:Int),(0:Int),(0:Int))).snd.snd.snd)).set   v2.toNat   (((((v0.set v2.toNat (v1,(v0.getD v2.toNat ((0:Int),(0:Int),(0:Int),(0:Int))).snd)).set v2.toNat                 (((v0.set v2.toNat (v1,(v0.getD v2.toNat ((0:Int),(0:Int),(0:Int),(0:Int))).snd)).getD                       v2.toNat ((0:Int),(0:Int),(0:Int),(0:Int))).fst,                  IntKind.i64.wrap (v1+(1:Int)),                  ((v0.set v2.toNat (v1,(v0.getD v2.toNat ((0:Int),(0:Int),(0:Int),(0:Int))).snd)).getD                         v2.toNat ((0:Int),(0:Int),(0:Int),(0:Int))).snd.snd)).set             v2.toNat             ((((v0.set v2.toNat (v1,(v0.getD v2.toNat ((0:Int),(0:Int),(0:Int),(0:Int))).snd)).set v2.toNat                       (((v0.set v2.toNat (v1,(v0.getD v2.toNat ((0:Int),(0:Int),(0:Int),(0:Int))).snd)).getD                             v2.toNat ((0:Int),(0:Int),(0:Int),(0:Int))).fst,                        IntKind.i64.wrap (v1+(1:Int)),                        ((v0.set v2.toNat                                   (v1,(v0.getD v2.toNat ((0:Int),(0:Int),(0:Int),(0:Int))).snd)).getD                               v2.toNat ((0:Int),(0:Int),(0:Int),(0:Int))).snd.snd)).getD                   v2.toNat ((0:Int),(0:Int),(0:Int),(0:Int))).fst,              (((v0.set v2.toNat (v1,(v0.getD v2.toNat ((0:Int),(0:Int),(0:Int),(0:Int))).snd)).set v2.toNat                         (((v0.set v2.toNat                                   (v1,(v0.getD v2.toNat ((0:Int),(0:Int),(0:Int),(0:Int))).snd)).getD                               v2.toNat ((0:Int),(0:Int),(0:Int),(0:Int))).fst,                          IntKind.i64.wrap (v1+(1:Int)),                          ((v0.set v2.toNat                                     (v1,(v0.getD v2.toNat ((0:Int),(0:Int),(0:Int),(0:Int))).snd)).getD                                 v2.toNat ((0:Int),(0:Int),(0:Int),(0:Int))).snd.snd)).getD                     v2.toNat ((0:Int),(0:Int),(0:Int),(0:Int))).snd.fst,              IntKind.i64.wrap (IntKind.i64.wrap (v1+(1:Int))+(1:Int)),              (((v0.set v2.toNat (v1,(v0.getD v2.toNat ((0:Int),(0:Int),(0:Int),(0:Int))).snd)).set v2.toNat                           (((v0.set v2.toNat                                     (v1,(v0.getD v2.toNat ((0:Int),(0:Int),(0:Int),(0:Int))).snd)).getD                                 v2.toNat ((0:Int),(0:Int),(0:Int),(0:Int))).fst,                            IntKind.i64.wrap (v1+(1:Int)),                            ((v0.set v2.toNat                                       (v1,(v0.getD v2.toNat ((0:Int),(0:Int),(0:Int),(0:Int))).snd)).getD                                   v2.toNat ((0:Int),(0:Int),(0:Int),(0:Int))).snd.snd)).getD                       v2.toNat ((0:Int),(0:Int),(0:Int),(0:Int))).snd.snd.snd)).getD         v2.toNat ((0:Int),(0:Int),(0:Int),(0:Int))).fst,    ((((v0.set v2.toNat (v1,(v0.getD v2.toNat ((0:Int),(0:Int),(0:Int),(0:Int))).snd)).set v2.toNat                   (((v0.set v2.toNat (v1,(v0.getD v2.toNat ((0:Int),(0:Int),(0:Int),(0:Int))).snd)).getD                         v2.toNat ((0:Int),(0:Int),(0:Int),(0:Int))).fst,                    IntKind.i64.wrap (v1+(1:Int)),                    ((v0.set v2.toNat (v1,(v0.getD v2.toNat ((0:Int),(0:Int),(0:Int),(0:Int))).snd)).getD                           v2.toNat ((0:Int),(0:Int),(0:Int),(0:Int))).snd.snd)).set               v2.toNat               ((((v0.set v2.toNat (v1,(v0.getD v2.toNat ((0:Int),(0:Int),(0:Int),(0:Int))).snd)).set                         v2.toNat                         (((v0.set v2.toNat                                   (v1,(v0.getD v2.toNat ((0:Int),(0:Int),(0:Int),(0:Int))).snd)).getD                               v2.toNat ((0:Int),(0:Int),(0:Int),(0:Int))).fst,                          IntKind.i64.wrap (v1+(1:Int)),                          ((v0.set v2.toNat                                     (v1,(v0.getD v2.toNat ((0:Int),(0:Int),(0:Int),(0:Int))).snd)).getD                                 v2.toNat ((0:Int),(0:Int),(0:Int),(0:Int))).snd.snd)).getD                     v2.toNat ((0:Int),(0:Int),(0:Int),(0:Int))).fst,                (((v0.set v2.toNat (v1,(v0.getD v2.toNat ((0:Int),(0:Int),(0:Int),(0:Int))).snd)).set                           v2.toNat                           (((v0.set v2.toNat                                     (v1,(v0.getD v2.toNat ((0:Int),(0:Int),(0:Int),(0:Int))).snd)).getD                                 v2.toNat ((0:Int),(0:Int),(0:Int),(0:Int))).fst,                            IntKind.i64.wrap (v1+(1:Int)),                            ((v0.set v2.toNat                                       (v1,(v0.getD v2.toNat ((0:Int),(0:Int),(0:Int),(0:Int))).snd)).getD                                   v2.toNat ((0:Int),(0:Int),(0:Int),(0:Int))).snd.snd)).getD                       v2.toNat ((0:Int),(0:Int),(0:Int),(0:Int))).snd.fst,                IntKind.i64.wrap (IntKind.i64.wrap (v1+(1:Int))+(1:Int)),                (((v0.set v2.toNat (v1,(v0.getD v2.toNat ((0:Int),(0:Int),(0:Int),(0:Int))).snd)).set                             v2.toNat                             (((v0.set v2.toNat                                       (v1,(v0.getD v2.toNat ((0:Int),(0:Int),(0:Int),(0:Int))).snd)).getD                                   v2.toNat ((0:Int),(0:Int),(0:Int),(0:Int))).fst,                              IntKind.i64.wrap (v1+(1:Int)),                              ((v0.set v2.toNat                                         (v1,(v0.getD v2.toNat ((0:Int),(0:Int),(0:Int),(0:Int))).snd)).getD                                     v2.toNat ((0:Int),(0:Int),(0:Int),(0:Int))).snd.snd)).getD                         v2.toNat ((0:Int),(0:Int),(0:Int),(0:Int))).snd.snd.snd)).getD           v2.toNat ((0:Int),(0:Int),(0:Int),(0:Int))).snd.fst,    ((((v0.set v2.toNat (v1,(v0.getD v2.toNat ((0:Int),(0:Int),(0:Int),(0:Int))).snd)).set v2.toNat                     (((v0.set v2.toNat (v1,(v0.getD v2.toNat ((0:Int),(0:Int),(0:Int),(0:Int))).snd)).getD                           v2.toNat ((0:Int),(0:Int),(0:Int),(0:Int))).fst,                      IntKind.i64.wrap (v1+(1:Int)),                      ((v0.set v2.toNat (v1,(v0.getD v2.toNat ((0:Int),(0:Int),(0:Int),(0:Int))).snd)).getD                             v2.toNat ((0:Int),(0:Int),(0:Int),(0:Int))).snd.snd)).set                 v2.toNat                 ((((v0.set v2.toNat (v1,(v0.getD v2.toNat ((0:Int),(0:Int),(0:Int),(0:Int))).snd)).set                           v2.toNat                           (((v0.set v2.toNat                                     (v1,(v0.getD v2.toNat ((0:Int),(0:Int),(0:Int),(0:Int))).snd)).getD                                 v2.toNat ((0:Int),(0:Int),(0:Int),(0:Int))).fst,                            IntKind.i64.wrap (v1+(1:Int)),                            ((v0.set v2.toNat                                       (v1,(v0.getD v2.toNat ((0:Int),(0:Int),(0:Int),(0:Int))).snd)).getD                                   v2.toNat ((0:Int),(0:Int),(0:Int),(0:Int))).snd.snd)).getD                       v2.toNat ((0:Int),(0:Int),(0:Int),(0:Int))).fst,                  (((v0.set v2.toNat (v1,(v0.getD v2.toNat ((0:Int),(0:Int),(0:Int),(0:Int))).snd)).set                             v2.toNat                             (((v0.set v2.toNat                                       (v1,(v0.getD v2.toNat ((0:Int),(0:Int),(0:Int),(0:Int))).snd)).getD                                   v2.toNat ((0:Int),(0:Int),(0:Int),(0:Int))).fst,                              IntKind.i64.wrap (v1+(1:Int)),                              ((v0.set v2.toNat                                         (v1,(v0.getD v2.toNat ((0:Int),(0:Int),(0:Int),(0:Int))).snd)).getD                                     v2.toNat ((0:Int),(0:Int),(0:Int),(0:Int))).snd.snd)).getD                         v2.toNat ((0:Int),(0:Int),(0:Int),(0:Int))).snd.fst,                  IntKind.i64.wrap (IntKind.i64.wrap (v1+(1:Int))+(1:Int)),                  (((v0.set v2.toNat (v1,(v0.getD v2.toNat ((0:Int),(0:Int),(0:Int),(0:Int))).snd)).set                               v2.toNat                               (((v0.set v2.toNat                                         (v1,(v0.getD v2.toNat ((0:Int),(0:Int),(0:Int),(0:Int))).snd)).getD                                     v2.toNat ((0:Int),(0:Int),(0:Int),(0:Int))).fst,                                IntKind.i64.wrap (v1+(1:Int)),                                ((v0.set v2.toNat                                           (v1,                                            (v0.getD v2.toNat ((0:Int),(0:Int),(0:Int),(0:Int))).snd)).getD                                       v2.toNat ((0:Int),(0:Int),(0:Int),(0:Int))).snd.snd)).getD                           v2.toNat ((0:Int),(0:Int),(0:Int),(0:Int))).snd.snd.snd)).getD             v2.toNat ((0:Int),(0:Int),(0:Int),(0:Int))).snd.snd.fst,    IntKind.i64.wrap (IntKind.i64.wrap (IntKind.i64.wrap (v1+(1:Int))+(1:Int))+(1:Int)))) (IntKind.i64.wrap   (IntKind.i64.wrap (IntKind.i64.wrap (IntKind.i64.wrap (v1+(1:Int))+(1:Int))+(1:Int))+(1:Int))) (IntKind.i64.wrap (v2+(1:Int)))
 else
 none
 else
 none
 else
 none
 else
 none
 else
 none
 else
 none
 else
 none
 else
 none
 else
 none
 else
 none
 else
 none
 else
 none
 else
 ret (v1,v0)
theorem xl09.u:∀ b,xl09.un (xl09.mk b)=b:=fun _ => by kernel_rfl
theorem xl09.eq (v0 v1) {b} (h:xl09.t some xl09.l2 v0 v1=some b):xl09 v0 v1=some b:=eqF xl09.u Try.f27 (callT_le E tab) rfl rfl rfl (xl09.t (rR xl09.mk) xl09.q2 v0 v1) (by kernel_rfl) (by unfold xl09.t; repeat' first | exact sR | exact sN | exact sL | apply sC | (apply sB; intro _)) h
theorem xl09.eq2 (v0 v1 v2) {b} (h:xl09.t2 some xl09.l2 v0 v1 v2=some b):xl09.l2 v0 v1 v2=some b:=eqL xl09.u (xl09.t2 (rR xl09.mk) xl09.q2 v0 v1 v2) (by kernel_rfl) (by unfold xl09.t2; repeat' first | exact sR | exact sN | exact sL | apply sC | (apply sB; intro _)) h
def xl0n.t {γ:Type} (ret:(Int × (List (Int × Int × Bool)) × (List (List Int × List Int × Bool)))→Option γ) (v0:List (Int × Int × Bool)) (v1:List (List Int × List Int × Bool)) (v2:Int):Option γ :=
 (xl0i (v0) (v2)).bind fun (r0:Int × (List (Int × Int × Bool))) =>
 (xl0j (v1) (r0.fst)).bind fun (r1:Int × (List (List Int × List Int × Bool))) =>
 ret (r1.fst,r0.snd,r1.snd)
theorem xl0n.u:∀ b,xl0n.un (xl0n.mk b)=b:=fun _ => by kernel_rfl
theorem xl0n.eq (v0 v1 v2) {b} (h:xl0n.t some v0 v1 v2=some b):xl0n v0 v1 v2=some b:=eqF xl0n.u Try.f14 (callT_le E tab) rfl rfl rfl (xl0n.t (rR xl0n.mk) v0 v1 v2) (by kernel_rfl) (by unfold xl0n.t; repeat' first | exact sR | exact sN | exact sL | apply sC | (apply sB; intro _)) h
def xl0i.s2 (v0:List (Int × Int × Bool)) (v1:Int) (v2:Int):List Cell:=⟨(.val .one),[.d .deep Yc v0],true,false,false,0,0⟩::vc (iL v1)::nn 3 (vc (iL v2)::nn 30 ([]))
def xl0i.q2:=fun v0 v1 v2 => loopAtL E (callT E tab) 51 Try.f51 2 [.r,.l,.r,.b] (xl0i.s2 v0 v1 v2)
def xl0i.l2:=fun v0 v1 v2 => tOf xl0i.mk (xl0i.q2 v0 v1 v2)
def xl0i.t {γ:Type} (ret:(Int × (List (Int × Int × Bool)))→Option γ) (lp2:(List (Int × Int × Bool))→Int→Int→Option γ) (v0:List (Int × Int × Bool)) (v1:Int):Option γ :=
 lp2 (v0) (v1) ((0:Int))
def xl0i.t2 {γ:Type} (ret:(Int × (List (Int × Int × Bool)))→Option γ) (lp2:(List (Int × Int × Bool))→Int→Int→Option γ) (v0:List (Int × Int × Bool)) (v1:Int) (v2:Int):Option γ :=
 bif decide (v2<(↑v0.length:Int)) then
 bif decide ((0:Int)≤v2) then
 bif decide (v2.toNat<v0.length) then
 bif decide (v2.toNat<v0.length) then
 bif decide ((0:Int)≤v2) then
 bif decide (v2.toNat<(v0.set v2.toNat (v1,(v0.getD v2.toNat ((0:Int),(0:Int),Bool.false)).snd)).length) then
 bif decide (v2.toNat<(v0.set v2.toNat (v1,(v0.getD v2.toNat ((0:Int),(0:Int),Bool.false)).snd)).length) then
 bif decide ((0:Int)≤v2) then
 bif decide   (v2.toNat<    ((v0.set v2.toNat (v1,(v0.getD v2.toNat ((0:Int),(0:Int),Bool.false)).snd)).set v2.toNat         (((v0.set v2.toNat (v1,(v0.getD v2.toNat ((0:Int),(0:Int),Bool.false)).snd)).getD v2.toNat               ((0:Int),(0:Int),Bool.false)).fst,          IntKind.i64.wrap (v1+(1:Int)),          ((v0.set v2.toNat (v1,(v0.getD v2.toNat ((0:Int),(0:Int),Bool.false)).snd)).getD v2.toNat                 ((0:Int),(0:Int),Bool.false)).snd.snd)).length) then
 bif decide   (v2.toNat<    ((v0.set v2.toNat (v1,(v0.getD v2.toNat ((0:Int),(0:Int),Bool.false)).snd)).set v2.toNat         (((v0.set v2.toNat (v1,(v0.getD v2.toNat ((0:Int),(0:Int),Bool.false)).snd)).getD v2.toNat               ((0:Int),(0:Int),Bool.false)).fst,          IntKind.i64.wrap (v1+(1:Int)),          ((v0.set v2.toNat (v1,(v0.getD v2.toNat ((0:Int),(0:Int),Bool.false)).snd)).getD v2.toNat                 ((0:Int),(0:Int),Bool.false)).snd.snd)).length) then
 lp2 (((v0.set v2.toNat (v1,(v0.getD v2.toNat ((0:Int),(0:Int),Bool.false)).snd)).set v2.toNat       (((v0.set v2.toNat (v1,(v0.getD v2.toNat ((0:Int),(0:Int),Bool.false)).snd)).getD v2.toNat             ((0:Int),(0:Int),Bool.false)).fst,        IntKind.i64.wrap (v1+(1:Int)),        ((v0.set v2.toNat (v1,(v0.getD v2.toNat ((0:Int),(0:Int),Bool.false)).snd)).getD v2.toNat               ((0:Int),(0:Int),Bool.false)).snd.snd)).set   v2.toNat   ((((v0.set v2.toNat (v1,(v0.getD v2.toNat ((0:Int),(0:Int),Bool.false)).snd)).set v2.toNat             (((v0.set v2.toNat (v1,(v0.getD v2.toNat ((0:Int),(0:Int),Bool.false)).snd)).getD v2.toNat                   ((0:Int),(0:Int),Bool.false)).fst,              IntKind.i64.wrap (v1+(1:Int)),              ((v0.set v2.toNat (v1,(v0.getD v2.toNat ((0:Int),(0:Int),Bool.false)).snd)).getD v2.toNat                     ((0:Int),(0:Int),Bool.false)).snd.snd)).getD         v2.toNat ((0:Int),(0:Int),Bool.false)).fst,    (((v0.set v2.toNat (v1,(v0.getD v2.toNat ((0:Int),(0:Int),Bool.false)).snd)).set v2.toNat               (((v0.set v2.toNat (v1,(v0.getD v2.toNat ((0:Int),(0:Int),Bool.false)).snd)).getD v2.toNat                     ((0:Int),(0:Int),Bool.false)).fst,                IntKind.i64.wrap (v1+(1:Int)),                ((v0.set v2.toNat (v1,(v0.getD v2.toNat ((0:Int),(0:Int),Bool.false)).snd)).getD v2.toNat                       ((0:Int),(0:Int),Bool.false)).snd.snd)).getD           v2.toNat ((0:Int),(0:Int),Bool.false)).snd.fst,    (IntKind.i64.wrap (IntKind.i64.wrap (v1+(1:Int))+(1:Int))).tmod (3:Int) == (0:Int))) (IntKind.i64.wrap (IntKind.i64.wrap (IntKind.i64.wrap (v1+(1:Int))+(1:Int))+(1:Int))) (IntKind.i64.wrap (v2+(1:Int)))
 else
 none
 else
 none
 else
 none
 else
 none
 else
 none
 else
 none
 else
 none
 else
 none
 else
 none
 else
 ret (v1,v0)
theorem xl0i.u:∀ b,xl0i.un (xl0i.mk b)=b:=fun _ => by kernel_rfl
theorem xl0i.eq (v0 v1) {b} (h:xl0i.t some xl0i.l2 v0 v1=some b):xl0i v0 v1=some b:=eqF xl0i.u Try.f51 (callT_le E tab) rfl rfl rfl (xl0i.t (rR xl0i.mk) xl0i.q2 v0 v1) (by kernel_rfl) (by unfold xl0i.t; repeat' first | exact sR | exact sN | exact sL | apply sC | (apply sB; intro _)) h
theorem xl0i.eq2 (v0 v1 v2) {b} (h:xl0i.t2 some xl0i.l2 v0 v1 v2=some b):xl0i.l2 v0 v1 v2=some b:=eqL xl0i.u (xl0i.t2 (rR xl0i.mk) xl0i.q2 v0 v1 v2) (by kernel_rfl) (by unfold xl0i.t2; repeat' first | exact sR | exact sN | exact sL | apply sC | (apply sB; intro _)) h
def xl0j.s2 (v0:List (List Int × List Int × Bool)) (v1:Int) (v2:Int):List Cell:=⟨(.val .one),[.d .deep Yb v0],true,false,false,0,0⟩::vc (iL v1)::nn 3 (vc (iL v2)::nn 30 ([]))
def xl0j.q2:=fun v0 v1 v2 => loopAtL E (callT E tab) 52 Try.f52 2 [.r,.l,.r,.b] (xl0j.s2 v0 v1 v2)
def xl0j.l2:=fun v0 v1 v2 => tOf xl0j.mk (xl0j.q2 v0 v1 v2)
def xl0j.t {γ:Type} (ret:(Int × (List (List Int × List Int × Bool)))→Option γ) (lp2:(List (List Int × List Int × Bool))→Int→Int→Option γ) (v0:List (List Int × List Int × Bool)) (v1:Int):Option γ :=
 lp2 (v0) (v1) ((0:Int))
def xl0j.t2 {γ:Type} (ret:(Int × (List (List Int × List Int × Bool)))→Option γ) (lp2:(List (List Int × List Int × Bool))→Int→Int→Option γ) (v0:List (List Int × List Int × Bool)) (v1:Int) (v2:Int):Option γ :=
 bif decide (v2<(↑v0.length:Int)) then
 bif decide ((0:Int)≤v2) then
 bif decide (v2.toNat<v0.length) then
 bif decide (v2.toNat<v0.length) then
 bif decide (v2.toNat<v0.length) then
 (xl0m ((v0.getD v2.toNat ([],[],Bool.false)).fst) (v1)).bind fun (r0:Int × (List Int)) =>
 bif decide (v2.toNat=v2.toNat) &&   (decide ((0:Nat)+(0:Nat)=(0:Nat)+(0:Nat)) &&     decide ((1:Nat)+((1:Nat)+(1:Nat))=(1:Nat)+((1:Nat)+(1:Nat)))) then
 bif decide (v2.toNat<v0.length) then
 bif decide ((0:Int)≤v2) then
 bif decide (v2.toNat<(v0.set v2.toNat (r0.snd,(v0.getD v2.toNat ([],[],Bool.false)).snd)).length) then
 bif decide (v2.toNat<(v0.set v2.toNat (r0.snd,(v0.getD v2.toNat ([],[],Bool.false)).snd)).length) then
 bif decide (v2.toNat<(v0.set v2.toNat (r0.snd,(v0.getD v2.toNat ([],[],Bool.false)).snd)).length) then
 (xl0m (((v0.set v2.toNat (r0.snd,(v0.getD v2.toNat ([],[],Bool.false)).snd)).getD v2.toNat ([],[],Bool.false)).snd.fst) (r0.fst)).bind fun (r1:Int × (List Int)) =>
 bif decide (v2.toNat=v2.toNat) &&   (decide ((0:Nat)+(1:Nat)=(0:Nat)+(1:Nat)) &&     decide ((1:Nat)+((1:Nat)+(1:Nat))=(1:Nat)+((1:Nat)+(1:Nat)))) then
 bif decide (v2.toNat<(v0.set v2.toNat (r0.snd,(v0.getD v2.toNat ([],[],Bool.false)).snd)).length) then
 bif decide ((0:Int)≤v2) then
 bif decide   (v2.toNat<    ((v0.set v2.toNat (r0.snd,(v0.getD v2.toNat ([],[],Bool.false)).snd)).set v2.toNat         (((v0.set v2.toNat (r0.snd,(v0.getD v2.toNat ([],[],Bool.false)).snd)).getD v2.toNat               ([],[],Bool.false)).fst,          r1.snd,          ((v0.set v2.toNat (r0.snd,(v0.getD v2.toNat ([],[],Bool.false)).snd)).getD v2.toNat                 ([],[],Bool.false)).snd.snd)).length) then
 bif decide   (v2.toNat<    ((v0.set v2.toNat (r0.snd,(v0.getD v2.toNat ([],[],Bool.false)).snd)).set v2.toNat         (((v0.set v2.toNat (r0.snd,(v0.getD v2.toNat ([],[],Bool.false)).snd)).getD v2.toNat               ([],[],Bool.false)).fst,          r1.snd,          ((v0.set v2.toNat (r0.snd,(v0.getD v2.toNat ([],[],Bool.false)).snd)).getD v2.toNat                 ([],[],Bool.false)).snd.snd)).length) then
 lp2 (((v0.set v2.toNat (r0.snd,(v0.getD v2.toNat ([],[],Bool.false)).snd)).set v2.toNat       (((v0.set v2.toNat (r0.snd,(v0.getD v2.toNat ([],[],Bool.false)).snd)).getD v2.toNat ([],[],Bool.false)).fst,        r1.snd,        ((v0.set v2.toNat (r0.snd,(v0.getD v2.toNat ([],[],Bool.false)).snd)).getD v2.toNat               ([],[],Bool.false)).snd.snd)).set   v2.toNat   ((((v0.set v2.toNat (r0.snd,(v0.getD v2.toNat ([],[],Bool.false)).snd)).set v2.toNat             (((v0.set v2.toNat (r0.snd,(v0.getD v2.toNat ([],[],Bool.false)).snd)).getD v2.toNat                   ([],[],Bool.false)).fst,              r1.snd,              ((v0.set v2.toNat (r0.snd,(v0.getD v2.toNat ([],[],Bool.false)).snd)).getD v2.toNat                     ([],[],Bool.false)).snd.snd)).getD         v2.toNat ([],[],Bool.false)).fst,    (((v0.set v2.toNat (r0.snd,(v0.getD v2.toNat ([],[],Bool.false)).snd)).set v2.toNat               (((v0.set v2.toNat (r0.snd,(v0.getD v2.toNat ([],[],Bool.false)).snd)).getD v2.toNat                     ([],[],Bool.false)).fst,                r1.snd,                ((v0.set v2.toNat (r0.snd,(v0.getD v2.toNat ([],[],Bool.false)).snd)).getD v2.toNat                       ([],[],Bool.false)).snd.snd)).getD           v2.toNat ([],[],Bool.false)).snd.fst,    r1.fst.tmod (3:Int) == (0:Int))) (IntKind.i64.wrap (r1.fst+(1:Int))) (IntKind.i64.wrap (v2+(1:Int)))
 else
 none
 else
 none
 else
 none
 else
 none
 else
 none
 else
 none
 else
 none
 else
 none
 else
 none
 else
 none
 else
 none
 else
 none
 else
 none
 else
 none
 else
 none
 else
 ret (v1,v0)
theorem xl0j.u:∀ b,xl0j.un (xl0j.mk b)=b:=fun _ => by kernel_rfl
theorem xl0j.eq (v0 v1) {b} (h:xl0j.t some xl0j.l2 v0 v1=some b):xl0j v0 v1=some b:=eqF xl0j.u Try.f52 (callT_le E tab) rfl rfl rfl (xl0j.t (rR xl0j.mk) xl0j.q2 v0 v1) (by kernel_rfl) (by unfold xl0j.t; repeat' first | exact sR | exact sN | exact sL | apply sC | (apply sB; intro _)) h
theorem xl0j.eq2 (v0 v1 v2) {b} (h:xl0j.t2 some xl0j.l2 v0 v1 v2=some b):xl0j.l2 v0 v1 v2=some b:=eqL xl0j.u (xl0j.t2 (rR xl0j.mk) xl0j.q2 v0 v1 v2) (by kernel_rfl) (by unfold xl0j.t2; repeat' first | exact sR | exact sN | exact sL | apply sC | (apply sB; intro _)) h
def xl0h.s2 (v0:List Bool) (v1:Int) (v2:Int):List Cell:=⟨(.val .one),[.d .deep (.sl .bool) v0],true,false,false,0,0⟩::vc (iL v1)::nn 3 (vc (iL v2)::nn 15 ([]))
def xl0h.q2:=fun v0 v1 v2 => loopAtL E (callT E tab) 28 Try.f28 2 [.r,.l,.r,.b] (xl0h.s2 v0 v1 v2)
def xl0h.l2:=fun v0 v1 v2 => tOf xl0h.mk (xl0h.q2 v0 v1 v2)
def xl0h.t {γ:Type} (ret:(Int × (List Bool))→Option γ) (lp2:(List Bool)→Int→Int→Option γ) (v0:List Bool) (v1:Int):Option γ :=
 lp2 (v0) (v1) ((0:Int))
def xl0h.t2 {γ:Type} (ret:(Int × (List Bool))→Option γ) (lp2:(List Bool)→Int→Int→Option γ) (v0:List Bool) (v1:Int) (v2:Int):Option γ :=
 bif decide (v2<(↑v0.length:Int)) then
 bif decide ((0:Int)≤v2) then
 bif decide (v2.toNat<v0.length) then
 bif decide (v2.toNat<v0.length) then
 lp2 (v0.set v2.toNat (v1.tmod (3:Int) == (0:Int))) (IntKind.i64.wrap (v1+(1:Int))) (IntKind.i64.wrap (v2+(1:Int)))
 else
 none
 else
 none
 else
 none
 else
 ret (v1,v0)
theorem xl0h.u:∀ b,xl0h.un (xl0h.mk b)=b:=fun _ => by kernel_rfl
theorem xl0h.eq (v0 v1) {b} (h:xl0h.t some xl0h.l2 v0 v1=some b):xl0h v0 v1=some b:=eqF xl0h.u Try.f28 (callT_le E tab) rfl rfl rfl (xl0h.t (rR xl0h.mk) xl0h.q2 v0 v1) (by kernel_rfl) (by unfold xl0h.t; repeat' first | exact sR | exact sN | exact sL | apply sC | (apply sB; intro _)) h
theorem xl0h.eq2 (v0 v1 v2) {b} (h:xl0h.t2 some xl0h.l2 v0 v1 v2=some b):xl0h.l2 v0 v1 v2=some b:=eqL xl0h.u (xl0h.t2 (rR xl0h.mk) xl0h.q2 v0 v1 v2) (by kernel_rfl) (by unfold xl0h.t2; repeat' first | exact sR | exact sN | exact sL | apply sC | (apply sB; intro _)) h
def xl15.t {γ:Type} (ret:(Int)→Option γ) (v0:List (Int × Int × Bool)) (v1:List (List Int × List Int × Bool)) (v2:Int):Option γ :=
 (xl0y (v0) (v2)).bind fun (r0:Int) =>
 bif decide (r0<(0:Int)) then
 ret ((-1:Int))
 else
 (xl0z (v1) (r0)).bind fun (r1:Int) =>
 bif decide (r1<(0:Int)) then
 ret ((-1:Int))
 else
 ret (r1)
theorem xl15.u:∀ b,xl15.un (xl15.mk b)=b:=fun _ => by kernel_rfl
theorem xl15.eq (v0 v1 v2) {b} (h:xl15.t some v0 v1 v2=some b):xl15 v0 v1 v2=some b:=eqF xl15.u Try.f15 (callT_le E tab) rfl rfl rfl (xl15.t (rR xl15.mk) v0 v1 v2) (by kernel_rfl) (by unfold xl15.t; repeat' first | exact sR | exact sN | exact sL | apply sC | (apply sB; intro _)) h
def xl0y.s2 (v0:List (Int × Int × Bool)) (v1:Int) (v2:Int):List Cell:=vc (.d .fro Yc v0)::vc (iL v1)::nn 3 (vc (iL v2)::nn 36 ([]))
def xl0y.q2:=fun v0 v1 v2 => loopAtL E (callT E tab) 53 Try.f53 2 [.r,.l,.r,.b] (xl0y.s2 v0 v1 v2)
def xl0y.l2:=fun v0 v1 v2 => tOf xl0y.mk (xl0y.q2 v0 v1 v2)
def xl0y.t {γ:Type} (ret:(Int)→Option γ) (lp2:(List (Int × Int × Bool))→Int→Int→Option γ) (v0:List (Int × Int × Bool)) (v1:Int):Option γ :=
 lp2 (v0) (v1) ((0:Int))
def xl0y.t2 {γ:Type} (ret:(Int)→Option γ) (lp2:(List (Int × Int × Bool))→Int→Int→Option γ) (v0:List (Int × Int × Bool)) (v1:Int) (v2:Int):Option γ :=
 bif decide (v2<(↑v0.length:Int)) then
 bif decide ((0:Int)≤v2) then
 bif decide (v2.toNat<v0.length) then
 bif (v0.getD v2.toNat ((0:Int),(0:Int),Bool.false)).fst != v1 then
 ret ((-1:Int))
 else
 bif decide ((0:Int)≤v2) then
 bif decide (v2.toNat<v0.length) then
 bif (v0.getD v2.toNat ((0:Int),(0:Int),Bool.false)).snd.fst != IntKind.i64.wrap (v1+(1:Int)) then
 ret ((-1:Int))
 else
 bif decide ((0:Int)≤v2) then
 bif decide (v2.toNat<v0.length) then
 bif !(v0.getD v2.toNat ((0:Int),(0:Int),Bool.false)).snd.snd ==     ((IntKind.i64.wrap (IntKind.i64.wrap (v1+(1:Int))+(1:Int))).tmod (3:Int) == (0:Int)) then
 ret ((-1:Int))
 else
 lp2 (v0) (IntKind.i64.wrap (IntKind.i64.wrap (IntKind.i64.wrap (v1+(1:Int))+(1:Int))+(1:Int))) (IntKind.i64.wrap (v2+(1:Int)))
 else
 none
 else
 none
 else
 none
 else
 none
 else
 none
 else
 none
 else
 ret (v1)
theorem xl0y.u:∀ b,xl0y.un (xl0y.mk b)=b:=fun _ => by kernel_rfl
theorem xl0y.eq (v0 v1) {b} (h:xl0y.t some xl0y.l2 v0 v1=some b):xl0y v0 v1=some b:=eqF xl0y.u Try.f53 (callT_le E tab) rfl rfl rfl (xl0y.t (rR xl0y.mk) xl0y.q2 v0 v1) (by kernel_rfl) (by unfold xl0y.t; repeat' first | exact sR | exact sN | exact sL | apply sC | (apply sB; intro _)) h
theorem xl0y.eq2 (v0 v1 v2) {b} (h:xl0y.t2 some xl0y.l2 v0 v1 v2=some b):xl0y.l2 v0 v1 v2=some b:=eqL xl0y.u (xl0y.t2 (rR xl0y.mk) xl0y.q2 v0 v1 v2) (by kernel_rfl) (by unfold xl0y.t2; repeat' first | exact sR | exact sN | exact sL | apply sC | (apply sB; intro _)) h
def xl0z.s2 (v0:List (List Int × List Int × Bool)) (v1:Int) (v2:Int):List Cell:=vc (.d .fro Yb v0)::vc (iL v1)::nn 3 (vc (iL v2)::nn 36 ([]))
def xl0z.q2:=fun v0 v1 v2 => loopAtL E (callT E tab) 54 Try.f54 2 [.r,.l,.r,.b] (xl0z.s2 v0 v1 v2)
def xl0z.l2:=fun v0 v1 v2 => tOf xl0z.mk (xl0z.q2 v0 v1 v2)
def xl0z.t {γ:Type} (ret:(Int)→Option γ) (lp2:(List (List Int × List Int × Bool))→Int→Int→Option γ) (v0:List (List Int × List Int × Bool)) (v1:Int):Option γ :=
 lp2 (v0) (v1) ((0:Int))
def xl0z.t2 {γ:Type} (ret:(Int)→Option γ) (lp2:(List (List Int × List Int × Bool))→Int→Int→Option γ) (v0:List (List Int × List Int × Bool)) (v1:Int) (v2:Int):Option γ :=
 bif decide (v2<(↑v0.length:Int)) then
 bif decide ((0:Int)≤v2) then
 bif decide (v2.toNat<v0.length) then
 (xl14 ((v0.getD v2.toNat ([],[],Bool.false)).fst) (v1)).bind fun (r0:Int) =>
 bif decide (r0<(0:Int)) then
 ret ((-1:Int))
 else
 bif decide ((0:Int)≤v2) then
 bif decide (v2.toNat<v0.length) then
 (xl14 ((v0.getD v2.toNat ([],[],Bool.false)).snd.fst) (r0)).bind fun (r1:Int) =>
 bif decide (r1<(0:Int)) then
 ret ((-1:Int))
 else
 bif decide ((0:Int)≤v2) then
 bif decide (v2.toNat<v0.length) then
 bif !(v0.getD v2.toNat ([],[],Bool.false)).snd.snd == (r1.tmod (3:Int) == (0:Int)) then
 ret ((-1:Int))
 else
 lp2 (v0) (IntKind.i64.wrap (r1+(1:Int))) (IntKind.i64.wrap (v2+(1:Int)))
 else
 none
 else
 none
 else
 none
 else
 none
 else
 none
 else
 none
 else
 ret (v1)
theorem xl0z.u:∀ b,xl0z.un (xl0z.mk b)=b:=fun _ => by kernel_rfl
theorem xl0z.eq (v0 v1) {b} (h:xl0z.t some xl0z.l2 v0 v1=some b):xl0z v0 v1=some b:=eqF xl0z.u Try.f54 (callT_le E tab) rfl rfl rfl (xl0z.t (rR xl0z.mk) xl0z.q2 v0 v1) (by kernel_rfl) (by unfold xl0z.t; repeat' first | exact sR | exact sN | exact sL | apply sC | (apply sB; intro _)) h
theorem xl0z.eq2 (v0 v1 v2) {b} (h:xl0z.t2 some xl0z.l2 v0 v1 v2=some b):xl0z.l2 v0 v1 v2=some b:=eqL xl0z.u (xl0z.t2 (rR xl0z.mk) xl0z.q2 v0 v1 v2) (by kernel_rfl) (by unfold xl0z.t2; repeat' first | exact sR | exact sN | exact sL | apply sC | (apply sB; intro _)) h
def xl14.s2 (v0:List Int) (v1:Int) (v2:Int):List Cell:=vc (.d .fro (.sl (.int .i64)) v0)::vc (iL v1)::nn 3 (vc (iL v2)::nn 15 ([]))
def xl14.q2:=fun v0 v1 v2 => loopAtL E (callT E tab) 84 Try.f84 2 [.r,.l,.r,.b] (xl14.s2 v0 v1 v2)
def xl14.l2:=fun v0 v1 v2 => tOf xl14.mk (xl14.q2 v0 v1 v2)
def xl14.t {γ:Type} (ret:(Int)→Option γ) (lp2:(List Int)→Int→Int→Option γ) (v0:List Int) (v1:Int):Option γ :=
 lp2 (v0) (v1) ((0:Int))
def xl14.t2 {γ:Type} (ret:(Int)→Option γ) (lp2:(List Int)→Int→Int→Option γ) (v0:List Int) (v1:Int) (v2:Int):Option γ :=
 bif decide (v2<(↑v0.length:Int)) then
 bif decide ((0:Int)≤v2) then
 bif decide (v2.toNat<v0.length) then
 bif v0.getD v2.toNat (0:Int) != v1 then
 ret ((-1:Int))
 else
 lp2 (v0) (IntKind.i64.wrap (v1+(1:Int))) (IntKind.i64.wrap (v2+(1:Int)))
 else
 none
 else
 none
 else
 ret (v1)
theorem xl14.u:∀ b,xl14.un (xl14.mk b)=b:=fun _ => by kernel_rfl
theorem xl14.eq (v0 v1) {b} (h:xl14.t some xl14.l2 v0 v1=some b):xl14 v0 v1=some b:=eqF xl14.u Try.f84 (callT_le E tab) rfl rfl rfl (xl14.t (rR xl14.mk) xl14.q2 v0 v1) (by kernel_rfl) (by unfold xl14.t; repeat' first | exact sR | exact sN | exact sL | apply sC | (apply sB; intro _)) h
theorem xl14.eq2 (v0 v1 v2) {b} (h:xl14.t2 some xl14.l2 v0 v1 v2=some b):xl14.l2 v0 v1 v2=some b:=eqL xl14.u (xl14.t2 (rR xl14.mk) xl14.q2 v0 v1 v2) (by kernel_rfl) (by unfold xl14.t2; repeat' first | exact sR | exact sN | exact sL | apply sC | (apply sB; intro _)) h
def xl0x.s2 (v0:List Bool) (v1:Int) (v2:Int):List Cell:=vc (.d .fro (.sl .bool) v0)::vc (iL v1)::nn 3 (vc (iL v2)::nn 17 ([]))
def xl0x.q2:=fun v0 v1 v2 => loopAtL E (callT E tab) 29 Try.f29 2 [.r,.l,.r,.b] (xl0x.s2 v0 v1 v2)
def xl0x.l2:=fun v0 v1 v2 => tOf xl0x.mk (xl0x.q2 v0 v1 v2)
def xl0x.t {γ:Type} (ret:(Int)→Option γ) (lp2:(List Bool)→Int→Int→Option γ) (v0:List Bool) (v1:Int):Option γ :=
 lp2 (v0) (v1) ((0:Int))
def xl0x.t2 {γ:Type} (ret:(Int)→Option γ) (lp2:(List Bool)→Int→Int→Option γ) (v0:List Bool) (v1:Int) (v2:Int):Option γ :=
 bif decide (v2<(↑v0.length:Int)) then
 bif decide ((0:Int)≤v2) then
 bif decide (v2.toNat<v0.length) then
 bif !v0.getD v2.toNat Bool.false == (v1.tmod (3:Int) == (0:Int)) then
 ret ((-1:Int))
 else
 lp2 (v0) (IntKind.i64.wrap (v1+(1:Int))) (IntKind.i64.wrap (v2+(1:Int)))
 else
 none
 else
 none
 else
 ret (v1)
theorem xl0x.u:∀ b,xl0x.un (xl0x.mk b)=b:=fun _ => by kernel_rfl
theorem xl0x.eq (v0 v1) {b} (h:xl0x.t some xl0x.l2 v0 v1=some b):xl0x v0 v1=some b:=eqF xl0x.u Try.f29 (callT_le E tab) rfl rfl rfl (xl0x.t (rR xl0x.mk) xl0x.q2 v0 v1) (by kernel_rfl) (by unfold xl0x.t; repeat' first | exact sR | exact sN | exact sL | apply sC | (apply sB; intro _)) h
theorem xl0x.eq2 (v0 v1 v2) {b} (h:xl0x.t2 some xl0x.l2 v0 v1 v2=some b):xl0x.l2 v0 v1 v2=some b:=eqL xl0x.u (xl0x.t2 (rR xl0x.mk) xl0x.q2 v0 v1 v2) (by kernel_rfl) (by unfold xl0x.t2; repeat' first | exact sR | exact sN | exact sL | apply sC | (apply sB; intro _)) h
end
end GoV
