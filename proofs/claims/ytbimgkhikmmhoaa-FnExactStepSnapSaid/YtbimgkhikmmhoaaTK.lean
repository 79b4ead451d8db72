/- A part of the proof of FnExactStepSnap: an interpreter of the model over plain data, its soundness, and what it makes of the functions that the statement reaches. Conditions: none beyond what the given statement itself says. -/
import Derived.Test.YtbimgkhikmmhoaaTJ
set_option linter.unusedVariables false
set_option linter.unusedSimpArgs false
set_option linter.unnecessarySimpa false
set_option linter.unusedSectionVars false
/- The functions of the program, each told by what it answers in the end (printed by wip/tools/emit.py). -/
/-! Names of functions here: xs00 = slices_ContainsFunc_int_int_impl_areAll_int_1_impl_Wire_isWire_1, xs01 = slices_ContainsFunc_int_int_impl_areAll_int_1_impl_isAmountWord, xs02 = slices_IndexFunc_int_int_impl_areAll_int_1_impl_Wire_isWire_1, xs03 = slices_IndexFunc_int_int_impl_areAll_int_1_impl_isAmountWord, xi04 = impl_areAll_int_1_impl_Wire_isWire_1, xi05 = impl_areAll_int_1_impl_isAmountWord, xi06 = impl_areAll_int_impl_Wire_isWire_1, xi07 = impl_areAll_int_impl_isAmountWord, xs08 = slices_Clone_impl_Proc_impl_Proc, xl09 = laws_FnExactStepSnap, xs0a = slices_Clone_int_int, xi0b = impl_Snap_save_f06, xi0c = impl_Snap_send_c40, xi0d = impl_Snap_step_c40, xi0e = impl_Snap_take_f06, xi0f = impl_Wire_isWire_1, xl0g = laws_markProcS_c1d, xl0h = laws_markWireS_ac8, xi0i = impl_Snap_stepped, xi0j = impl_isAmountWord, xl0k = laws_markIntS_83f, xl0l = laws_markSnap_1a6, xi0m = impl_Wire_isNone, xi0n = impl_Wire_isWire, xs0o = spec_l15Save_6da, xs0p = spec_l15Step_967, xl0q = laws_toSnapStep, xl0r = laws_heldProcS, xl0s = laws_heldWireS, xs0t = spec_l15Amount, xi0u = impl_GoodSnap, xi0v = impl_Snap_own, xi0w = impl_StepSnap, xl0x = laws_heldIntS, xl0y = laws_heldSnap, xs0z = spec_GoodSnap, xs10 = spec_StepSnap, xl11 = laws_eqProcS, xl12 = laws_eqWireS, xl13 = laws_szProcS, xl14 = laws_szWireS, xl15 = laws_toProcS, xl16 = laws_toWireS, xi17 = impl_within, xl18 = laws_eqIntS, xl19 = laws_eqProc, xl1a = laws_eqSnap, xl1b = laws_eqWire, xl1c = laws_szIntS, xl1d = laws_szSnap, xl1e = laws_szWire, xl1f = laws_toIntS, xl1g = laws_toProc, xl1h = laws_toSnap, xl1i = laws_toWire, xs1j = spec_l15Own, xi1k = impl_sumOf, xs1l = spec_l1In -/
namespace GoV
abbrev Ya:Ty:=.sl (.pair (.sl (.int .i64)) (.pair (.sl (.int .i64)) .bool))
abbrev Yb:Ty:=.sl (.pair (.int .i64) (.pair (.int .i64) .bool))
open Go Go.Proofs
set_option maxRecDepth 100000
noncomputable section

def xl09.c (v0:List (Int × Int × Bool)) (v1:List (List Int × List Int × Bool)) (v2:Int) (v3:Int) (v4:Int) (v5:Int):List Cell:=ac [.d .fro Yb v0,.d .fro Ya v1]::ac [iL v2,iL v3,iL v4,iL v5]::[]
def xl09.mk (b:Bool):R:=(⟨.one,[bL b]⟩,nn 2 ([]))
def xl09.un (r:R):Bool:=((leafR r 0).dat .bool)
def xl09 (v0:List (Int × Int × Bool)) (v1:List (List Int × List Int × Bool)) (v2:Int) (v3:Int) (v4:Int) (v5:Int):Option (Bool):=tOf xl09.mk (vlim E 3 (xl09.c v0 v1 v2 v3 v4 v5))
def xl1d.c (v0:List (Int × Int × Bool)) (v1:List (List Int × List Int × Bool)) (v2:Int):List Cell:=ac [.d .fro Yb v0,.d .fro Ya v1]::vc (iL v2)::[]
def xl1d.mk (b:Int):R:=(⟨.one,[iL b]⟩,nn 2 ([]))
def xl1d.un (r:R):Int:=((leafR r 0).dat (.int .i64))
def xl1d (v0:List (Int × Int × Bool)) (v1:List (List Int × List Int × Bool)) (v2:Int):Option (Int):=tOf xl1d.mk (vlim E 8 (xl1d.c v0 v1 v2))
def xl13.c (v0:List (Int × Int × Bool)) (v1:Int):List Cell:=vc (.d .fro Yb v0)::vc (iL v1)::[]
def xl13.mk (b:Int):R:=(⟨.one,[iL b]⟩,nn 2 ([]))
def xl13.un (r:R):Int:=((leafR r 0).dat (.int .i64))
def xl13 (v0:List (Int × Int × Bool)) (v1:Int):Option (Int):=tOf xl13.mk (vlim E 41 (xl13.c v0 v1))
def xl14.c (v0:List (List Int × List Int × Bool)) (v1:Int):List Cell:=vc (.d .fro Ya v0)::vc (iL v1)::[]
def xl14.mk (b:Int):R:=(⟨.one,[iL b]⟩,nn 2 ([]))
def xl14.un (r:R):Int:=((leafR r 0).dat (.int .i64))
def xl14 (v0:List (List Int × List Int × Bool)) (v1:Int):Option (Int):=tOf xl14.mk (vlim E 42 (xl14.c v0 v1))
def xl1e.c (v0:List Int) (v1:List Int) (v2:Bool) (v3:Int):List Cell:=ac [.d .fro (.sl (.int .i64)) v0,.d .fro (.sl (.int .i64)) v1,bL v2]::vc (iL v3)::[]
def xl1e.mk (b:Int):R:=(⟨.one,[iL b]⟩,nn 2 ([]))
def xl1e.un (r:R):Int:=((leafR r 0).dat (.int .i64))
def xl1e (v0:List Int) (v1:List Int) (v2:Bool) (v3:Int):Option (Int):=tOf xl1e.mk (vlim E 75 (xl1e.c v0 v1 v2 v3))
def xl1c.c (v0:List Int) (v1:Int):List Cell:=vc (.d .fro (.sl (.int .i64)) v0)::vc (iL v1)::[]
def xl1c.mk (b:Int):R:=(⟨.one,[iL b]⟩,nn 2 ([]))
def xl1c.un (r:R):Int:=((leafR r 0).dat (.int .i64))
def xl1c (v0:List Int) (v1:Int):Option (Int):=tOf xl1c.mk (vlim E 94 (xl1c.c v0 v1))
def xl1h.c (v0:List (Int × Int × Bool)) (v1:List (List Int × List Int × Bool)):List Cell:=ac [.d .fro Yb v0,.d .fro Ya v1]::[]
def xl1h.mk (b:(List (Int × Int × Bool)) × (List (List Int × List Int × Bool))):R:=(⟨.agg,[.d .deep Yb b.1,.d .deep Ya b.2]⟩,nn 1 ([]))
def xl1h.un (r:R):(List (Int × Int × Bool)) × (List (List Int × List Int × Bool)):=((leafR r 0).dat Yb,(leafR r 1).dat Ya)
def xl1h (v0:List (Int × Int × Bool)) (v1:List (List Int × List Int × Bool)):Option ((List (Int × Int × Bool)) × (List (List Int × List Int × Bool))):=tOf xl1h.mk (vlim E 10 (xl1h.c v0 v1))
def xl15.c (v0:List (Int × Int × Bool)):List Cell:=vc (.d .fro Yb v0)::[]
def xl15.mk (b:(List (Int × Int × Bool))):R:=(⟨.one,[.d .deep Yb b]⟩,nn 1 ([]))
def xl15.un (r:R):(List (Int × Int × Bool)):=((leafR r 0).dat Yb)
def xl15 (v0:List (Int × Int × Bool)):Option ((List (Int × Int × Bool))):=tOf xl15.mk (vlim E 46 (xl15.c v0))
def xl1g.c (v0:Int) (v1:Int) (v2:Bool):List Cell:=ac [iL v0,iL v1,bL v2]::[]
def xl1g.mk (b:Int × Int × Bool):R:=(⟨.agg,[iL b.1,iL b.2.1,bL b.2.2]⟩,nn 1 ([]))
def xl1g.un (r:R):Int × Int × Bool:=((leafR r 0).dat (.int .i64),(leafR r 1).dat (.int .i64),(leafR r 2).dat .bool)
def xl1g (v0:Int) (v1:Int) (v2:Bool):Option (Int × Int × Bool):=tOf xl1g.mk (vlim E 79 (xl1g.c v0 v1 v2))
def xl16.c (v0:List (List Int × List Int × Bool)):List Cell:=vc (.d .fro Ya v0)::[]
def xl16.mk (b:(List (List Int × List Int × Bool))):R:=(⟨.one,[.d .deep Ya b]⟩,nn 1 ([]))
def xl16.un (r:R):(List (List Int × List Int × Bool)):=((leafR r 0).dat Ya)
def xl16 (v0:List (List Int × List Int × Bool)):Option ((List (List Int × List Int × Bool))):=tOf xl16.mk (vlim E 47 (xl16.c v0))
def xl1i.c (v0:List Int) (v1:List Int) (v2:Bool):List Cell:=ac [.d .fro (.sl (.int .i64)) v0,.d .fro (.sl (.int .i64)) v1,bL v2]::[]
def xl1i.mk (b:(List Int) × (List Int) × Bool):R:=(⟨.agg,[.d .deep (.sl (.int .i64)) b.1,.d .deep (.sl (.int .i64)) b.2.1,bL b.2.2]⟩,nn 1 ([]))
def xl1i.un (r:R):(List Int) × (List Int) × Bool:=((leafR r 0).dat (.sl (.int .i64)),(leafR r 1).dat (.sl (.int .i64)),(leafR r 2).dat .bool)
def xl1i (v0:List Int) (v1:List Int) (v2:Bool):Option ((List Int) × (List Int) × Bool):=tOf xl1i.mk (vlim E 80 (xl1i.c v0 v1 v2))
def xl1f.c (v0:List Int):List Cell:=vc (.d .fro (.sl (.int .i64)) v0)::[]
def xl1f.mk (b:(List Int)):R:=(⟨.one,[.d .deep (.sl (.int .i64)) b]⟩,nn 1 ([]))
def xl1f.un (r:R):(List Int):=((leafR r 0).dat (.sl (.int .i64)))
def xl1f (v0:List Int):Option ((List Int)):=tOf xl1f.mk (vlim E 20 (xl1f.c v0))
def xl0q.c (v0:Int) (v1:Int) (v2:Int) (v3:Int):List Cell:=ac [iL v0,iL v1,iL v2,iL v3]::[]
def xl0q.mk (b:Int × Int × Int × Int):R:=(⟨.agg,[iL b.1,iL b.2.1,iL b.2.2.1,iL b.2.2.2]⟩,nn 1 ([]))
def xl0q.un (r:R):Int × Int × Int × Int:=((leafR r 0).dat (.int .i64),(leafR r 1).dat (.int .i64),(leafR r 2).dat (.int .i64),(leafR r 3).dat (.int .i64))
def xl0q (v0:Int) (v1:Int) (v2:Int) (v3:Int):Option (Int × Int × Int × Int):=tOf xl0q.mk (vlim E 11 (xl0q.c v0 v1 v2 v3))
def xs10.c (v0:List (Int × Int × Bool)) (v1:List (List Int × List Int × Bool)) (v2:Int) (v3:Int) (v4:Int) (v5:Int):List Cell:=ac [.d .fro Yb v0,.d .fro Ya v1]::ac [iL v2,iL v3,iL v4,iL v5]::[]
def xs10.mk (b:(List (Int × Int × Bool)) × (List (List Int × List Int × Bool)) × Bool):R:=(⟨(.tup [some 2,none]),[.d .deep Yb b.1,.d .deep Ya b.2.1,bL b.2.2]⟩,nn 2 ([]))
def xs10.un (r:R):(List (Int × Int × Bool)) × (List (List Int × List Int × Bool)) × Bool:=((leafR r 0).dat Yb,(leafR r 1).dat Ya,(leafR r 2).dat .bool)
def xs10 (v0:List (Int × Int × Bool)) (v1:List (List Int × List Int × Bool)) (v2:Int) (v3:Int) (v4:Int) (v5:Int):Option ((List (Int × Int × Bool)) × (List (List Int × List Int × Bool)) × Bool):=tOf xs10.mk (vlim E 9 (xs10.c v0 v1 v2 v3 v4 v5))
def xs0z.c (v0:List (Int × Int × Bool)) (v1:List (List Int × List Int × Bool)):List Cell:=ac [.d .fro Yb v0,.d .fro Ya v1]::[]
def xs0z.mk (b:Bool):R:=(⟨.one,[bL b]⟩,nn 1 ([]))
def xs0z.un (r:R):Bool:=((leafR r 0).dat .bool)
def xs0z (v0:List (Int × Int × Bool)) (v1:List (List Int × List Int × Bool)):Option (Bool):=tOf xs0z.mk (vlim E 43 (xs0z.c v0 v1))
def xs1l.c (v0:Int) (v1:Int) (v2:Int):List Cell:=vc (iL v0)::vc (iL v1)::vc (iL v2)::[]
def xs1l.mk (b:Bool):R:=(⟨.one,[bL b]⟩,nn 3 ([]))
def xs1l.un (r:R):Bool:=((leafR r 0).dat .bool)
def xs1l (v0:Int) (v1:Int) (v2:Int):Option (Bool):=tOf xs1l.mk (vlim E 76 (xs1l.c v0 v1 v2))
def xs0t.c (v0:Int):List Cell:=vc (iL v0)::[]
def xs0t.mk (b:Bool):R:=(⟨.one,[bL b]⟩,nn 1 ([]))
def xs0t.un (r:R):Bool:=((leafR r 0).dat .bool)
def xs0t (v0:Int):Option (Bool):=tOf xs0t.mk (vlim E 77 (xs0t.c v0))
def xs1j.c (v0:List (Int × Int × Bool)) (v1:List (List Int × List Int × Bool)):List Cell:=ac [.d .fro Yb v0,.d .fro Ya v1]::[]
def xs1j.mk (b:(List (Int × Int × Bool)) × (List (List Int × List Int × Bool))):R:=(⟨.agg,[.d .deep Yb b.1,.d .deep Ya b.2]⟩,nn 1 ([]))
def xs1j.un (r:R):(List (Int × Int × Bool)) × (List (List Int × List Int × Bool)):=((leafR r 0).dat Yb,(leafR r 1).dat Ya)
def xs1j (v0:List (Int × Int × Bool)) (v1:List (List Int × List Int × Bool)):Option ((List (Int × Int × Bool)) × (List (List Int × List Int × Bool))):=tOf xs1j.mk (vlim E 45 (xs1j.c v0 v1))
def xs0p.c (v0:List (Int × Int × Bool)) (v1:List (List Int × List Int × Bool)) (v2:Int) (v3:Int) (v4:Int) (v5:Int):List Cell:=ac [.d .deep Yb v0,.d .deep Ya v1]::ac [iL v2,iL v3,iL v4,iL v5]::[]
def xs0p.mk (b:(List (Int × Int × Bool)) × (List (List Int × List Int × Bool)) × Bool):R:=(⟨(.tup [some 2,none]),[.d .deep Yb b.1,.d .deep Ya b.2.1,bL b.2.2]⟩,nn 2 ([]))
def xs0p.un (r:R):(List (Int × Int × Bool)) × (List (List Int × List Int × Bool)) × Bool:=((leafR r 0).dat Yb,(leafR r 1).dat Ya,(leafR r 2).dat .bool)
def xs0p (v0:List (Int × Int × Bool)) (v1:List (List Int × List Int × Bool)) (v2:Int) (v3:Int) (v4:Int) (v5:Int):Option ((List (Int × Int × Bool)) × (List (List Int × List Int × Bool)) × Bool):=tOf xs0p.mk (vlim E 44 (xs0p.c v0 v1 v2 v3 v4 v5))
def xs0o.c (v0:List (Int × Int × Bool)) (v1:List (List Int × List Int × Bool)) (v2:Int) (v3:Int):List Cell:=ac [.d .deep Yb v0,.d .deep Ya v1]::vc (iL v2)::vc (iL v3)::[]
def xs0o.mk (b:(List (Int × Int × Bool)) × (List (List Int × List Int × Bool)) × Bool):R:=(⟨(.tup [some 2,none]),[.d .deep Yb b.1,.d .deep Ya b.2.1,bL b.2.2]⟩,nn 3 ([]))
def xs0o.un (r:R):(List (Int × Int × Bool)) × (List (List Int × List Int × Bool)) × Bool:=((leafR r 0).dat Yb,(leafR r 1).dat Ya,(leafR r 2).dat .bool)
def xs0o (v0:List (Int × Int × Bool)) (v1:List (List Int × List Int × Bool)) (v2:Int) (v3:Int):Option ((List (Int × Int × Bool)) × (List (List Int × List Int × Bool)) × Bool):=tOf xs0o.mk (vlim E 78 (xs0o.c v0 v1 v2 v3))
def xi0w.c (v0:List (Int × Int × Bool)) (v1:List (List Int × List Int × Bool)) (v2:Int) (v3:Int) (v4:Int) (v5:Int):List Cell:=ac [.d .fro Yb v0,.d .fro Ya v1]::ac [iL v2,iL v3,iL v4,iL v5]::[]
def xi0w.mk (b:(List (Int × Int × Bool)) × (List (List Int × List Int × Bool)) × Bool):R:=(⟨(.tup [some 2,none]),[.d .deep Yb b.1,.d .deep Ya b.2.1,bL b.2.2]⟩,nn 2 ([]))
def xi0w.un (r:R):(List (Int × Int × Bool)) × (List (List Int × List Int × Bool)) × Bool:=((leafR r 0).dat Yb,(leafR r 1).dat Ya,(leafR r 2).dat .bool)
def xi0w (v0:List (Int × Int × Bool)) (v1:List (List Int × List Int × Bool)) (v2:Int) (v3:Int) (v4:Int) (v5:Int):Option ((List (Int × Int × Bool)) × (List (List Int × List Int × Bool)) × Bool):=tOf xi0w.mk (vlim E 12 (xi0w.c v0 v1 v2 v3 v4 v5))
def xi0u.c (v0:List (Int × Int × Bool)) (v1:List (List Int × List Int × Bool)):List Cell:=ac [.d .fro Yb v0,.d .fro Ya v1]::[]
def xi0u.mk (b:Bool):R:=(⟨.one,[bL b]⟩,nn 1 ([]))
def xi0u.un (r:R):Bool:=((leafR r 0).dat .bool)
def xi0u (v0:List (Int × Int × Bool)) (v1:List (List Int × List Int × Bool)):Option (Bool):=tOf xi0u.mk (vlim E 34 (xi0u.c v0 v1))
def xi17.c (v0:Int) (v1:Int) (v2:Int):List Cell:=vc (iL v0)::vc (iL v1)::vc (iL v2)::[]
def xi17.mk (b:Bool):R:=(⟨.one,[bL b]⟩,nn 3 ([]))
def xi17.un (r:R):Bool:=((leafR r 0).dat .bool)
def xi17 (v0:Int) (v1:Int) (v2:Int):Option (Bool):=tOf xi17.mk (vlim E 68 (xi17.c v0 v1 v2))
def xi0n.c (v0:List Int) (v1:List Int) (v2:Bool) (v3:Int) (v4:Int) (v5:Bool):List Cell:=ac [.d .fro (.sl (.int .i64)) v0,.d .fro (.sl (.int .i64)) v1,bL v2]::ac [iL v3,iL v4,bL v5]::[]
def xi0n.mk (b:Bool):R:=(⟨.one,[bL b]⟩,nn 2 ([]))
def xi0n.un (r:R):Bool:=((leafR r 0).dat .bool)
def xi0n (v0:List Int) (v1:List Int) (v2:Bool) (v3:Int) (v4:Int) (v5:Bool):Option (Bool):=tOf xi0n.mk (vlim E 69 (xi0n.c v0 v1 v2 v3 v4 v5))
def xi06.c (v0:List Int):List Cell:=vc (.d .fro (.sl (.int .i64)) v0)::vc (.fn 91 [])::[]
def xi06.mk (b:Bool):R:=(⟨.one,[bL b]⟩,nn 2 ([]))
def xi06.un (r:R):Bool:=((leafR r 0).dat .bool)
def xi06 (v0:List Int):Option (Bool):=tOf xi06.mk (vlim E 90 (xi06.c v0))
def xs00.c (v0:List Int):List Cell:=vc (.d .fro (.sl (.int .i64)) v0)::vc (.fn 99 [.rp [.fn 91 []] 0])::[]
def xs00.mk (b:Bool):R:=(⟨.one,[bL b]⟩,nn 2 ([]))
def xs00.un (r:R):Bool:=((leafR r 0).dat .bool)
def xs00 (v0:List Int):Option (Bool):=tOf xs00.mk (vlim E 98 (xs00.c v0))
def xs02.c (v0:List Int):List Cell:=vc (.d .fro (.sl (.int .i64)) v0)::vc (.fn 99 [.rp [.fn 91 []] 0])::[]
def xs02.mk (b:Int):R:=(⟨.one,[iL b]⟩,nn 2 ([]))
def xs02.un (r:R):Int:=((leafR r 0).dat (.int .i64))
def xs02 (v0:List Int):Option (Int):=tOf xs02.mk (vlim E 101 (xs02.c v0))
def xi04.c (v0:Int):List Cell:=vc (iL v0)::vc (.rp [.fn 91 []] 0)::[]
def xi04.mk (b:Bool):R:=(⟨.one,[bL b]⟩,nn 2 ([]))
def xi04.un (r:R):Bool:=((leafR r 0).dat .bool)
def xi04 (v0:Int):Option (Bool):=tOf xi04.mk (vlim E 99 (xi04.c v0))
def xi0f.c (v0:Int):List Cell:=vc (iL v0)::[]
def xi0f.mk (b:Bool):R:=(⟨.one,[bL b]⟩,nn 1 ([]))
def xi0f.un (r:R):Bool:=((leafR r 0).dat .bool)
def xi0f (v0:Int):Option (Bool):=tOf xi0f.mk (vlim E 91 (xi0f.c v0))
def xi0j.c (v0:Int):List Cell:=vc (iL v0)::[]
def xi0j.mk (b:Bool):R:=(⟨.one,[bL b]⟩,nn 1 ([]))
def xi0j.un (r:R):Bool:=((leafR r 0).dat .bool)
def xi0j (v0:Int):Option (Bool):=tOf xi0j.mk (vlim E 92 (xi0j.c v0))
def xi07.c (v0:List Int):List Cell:=vc (.d .fro (.sl (.int .i64)) v0)::vc (.fn 92 [])::[]
def xi07.mk (b:Bool):R:=(⟨.one,[bL b]⟩,nn 2 ([]))
def xi07.un (r:R):Bool:=((leafR r 0).dat .bool)
def xi07 (v0:List Int):Option (Bool):=tOf xi07.mk (vlim E 90 (xi07.c v0))
def xs01.c (v0:List Int):List Cell:=vc (.d .fro (.sl (.int .i64)) v0)::vc (.fn 99 [.rp [.fn 92 []] 0])::[]
def xs01.mk (b:Bool):R:=(⟨.one,[bL b]⟩,nn 2 ([]))
def xs01.un (r:R):Bool:=((leafR r 0).dat .bool)
def xs01 (v0:List Int):Option (Bool):=tOf xs01.mk (vlim E 98 (xs01.c v0))
def xs03.c (v0:List Int):List Cell:=vc (.d .fro (.sl (.int .i64)) v0)::vc (.fn 99 [.rp [.fn 92 []] 0])::[]
def xs03.mk (b:Int):R:=(⟨.one,[iL b]⟩,nn 2 ([]))
def xs03.un (r:R):Int:=((leafR r 0).dat (.int .i64))
def xs03 (v0:List Int):Option (Int):=tOf xs03.mk (vlim E 101 (xs03.c v0))
def xi05.c (v0:Int):List Cell:=vc (iL v0)::vc (.rp [.fn 92 []] 0)::[]
def xi05.mk (b:Bool):R:=(⟨.one,[bL b]⟩,nn 2 ([]))
def xi05.un (r:R):Bool:=((leafR r 0).dat .bool)
def xi05 (v0:Int):Option (Bool):=tOf xi05.mk (vlim E 99 (xi05.c v0))
def xi0m.c (v0:List Int) (v1:List Int) (v2:Bool):List Cell:=ac [.d .fro (.sl (.int .i64)) v0,.d .fro (.sl (.int .i64)) v1,bL v2]::[]
def xi0m.mk (b:Bool):R:=(⟨.one,[bL b]⟩,nn 1 ([]))
def xi0m.un (r:R):Bool:=((leafR r 0).dat .bool)
def xi0m (v0:List Int) (v1:List Int) (v2:Bool):Option (Bool):=tOf xi0m.mk (vlim E 70 (xi0m.c v0 v1 v2))
def xi1k.c (v0:List Int):List Cell:=vc (.d .fro (.sl (.int .i64)) v0)::[]
def xi1k.mk (b:Int):R:=(⟨.one,[iL b]⟩,nn 1 ([]))
def xi1k.un (r:R):Int:=((leafR r 0).dat (.int .i64))
def xi1k (v0:List Int):Option (Int):=tOf xi1k.mk (vlim E 67 (xi1k.c v0))
def xi0i.c (v0:List (Int × Int × Bool)) (v1:List (List Int × List Int × Bool)) (v2:Int) (v3:Int) (v4:Int) (v5:Int):List Cell:=ac [.d .fro Yb v0,.d .fro Ya v1]::ac [iL v2,iL v3,iL v4,iL v5]::[]
def xi0i.mk (b:(List (Int × Int × Bool)) × (List (List Int × List Int × Bool)) × Bool):R:=(⟨(.tup [some 2,none]),[.d .deep Yb b.1,.d .deep Ya b.2.1,bL b.2.2]⟩,nn 2 ([]))
def xi0i.un (r:R):(List (Int × Int × Bool)) × (List (List Int × List Int × Bool)) × Bool:=((leafR r 0).dat Yb,(leafR r 1).dat Ya,(leafR r 2).dat .bool)
def xi0i (v0:List (Int × Int × Bool)) (v1:List (List Int × List Int × Bool)) (v2:Int) (v3:Int) (v4:Int) (v5:Int):Option ((List (Int × Int × Bool)) × (List (List Int × List Int × Bool)) × Bool):=tOf xi0i.mk (vlim E 48 (xi0i.c v0 v1 v2 v3 v4 v5))
def xi0v.c (v0:List (Int × Int × Bool)) (v1:List (List Int × List Int × Bool)):List Cell:=ac [.d .fro Yb v0,.d .fro Ya v1]::[]
def xi0v.mk (b:(List (Int × Int × Bool)) × (List (List Int × List Int × Bool))):R:=(⟨.agg,[.d .deep Yb b.1,.d .deep Ya b.2]⟩,nn 1 ([]))
def xi0v.un (r:R):(List (Int × Int × Bool)) × (List (List Int × List Int × Bool)):=((leafR r 0).dat Yb,(leafR r 1).dat Ya)
def xi0v (v0:List (Int × Int × Bool)) (v1:List (List Int × List Int × Bool)):Option ((List (Int × Int × Bool)) × (List (List Int × List Int × Bool))):=tOf xi0v.mk (vlim E 57 (xi0v.c v0 v1))
def xs08.c (v0:List (Int × Int × Bool)):List Cell:=vc (.d .fro Yb v0)::[]
def xs08.mk (b:(List (Int × Int × Bool))):R:=(⟨.one,[.d .deep Yb b]⟩,nn 1 ([]))
def xs08.un (r:R):(List (Int × Int × Bool)):=((leafR r 0).dat Yb)
def xs08 (v0:List (Int × Int × Bool)):Option ((List (Int × Int × Bool))):=tOf xs08.mk (vlim E 86 (xs08.c v0))
def xs0a.c (v0:List Int):List Cell:=vc (.d .fro (.sl (.int .i64)) v0)::[]
def xs0a.mk (b:(List Int)):R:=(⟨.one,[.d .deep (.sl (.int .i64)) b]⟩,nn 1 ([]))
def xs0a.un (r:R):(List Int):=((leafR r 0).dat (.sl (.int .i64)))
def xs0a (v0:List Int):Option ((List Int)):=tOf xs0a.mk (vlim E 87 (xs0a.c v0))
def xi0d.c (v0:List (Int × Int × Bool)) (v1:List (List Int × List Int × Bool)) (v2:Int) (v3:Int) (v4:Int) (v5:Int):List Cell:=⟨(.val .agg),[.d .deep Yb v0,.d .deep Ya v1],true,false,false,0,0⟩::ac [iL v2,iL v3,iL v4,iL v5]::[]
def xi0d.mk (b:Bool × (List (Int × Int × Bool)) × (List (List Int × List Int × Bool))):R:=(⟨.one,[bL b.1]⟩,⟨(.val .agg),[.d .deep Yb b.2.1,.d .deep Ya b.2.2],true,false,false,0,0⟩::nn 1 ([]))
def xi0d.un (r:R):Bool × (List (Int × Int × Bool)) × (List (List Int × List Int × Bool)):=((leafR r 0).dat .bool,(leafF r 0 0).dat Yb,(leafF r 0 1).dat Ya)
def xi0d (v0:List (Int × Int × Bool)) (v1:List (List Int × List Int × Bool)) (v2:Int) (v3:Int) (v4:Int) (v5:Int):Option (Bool × (List (Int × Int × Bool)) × (List (List Int × List Int × Bool))):=tOf xi0d.mk (vlim E 81 (xi0d.c v0 v1 v2 v3 v4 v5))
def xi0b.c (v0:List (Int × Int × Bool)) (v1:List (List Int × List Int × Bool)) (v2:Int) (v3:Int):List Cell:=⟨(.val .agg),[.d .deep Yb v0,.d .deep Ya v1],true,false,false,0,0⟩::vc (iL v2)::vc (iL v3)::[]
def xi0b.mk (b:Bool × (List (Int × Int × Bool)) × (List (List Int × List Int × Bool))):R:=(⟨.one,[bL b.1]⟩,⟨(.val .agg),[.d .deep Yb b.2.1,.d .deep Ya b.2.2],true,false,false,0,0⟩::nn 2 ([]))
def xi0b.un (r:R):Bool × (List (Int × Int × Bool)) × (List (List Int × List Int × Bool)):=((leafR r 0).dat .bool,(leafF r 0 0).dat Yb,(leafF r 0 1).dat Ya)
def xi0b (v0:List (Int × Int × Bool)) (v1:List (List Int × List Int × Bool)) (v2:Int) (v3:Int):Option (Bool × (List (Int × Int × Bool)) × (List (List Int × List Int × Bool))):=tOf xi0b.mk (vlim E 95 (xi0b.c v0 v1 v2 v3))
def xi0c.c (v0:List (Int × Int × Bool)) (v1:List (List Int × List Int × Bool)) (v2:Int) (v3:Int) (v4:Int) (v5:Int):List Cell:=⟨(.val .agg),[.d .deep Yb v0,.d .deep Ya v1],true,false,false,0,0⟩::ac [iL v2,iL v3,iL v4,iL v5]::[]
def xi0c.mk (b:Bool × (List (Int × Int × Bool)) × (List (List Int × List Int × Bool))):R:=(⟨.one,[bL b.1]⟩,⟨(.val .agg),[.d .deep Yb b.2.1,.d .deep Ya b.2.2],true,false,false,0,0⟩::nn 1 ([]))
def xi0c.un (r:R):Bool × (List (Int × Int × Bool)) × (List (List Int × List Int × Bool)):=((leafR r 0).dat .bool,(leafF r 0 0).dat Yb,(leafF r 0 1).dat Ya)
def xi0c (v0:List (Int × Int × Bool)) (v1:List (List Int × List Int × Bool)) (v2:Int) (v3:Int) (v4:Int) (v5:Int):Option (Bool × (List (Int × Int × Bool)) × (List (List Int × List Int × Bool))):=tOf xi0c.mk (vlim E 96 (xi0c.c v0 v1 v2 v3 v4 v5))
def xi0e.c (v0:List (Int × Int × Bool)) (v1:List (List Int × List Int × Bool)) (v2:Int) (v3:Int):List Cell:=⟨(.val .agg),[.d .deep Yb v0,.d .deep Ya v1],true,false,false,0,0⟩::vc (iL v2)::vc (iL v3)::[]
def xi0e.mk (b:Bool × (List (Int × Int × Bool)) × (List (List Int × List Int × Bool))):R:=(⟨.one,[bL b.1]⟩,⟨(.val .agg),[.d .deep Yb b.2.1,.d .deep Ya b.2.2],true,false,false,0,0⟩::nn 2 ([]))
def xi0e.un (r:R):Bool × (List (Int × Int × Bool)) × (List (List Int × List Int × Bool)):=((leafR r 0).dat .bool,(leafF r 0 0).dat Yb,(leafF r 0 1).dat Ya)
def xi0e (v0:List (Int × Int × Bool)) (v1:List (List Int × List Int × Bool)) (v2:Int) (v3:Int):Option (Bool × (List (Int × Int × Bool)) × (List (List Int × List Int × Bool))):=tOf xi0e.mk (vlim E 97 (xi0e.c v0 v1 v2 v3))
def xl1a.c (v0:List (Int × Int × Bool)) (v1:List (List Int × List Int × Bool)) (v2:List (Int × Int × Bool)) (v3:List (List Int × List Int × Bool)):List Cell:=ac [.d .fro Yb v0,.d .fro Ya v1]::ac [.d .fro Yb v2,.d .fro Ya v3]::[]
def xl1a.mk (b:Bool):R:=(⟨.one,[bL b]⟩,nn 2 ([]))
def xl1a.un (r:R):Bool:=((leafR r 0).dat .bool)
def xl1a (v0:List (Int × Int × Bool)) (v1:List (List Int × List Int × Bool)) (v2:List (Int × Int × Bool)) (v3:List (List Int × List Int × Bool)):Option (Bool):=tOf xl1a.mk (vlim E 13 (xl1a.c v0 v1 v2 v3))
def xl11.c (v0:List (Int × Int × Bool)) (v1:List (Int × Int × Bool)):List Cell:=vc (.d .fro Yb v0)::vc (.d .fro Yb v1)::[]
def xl11.mk (b:Bool):R:=(⟨.one,[bL b]⟩,nn 2 ([]))
def xl11.un (r:R):Bool:=((leafR r 0).dat .bool)
def xl11 (v0:List (Int × Int × Bool)) (v1:List (Int × Int × Bool)):Option (Bool):=tOf xl11.mk (vlim E 49 (xl11.c v0 v1))
def xl19.c (v0:Int) (v1:Int) (v2:Bool) (v3:Int) (v4:Int) (v5:Bool):List Cell:=ac [iL v0,iL v1,bL v2]::ac [iL v3,iL v4,bL v5]::[]
def xl19.mk (b:Bool):R:=(⟨.one,[bL b]⟩,nn 2 ([]))
def xl19.un (r:R):Bool:=((leafR r 0).dat .bool)
def xl19 (v0:Int) (v1:Int) (v2:Bool) (v3:Int) (v4:Int) (v5:Bool):Option (Bool):=tOf xl19.mk (vlim E 82 (xl19.c v0 v1 v2 v3 v4 v5))
def xl12.c (v0:List (List Int × List Int × Bool)) (v1:List (List Int × List Int × Bool)):List Cell:=vc (.d .fro Ya v0)::vc (.d .fro Ya v1)::[]
def xl12.mk (b:Bool):R:=(⟨.one,[bL b]⟩,nn 2 ([]))
def xl12.un (r:R):Bool:=((leafR r 0).dat .bool)
def xl12 (v0:List (List Int × List Int × Bool)) (v1:List (List Int × List Int × Bool)):Option (Bool):=tOf xl12.mk (vlim E 50 (xl12.c v0 v1))
def xl1b.c (v0:List Int) (v1:List Int) (v2:Bool) (v3:List Int) (v4:List Int) (v5:Bool):List Cell:=ac [.d .fro (.sl (.int .i64)) v0,.d .fro (.sl (.int .i64)) v1,bL v2]::ac [.d .fro (.sl (.int .i64)) v3,.d .fro (.sl (.int .i64)) v4,bL v5]::[]
def xl1b.mk (b:Bool):R:=(⟨.one,[bL b]⟩,nn 2 ([]))
def xl1b.un (r:R):Bool:=((leafR r 0).dat .bool)
def xl1b (v0:List Int) (v1:List Int) (v2:Bool) (v3:List Int) (v4:List Int) (v5:Bool):Option (Bool):=tOf xl1b.mk (vlim E 83 (xl1b.c v0 v1 v2 v3 v4 v5))
def xl18.c (v0:List Int) (v1:List Int):List Cell:=vc (.d .fro (.sl (.int .i64)) v0)::vc (.d .fro (.sl (.int .i64)) v1)::[]
def xl18.mk (b:Bool):R:=(⟨.one,[bL b]⟩,nn 2 ([]))
def xl18.un (r:R):Bool:=((leafR r 0).dat .bool)
def xl18 (v0:List Int) (v1:List Int):Option (Bool):=tOf xl18.mk (vlim E 24 (xl18.c v0 v1))
def xl0l.c (v0:List (Int × Int × Bool)) (v1:List (List Int × List Int × Bool)) (v2:Int):List Cell:=⟨(.val .agg),[.d .deep Yb v0,.d .deep Ya v1],true,false,false,0,0⟩::vc (iL v2)::[]
def xl0l.mk (b:Int × (List (Int × Int × Bool)) × (List (List Int × List Int × Bool))):R:=(⟨.one,[iL b.1]⟩,⟨(.val .agg),[.d .deep Yb b.2.1,.d .deep Ya b.2.2],true,false,false,0,0⟩::nn 1 ([]))
def xl0l.un (r:R):Int × (List (Int × Int × Bool)) × (List (List Int × List Int × Bool)):=((leafR r 0).dat (.int .i64),(leafF r 0 0).dat Yb,(leafF r 0 1).dat Ya)
def xl0l (v0:List (Int × Int × Bool)) (v1:List (List Int × List Int × Bool)) (v2:Int):Option (Int × (List (Int × Int × Bool)) × (List (List Int × List Int × Bool))):=tOf xl0l.mk (vlim E 14 (xl0l.c v0 v1 v2))
def xl0g.c (v0:List (Int × Int × Bool)) (v1:Int):List Cell:=⟨(.val .one),[.d .deep Yb v0],true,false,false,0,0⟩::vc (iL v1)::[]
def xl0g.mk (b:Int × (List (Int × Int × Bool))):R:=(⟨.one,[iL b.1]⟩,⟨(.val .one),[.d .deep Yb b.2],true,false,false,0,0⟩::nn 1 ([]))
def xl0g.un (r:R):Int × (List (Int × Int × Bool)):=((leafR r 0).dat (.int .i64),(leafF r 0 0).dat Yb)
def xl0g (v0:List (Int × Int × Bool)) (v1:Int):Option (Int × (List (Int × Int × Bool))):=tOf xl0g.mk (vlim E 51 (xl0g.c v0 v1))
def xl0h.c (v0:List (List Int × List Int × Bool)) (v1:Int):List Cell:=⟨(.val .one),[.d .deep Ya v0],true,false,false,0,0⟩::vc (iL v1)::[]
def xl0h.mk (b:Int × (List (List Int × List Int × Bool))):R:=(⟨.one,[iL b.1]⟩,⟨(.val .one),[.d .deep Ya b.2],true,false,false,0,0⟩::nn 1 ([]))
def xl0h.un (r:R):Int × (List (List Int × List Int × Bool)):=((leafR r 0).dat (.int .i64),(leafF r 0 0).dat Ya)
def xl0h (v0:List (List Int × List Int × Bool)) (v1:Int):Option (Int × (List (List Int × List Int × Bool))):=tOf xl0h.mk (vlim E 52 (xl0h.c v0 v1))
def xl0k.c (v0:List Int) (v1:Int):List Cell:=⟨(.val .one),[.d .deep (.sl (.int .i64)) v0],true,false,false,0,0⟩::vc (iL v1)::[]
def xl0k.mk (b:Int × (List Int)):R:=(⟨.one,[iL b.1]⟩,⟨(.val .one),[.d .deep (.sl (.int .i64)) b.2],true,false,false,0,0⟩::nn 1 ([]))
def xl0k.un (r:R):Int × (List Int):=((leafR r 0).dat (.int .i64),(leafF r 0 0).dat (.sl (.int .i64)))
def xl0k (v0:List Int) (v1:Int):Option (Int × (List Int)):=tOf xl0k.mk (vlim E 26 (xl0k.c v0 v1))
def xl0y.c (v0:List (Int × Int × Bool)) (v1:List (List Int × List Int × Bool)) (v2:Int):List Cell:=ac [.d .fro Yb v0,.d .fro Ya v1]::vc (iL v2)::[]
def xl0y.mk (b:Int):R:=(⟨.one,[iL b]⟩,nn 2 ([]))
def xl0y.un (r:R):Int:=((leafR r 0).dat (.int .i64))
def xl0y (v0:List (Int × Int × Bool)) (v1:List (List Int × List Int × Bool)) (v2:Int):Option (Int):=tOf xl0y.mk (vlim E 15 (xl0y.c v0 v1 v2))
def xl0r.c (v0:List (Int × Int × Bool)) (v1:Int):List Cell:=vc (.d .fro Yb v0)::vc (iL v1)::[]
def xl0r.mk (b:Int):R:=(⟨.one,[iL b]⟩,nn 2 ([]))
def xl0r.un (r:R):Int:=((leafR r 0).dat (.int .i64))
def xl0r (v0:List (Int × Int × Bool)) (v1:Int):Option (Int):=tOf xl0r.mk (vlim E 53 (xl0r.c v0 v1))
def xl0s.c (v0:List (List Int × List Int × Bool)) (v1:Int):List Cell:=vc (.d .fro Ya v0)::vc (iL v1)::[]
def xl0s.mk (b:Int):R:=(⟨.one,[iL b]⟩,nn 2 ([]))
def xl0s.un (r:R):Int:=((leafR r 0).dat (.int .i64))
def xl0s (v0:List (List Int × List Int × Bool)) (v1:Int):Option (Int):=tOf xl0s.mk (vlim E 54 (xl0s.c v0 v1))
def xl0x.c (v0:List Int) (v1:Int):List Cell:=vc (.d .fro (.sl (.int .i64)) v0)::vc (iL v1)::[]
def xl0x.mk (b:Int):R:=(⟨.one,[iL b]⟩,nn 2 ([]))
def xl0x.un (r:R):Int:=((leafR r 0).dat (.int .i64))
def xl0x (v0:List Int) (v1:Int):Option (Int):=tOf xl0x.mk (vlim E 84 (xl0x.c v0 v1))
def tabT : List (Nat × List (List Cell × Tb)) := [
 (3,[(xl09.c [] [] 0 0 0 0,.one (Bool) xl09.mk)]),
 (8,[(xl1d.c [] [] 0,.one (Int) xl1d.mk)]),
 (9,[(xs10.c [] [] 0 0 0 0,.one ((List (Int × Int × Bool)) × (List (List Int × List Int × Bool)) × Bool) xs10.mk)]),
 (10,[(xl1h.c [] [],.one ((List (Int × Int × Bool)) × (List (List Int × List Int × Bool))) xl1h.mk)]),
 (11,[(xl0q.c 0 0 0 0,.one (Int × Int × Int × Int) xl0q.mk)]),
 (12,[(xi0w.c [] [] 0 0 0 0,.one ((List (Int × Int × Bool)) × (List (List Int × List Int × Bool)) × Bool) xi0w.mk)]),
 (13,[(xl1a.c [] [] [] [],.one (Bool) xl1a.mk)]),
 (14,[(xl0l.c [] [] 0,.one (Int × (List (Int × Int × Bool)) × (List (List Int × List Int × Bool))) xl0l.mk)]),
 (15,[(xl0y.c [] [] 0,.one (Int) xl0y.mk)]),
 (20,[(xl1f.c [],.one ((List Int)) xl1f.mk)]),
 (24,[(xl18.c [] [],.one (Bool) xl18.mk)]),
 (26,[(xl0k.c [] 0,.one (Int × (List Int)) xl0k.mk)]),
 (34,[(xi0u.c [] [],.one (Bool) xi0u.mk)]),
 (41,[(xl13.c [] 0,.one (Int) xl13.mk)]),
 (42,[(xl14.c [] 0,.one (Int) xl14.mk)]),
 (43,[(xs0z.c [] [],.one (Bool) xs0z.mk)]),
 (44,[(xs0p.c [] [] 0 0 0 0,.one ((List (Int × Int × Bool)) × (List (List Int × List Int × Bool)) × Bool) xs0p.mk)]),
 (45,[(xs1j.c [] [],.one ((List (Int × Int × Bool)) × (List (List Int × List Int × Bool))) xs1j.mk)]),
 (46,[(xl15.c [],.one ((List (Int × Int × Bool))) xl15.mk)]),
 (47,[(xl16.c [],.one ((List (List Int × List Int × Bool))) xl16.mk)]),
 (48,[(xi0i.c [] [] 0 0 0 0,.one ((List (Int × Int × Bool)) × (List (List Int × List Int × Bool)) × Bool) xi0i.mk)]),
 (49,[(xl11.c [] [],.one (Bool) xl11.mk)]),
 (50,[(xl12.c [] [],.one (Bool) xl12.mk)]),
 (51,[(xl0g.c [] 0,.one (Int × (List (Int × Int × Bool))) xl0g.mk)]),
 (52,[(xl0h.c [] 0,.one (Int × (List (List Int × List Int × Bool))) xl0h.mk)]),
 (53,[(xl0r.c [] 0,.one (Int) xl0r.mk)]),
 (54,[(xl0s.c [] 0,.one (Int) xl0s.mk)]),
 (57,[(xi0v.c [] [],.one ((List (Int × Int × Bool)) × (List (List Int × List Int × Bool))) xi0v.mk)]),
 (67,[(xi1k.c [],.one (Int) xi1k.mk)]),
 (68,[(xi17.c 0 0 0,.one (Bool) xi17.mk)]),
 (69,[(xi0n.c [] [] false 0 0 false,.one (Bool) xi0n.mk)]),
 (70,[(xi0m.c [] [] false,.one (Bool) xi0m.mk)]),
 (75,[(xl1e.c [] [] false 0,.one (Int) xl1e.mk)]),
 (76,[(xs1l.c 0 0 0,.one (Bool) xs1l.mk)]),
 (77,[(xs0t.c 0,.one (Bool) xs0t.mk)]),
 (78,[(xs0o.c [] [] 0 0,.one ((List (Int × Int × Bool)) × (List (List Int × List Int × Bool)) × Bool) xs0o.mk)]),
 (79,[(xl1g.c 0 0 false,.one (Int × Int × Bool) xl1g.mk)]),
 (80,[(xl1i.c [] [] false,.one ((List Int) × (List Int) × Bool) xl1i.mk)]),
 (81,[(xi0d.c [] [] 0 0 0 0,.one (Bool × (List (Int × Int × Bool)) × (List (List Int × List Int × Bool))) xi0d.mk)]),
 (82,[(xl19.c 0 0 false 0 0 false,.one (Bool) xl19.mk)]),
 (83,[(xl1b.c [] [] false [] [] false,.one (Bool) xl1b.mk)]),
 (84,[(xl0x.c [] 0,.one (Int) xl0x.mk)]),
 (86,[(xs08.c [],.one ((List (Int × Int × Bool))) xs08.mk)]),
 (87,[(xs0a.c [],.one ((List Int)) xs0a.mk)]),
 (90,[(xi06.c [],.one (Bool) xi06.mk),(xi07.c [],.one (Bool) xi07.mk)]),
 (91,[(xi0f.c 0,.one (Bool) xi0f.mk)]),
 (92,[(xi0j.c 0,.one (Bool) xi0j.mk)]),
 (94,[(xl1c.c [] 0,.one (Int) xl1c.mk)]),
 (95,[(xi0b.c [] [] 0 0,.one (Bool × (List (Int × Int × Bool)) × (List (List Int × List Int × Bool))) xi0b.mk)]),
 (96,[(xi0c.c [] [] 0 0 0 0,.one (Bool × (List (Int × Int × Bool)) × (List (List Int × List Int × Bool))) xi0c.mk)]),
 (97,[(xi0e.c [] [] 0 0,.one (Bool × (List (Int × Int × Bool)) × (List (List Int × List Int × Bool))) xi0e.mk)]),
 (98,[(xs00.c [],.one (Bool) xs00.mk),(xs01.c [],.one (Bool) xs01.mk)]),
 (99,[(xi04.c 0,.one (Bool) xi04.mk),(xi05.c 0,.one (Bool) xi05.mk)]),
 (101,[(xs02.c [],.one (Int) xs02.mk),(xs03.c [],.one (Int) xs03.mk)])]
def tab:FuncId→List Cell→Tb:=fun g cs => match assoc tabT g with | some l => pickT l cs | none => .no
end
end GoV

/- Equations of the program's functions (printed by wip/tools/emit.py). -/
namespace GoV
open Go Go.Proofs
set_option maxRecDepth 100000
noncomputable section

def xl09.t {γ:Type} (ret:(Bool)→Option γ) (v0:List (Int × Int × Bool)) (v1:List (List Int × List Int × Bool)) (v2:Int) (v3:Int) (v4:Int) (v5:Int):Option γ :=
 (xl1d (v0) (v1) ((1048576:Int))).bind fun (r0:Int) =>
 bif decide (r0<(0:Int)) then
 ret (Bool.true)
 else
 (xl1h (v0) (v1)).bind fun (r1:(List (Int × Int × Bool)) × (List (List Int × List Int × Bool))) =>
 (xl0q (v2) (v3) (v4) (v5)).bind fun (r2:Int × Int × Int × Int) =>
 (xs10 (r1.fst) (r1.snd) (r2.fst) (r2.snd.fst) (r2.snd.snd.fst) (r2.snd.snd.snd)).bind fun (r3:(List (Int × Int × Bool)) × (List (List Int × List Int × Bool)) × Bool) =>
 (xl1h (v0) (v1)).bind fun (r4:(List (Int × Int × Bool)) × (List (List Int × List Int × Bool))) =>
 (xl0q (v2) (v3) (v4) (v5)).bind fun (r5:Int × Int × Int × Int) =>
 (xi0w (r4.fst) (r4.snd) (r5.fst) (r5.snd.fst) (r5.snd.snd.fst) (r5.snd.snd.snd)).bind fun (r6:(List (Int × Int × Bool)) × (List (List Int × List Int × Bool)) × Bool) =>
 (xl1a (r6.fst) (r6.snd.fst) (r3.fst) (r3.snd.fst)).bind fun (r7:Bool) =>
 bif !r7 then
 ret (Bool.false)
 else
 bif !r6.snd.snd == r3.snd.snd then
 ret (Bool.false)
 else
 (xl1h (v0) (v1)).bind fun (r8:(List (Int × Int × Bool)) × (List (List Int × List Int × Bool))) =>
 (xl1a (r4.fst) (r4.snd) (r8.fst) (r8.snd)).bind fun (r9:Bool) =>
 bif !r9 then
 ret (Bool.false)
 else
 (xl0l (r4.fst) (r4.snd) ((1:Int))).bind fun (r10:Int × (List (Int × Int × Bool)) × (List (List Int × List Int × Bool))) =>
 bif decide (r10.fst<(0:Int)) then
 ret (Bool.false)
 else
 (xl1a (r6.fst) (r6.snd.fst) (r3.fst) (r3.snd.fst)).bind fun (r11:Bool) =>
 bif !r11 then
 ret (Bool.false)
 else
 bif !r6.snd.snd == r3.snd.snd then
 ret (Bool.false)
 else
 (xl0l (r6.fst) (r6.snd.fst) ((1:Int))).bind fun (r12:Int × (List (Int × Int × Bool)) × (List (List Int × List Int × Bool))) =>
 (xl0y (r12.snd.fst) (r12.snd.snd) ((1:Int))).bind fun (r13:Int) =>
 bif decide (r13<(0:Int)) then
 ret (Bool.false)
 else
 bif r13 != r12.fst then
 ret (Bool.false)
 else
 (xl1h (v0) (v1)).bind fun (r14:(List (Int × Int × Bool)) × (List (List Int × List Int × Bool))) =>
 (xl0q (v2) (v3) (v4) (v5)).bind fun (r15:Int × Int × Int × Int) =>
 (xi0w (r14.fst) (r14.snd) (r15.fst) (r15.snd.fst) (r15.snd.snd.fst) (r15.snd.snd.snd)).bind fun (r16:(List (Int × Int × Bool)) × (List (List Int × List Int × Bool)) × Bool) =>
 (xl1a (r16.fst) (r16.snd.fst) (r3.fst) (r3.snd.fst)).bind fun (r17:Bool) =>
 bif !r17 then
 ret (Bool.false)
 else
 bif !r16.snd.snd == r3.snd.snd then
 ret (Bool.false)
 else
 (xl0y (r12.snd.fst) (r12.snd.snd) ((1:Int))).bind fun (r18:Int) =>
 bif decide (r18<(0:Int)) then
 ret (Bool.false)
 else
 bif r18 != r12.fst then
 ret (Bool.false)
 else
 ret (Bool.true)
theorem xl09.u:∀ b,xl09.un (xl09.mk b)=b:=fun _ => by kernel_rfl
theorem xl09.eq (v0 v1 v2 v3 v4 v5) {b} (h:xl09.t some v0 v1 v2 v3 v4 v5=some b):xl09 v0 v1 v2 v3 v4 v5=some b:=eqF xl09.u Try.f3 (callT_le E tab) rfl rfl rfl (xl09.t (rR xl09.mk) v0 v1 v2 v3 v4 v5) (by kernel_rfl) (by unfold xl09.t; repeat' first | exact sR | exact sN | exact sL | apply sC | (apply sB; intro _)) h
def xl1d.t {γ:Type} (ret:(Int)→Option γ) (v0:List (Int × Int × Bool)) (v1:List (List Int × List Int × Bool)) (v2:Int):Option γ :=
 (xl13 (v0) (v2)).bind fun (r0:Int) =>
 bif decide (r0<(0:Int)) then
 ret ((-1:Int))
 else
 (xl14 (v1) (r0)).bind fun (r1:Int) =>
 bif decide (r1<(0:Int)) then
 ret ((-1:Int))
 else
 ret (r1)
theorem xl1d.u:∀ b,xl1d.un (xl1d.mk b)=b:=fun _ => by kernel_rfl
theorem xl1d.eq (v0 v1 v2) {b} (h:xl1d.t some v0 v1 v2=some b):xl1d v0 v1 v2=some b:=eqF xl1d.u Try.f8 (callT_le E tab) rfl rfl rfl (xl1d.t (rR xl1d.mk) v0 v1 v2) (by kernel_rfl) (by unfold xl1d.t; repeat' first | exact sR | exact sN | exact sL | apply sC | (apply sB; intro _)) h
def xl13.t {γ:Type} (ret:(Int)→Option γ) (v0:List (Int × Int × Bool)) (v1:Int):Option γ :=
 bif decide (IntKind.i64.wrap (v1 - (↑v0.length:Int))<(0:Int)) then
 ret ((-1:Int))
 else
 ret (IntKind.i64.wrap (v1 - (↑v0.length:Int)))
theorem xl13.u:∀ b,xl13.un (xl13.mk b)=b:=fun _ => by kernel_rfl
theorem xl13.eq (v0 v1) {b} (h:xl13.t some v0 v1=some b):xl13 v0 v1=some b:=eqF xl13.u Try.f41 (callT_le E tab) rfl rfl rfl (xl13.t (rR xl13.mk) v0 v1) (by kernel_rfl) (by unfold xl13.t; repeat' first | exact sR | exact sN | exact sL | apply sC | (apply sB; intro _)) h
def xl14.s5 (v0:List (List Int × List Int × Bool)) (v1:Int) (v2:Int):List Cell:=vc (.d .fro Ya v0)::vc (iL v1)::nn 3 (vc (iL v2)::nn 21 ([]))
def xl14.q5:=fun v0 v1 v2 => loopAtL E (callT E tab) 42 Try.f42 2 [.r,.r,.r,.l,.r,.b] (xl14.s5 v0 v1 v2)
def xl14.l5:=fun v0 v1 v2 => tOf xl14.mk (xl14.q5 v0 v1 v2)
def xl14.t {γ:Type} (ret:(Int)→Option γ) (lp5:(List (List Int × List Int × Bool))→Int→Int→Option γ) (v0:List (List Int × List Int × Bool)) (v1:Int):Option γ :=
 bif decide (IntKind.i64.wrap (v1 - (↑v0.length:Int))<(0:Int)) then
 ret ((-1:Int))
 else
 lp5 (v0) (IntKind.i64.wrap (v1 - (↑v0.length:Int))) ((0:Int))
def xl14.t5 {γ:Type} (ret:(Int)→Option γ) (lp5:(List (List Int × List Int × Bool))→Int→Int→Option γ) (v0:List (List Int × List Int × Bool)) (v1:Int) (v2:Int):Option γ :=
 bif decide (v2<(↑v0.length:Int)) then
 bif decide ((0:Int)≤v2) then
 bif decide (v2.toNat<v0.length) then
 (xl1e ((v0.getD v2.toNat ([],[],Bool.false)).fst) ((v0.getD v2.toNat ([],[],Bool.false)).snd.fst) ((v0.getD v2.toNat ([],[],Bool.false)).snd.snd) (v1)).bind fun (r0:Int) =>
 bif decide (r0<(0:Int)) then
 ret ((-1:Int))
 else
 lp5 (v0) (r0) (IntKind.i64.wrap (v2+(1:Int)))
 else
 none
 else
 none
 else
 ret (v1)
theorem xl14.u:∀ b,xl14.un (xl14.mk b)=b:=fun _ => by kernel_rfl
theorem xl14.eq (v0 v1) {b} (h:xl14.t some xl14.l5 v0 v1=some b):xl14 v0 v1=some b:=eqF xl14.u Try.f42 (callT_le E tab) rfl rfl rfl (xl14.t (rR xl14.mk) xl14.q5 v0 v1) (by kernel_rfl) (by unfold xl14.t; repeat' first | exact sR | exact sN | exact sL | apply sC | (apply sB; intro _)) h
theorem xl14.eq5 (v0 v1 v2) {b} (h:xl14.t5 some xl14.l5 v0 v1 v2=some b):xl14.l5 v0 v1 v2=some b:=eqL xl14.u (xl14.t5 (rR xl14.mk) xl14.q5 v0 v1 v2) (by kernel_rfl) (by unfold xl14.t5; repeat' first | exact sR | exact sN | exact sL | apply sC | (apply sB; intro _)) h
def xl1e.t {γ:Type} (ret:(Int)→Option γ) (v0:List Int) (v1:List Int) (v2:Bool) (v3:Int):Option γ :=
 (xl1c (v0) (v3)).bind fun (r0:Int) =>
 bif decide (r0<(0:Int)) then
 ret ((-1:Int))
 else
 (xl1c (v1) (r0)).bind fun (r1:Int) =>
 bif decide (r1<(0:Int)) then
 ret ((-1:Int))
 else
 ret (r1)
theorem xl1e.u:∀ b,xl1e.un (xl1e.mk b)=b:=fun _ => by kernel_rfl
theorem xl1e.eq (v0 v1 v2 v3) {b} (h:xl1e.t some v0 v1 v2 v3=some b):xl1e v0 v1 v2 v3=some b:=eqF xl1e.u Try.f75 (callT_le E tab) rfl rfl rfl (xl1e.t (rR xl1e.mk) v0 v1 v2 v3) (by kernel_rfl) (by unfold xl1e.t; repeat' first | exact sR | exact sN | exact sL | apply sC | (apply sB; intro _)) h
def xl1c.t {γ:Type} (ret:(Int)→Option γ) (v0:List Int) (v1:Int):Option γ :=
 bif decide (IntKind.i64.wrap (v1 - (↑v0.length:Int))<(0:Int)) then
 ret ((-1:Int))
 else
 ret (IntKind.i64.wrap (v1 - (↑v0.length:Int)))
theorem xl1c.u:∀ b,xl1c.un (xl1c.mk b)=b:=fun _ => by kernel_rfl
theorem xl1c.eq (v0 v1) {b} (h:xl1c.t some v0 v1=some b):xl1c v0 v1=some b:=eqF xl1c.u Try.f94 (callT_le E tab) rfl rfl rfl (xl1c.t (rR xl1c.mk) v0 v1) (by kernel_rfl) (by unfold xl1c.t; repeat' first | exact sR | exact sN | exact sL | apply sC | (apply sB; intro _)) h
def xl1h.t {γ:Type} (ret:((List (Int × Int × Bool)) × (List (List Int × List Int × Bool)))→Option γ) (v0:List (Int × Int × Bool)) (v1:List (List Int × List Int × Bool)):Option γ :=
 (xl15 (v0)).bind fun (r0:(List (Int × Int × Bool))) =>
 (xl16 (v1)).bind fun (r1:(List (List Int × List Int × Bool))) =>
 ret (r0,r1)
theorem xl1h.u:∀ b,xl1h.un (xl1h.mk b)=b:=fun _ => by kernel_rfl
theorem xl1h.eq (v0 v1) {b} (h:xl1h.t some v0 v1=some b):xl1h v0 v1=some b:=eqF xl1h.u Try.f10 (callT_le E tab) rfl rfl rfl (xl1h.t (rR xl1h.mk) v0 v1) (by kernel_rfl) (by unfold xl1h.t; repeat' first | exact sR | exact sN | exact sL | apply sC | (apply sB; intro _)) h
def xl15.s3 (v0:List (Int × Int × Bool)) (v1:List (Int × Int × Bool)) (v2:Int):List Cell:=vc (.d .fro Yb v0)::nn 2 (vc (.d .deep Yb v1)::vc (iL v2)::nn 18 ([]))
def xl15.q3:=fun v0 v1 v2 => loopAtL E (callT E tab) 46 Try.f46 1 [.r,.r,.l,.r,.b] (xl15.s3 v0 v1 v2)
def xl15.l3:=fun v0 v1 v2 => tOf xl15.mk (xl15.q3 v0 v1 v2)
def xl15.t {γ:Type} (ret:((List (Int × Int × Bool)))→Option γ) (lp3:(List (Int × Int × Bool))→(List (Int × Int × Bool))→Int→Option γ) (v0:List (Int × Int × Bool)):Option γ :=
 bif decide ((↑v0.length:Int)=(↑v0.length:Int)) then
 bif decide ((↑v0.length:Int) * (↑((1:Nat)+((1:Nat)+(1:Nat))):Int)≤(4398046511104:Int)) then
 lp3 (v0) (List.replicate (↑v0.length:Int).toNat ((0:Int),(0:Int),Bool.false)) ((0:Int))
 else
 none
 else
 none
def xl15.t3 {γ:Type} (ret:((List (Int × Int × Bool)))→Option γ) (lp3:(List (Int × Int × Bool))→(List (Int × Int × Bool))→Int→Option γ) (v0:List (Int × Int × Bool)) (v1:List (Int × Int × Bool)) (v2:Int):Option γ :=
 bif decide (v2<(↑v0.length:Int)) then
 bif decide ((0:Int)≤v2) then
 bif decide (v2.toNat<v0.length) then
 (xl1g ((v0.getD v2.toNat ((0:Int),(0:Int),Bool.false)).fst) ((v0.getD v2.toNat ((0:Int),(0:Int),Bool.false)).snd.fst) ((v0.getD v2.toNat ((0:Int),(0:Int),Bool.false)).snd.snd)).bind fun (r0:Int × Int × Bool) =>
 bif decide ((0:Int)≤v2) then
 bif decide (v2.toNat<v1.length) then
 bif decide (v2.toNat<v1.length) then
 lp3 (v0) (v1.set v2.toNat (r0.fst,r0.snd.fst,r0.snd.snd)) (IntKind.i64.wrap (v2+(1:Int)))
 else
 none
 else
 none
 else
 none
 else
 none
 else
 none
 else
 ret (v1)
theorem xl15.u:∀ b,xl15.un (xl15.mk b)=b:=fun _ => by kernel_rfl
theorem xl15.eq (v0) {b} (h:xl15.t some xl15.l3 v0=some b):xl15 v0=some b:=eqF xl15.u Try.f46 (callT_le E tab) rfl rfl rfl (xl15.t (rR xl15.mk) xl15.q3 v0) (by kernel_rfl) (by unfold xl15.t; repeat' first | exact sR | exact sN | exact sL | apply sC | (apply sB; intro _)) h
theorem xl15.eq3 (v0 v1 v2) {b} (h:xl15.t3 some xl15.l3 v0 v1 v2=some b):xl15.l3 v0 v1 v2=some b:=eqL xl15.u (xl15.t3 (rR xl15.mk) xl15.q3 v0 v1 v2) (by kernel_rfl) (by unfold xl15.t3; repeat' first | exact sR | exact sN | exact sL | apply sC | (apply sB; intro _)) h
def xl1g.t {γ:Type} (ret:(Int × Int × Bool)→Option γ) (v0:Int) (v1:Int) (v2:Bool):Option γ :=
 ret (v0,v1,v2)
theorem xl1g.u:∀ b,xl1g.un (xl1g.mk b)=b:=fun _ => by kernel_rfl
theorem xl1g.eq (v0 v1 v2) {b} (h:xl1g.t some v0 v1 v2=some b):xl1g v0 v1 v2=some b:=eqF xl1g.u Try.f79 (callT_le E tab) rfl rfl rfl (xl1g.t (rR xl1g.mk) v0 v1 v2) (by kernel_rfl) (by unfold xl1g.t; repeat' first | exact sR | exact sN | exact sL | apply sC | (apply sB; intro _)) h
def xl16.s3 (v0:List (List Int × List Int × Bool)) (v1:List (List Int × List Int × Bool)) (v2:Int):List Cell:=vc (.d .fro Ya v0)::nn 2 (vc (.d .deep Ya v1)::vc (iL v2)::nn 18 ([]))
def xl16.q3:=fun v0 v1 v2 => loopAtL E (callT E tab) 47 Try.f47 1 [.r,.r,.l,.r,.b] (xl16.s3 v0 v1 v2)
def xl16.l3:=fun v0 v1 v2 => tOf xl16.mk (xl16.q3 v0 v1 v2)
def xl16.t {γ:Type} (ret:((List (List Int × List Int × Bool)))→Option γ) (lp3:(List (List Int × List Int × Bool))→(List (List Int × List Int × Bool))→Int→Option γ) (v0:List (List Int × List Int × Bool)):Option γ :=
 bif decide ((↑v0.length:Int)=(↑v0.length:Int)) then
 bif decide ((↑v0.length:Int) * (↑((1:Nat)+((1:Nat)+(1:Nat))):Int)≤(4398046511104:Int)) then
 lp3 (v0) (List.replicate (↑v0.length:Int).toNat ([],[],Bool.false)) ((0:Int))
 else
 none
 else
 none
def xl16.t3 {γ:Type} (ret:((List (List Int × List Int × Bool)))→Option γ) (lp3:(List (List Int × List Int × Bool))→(List (List Int × List Int × Bool))→Int→Option γ) (v0:List (List Int × List Int × Bool)) (v1:List (List Int × List Int × Bool)) (v2:Int):Option γ :=
 bif decide (v2<(↑v0.length:Int)) then
 bif decide ((0:Int)≤v2) then
 bif decide (v2.toNat<v0.length) then
 (xl1i ((v0.getD v2.toNat ([],[],Bool.false)).fst) ((v0.getD v2.toNat ([],[],Bool.false)).snd.fst) ((v0.getD v2.toNat ([],[],Bool.false)).snd.snd)).bind fun (r0:(List Int) × (List Int) × Bool) =>
 bif decide ((0:Int)≤v2) then
 bif decide (v2.toNat<v1.length) then
 bif decide (v2.toNat<v1.length) then
 lp3 (v0) (v1.set v2.toNat (r0.fst,r0.snd.fst,r0.snd.snd)) (IntKind.i64.wrap (v2+(1:Int)))
 else
 none
 else
 none
 else
 none
 else
 none
 else
 none
 else
 ret (v1)
theorem xl16.u:∀ b,xl16.un (xl16.mk b)=b:=fun _ => by kernel_rfl
theorem xl16.eq (v0) {b} (h:xl16.t some xl16.l3 v0=some b):xl16 v0=some b:=eqF xl16.u Try.f47 (callT_le E tab) rfl rfl rfl (xl16.t (rR xl16.mk) xl16.q3 v0) (by kernel_rfl) (by unfold xl16.t; repeat' first | exact sR | exact sN | exact sL | apply sC | (apply sB; intro _)) h
theorem xl16.eq3 (v0 v1 v2) {b} (h:xl16.t3 some xl16.l3 v0 v1 v2=some b):xl16.l3 v0 v1 v2=some b:=eqL xl16.u (xl16.t3 (rR xl16.mk) xl16.q3 v0 v1 v2) (by kernel_rfl) (by unfold xl16.t3; repeat' first | exact sR | exact sN | exact sL | apply sC | (apply sB; intro _)) h
def xl1i.t {γ:Type} (ret:((List Int) × (List Int) × Bool)→Option γ) (v0:List Int) (v1:List Int) (v2:Bool):Option γ :=
 (xl1f (v0)).bind fun (r0:(List Int)) =>
 (xl1f (v1)).bind fun (r1:(List Int)) =>
 ret (r0,r1,v2)
theorem xl1i.u:∀ b,xl1i.un (xl1i.mk b)=b:=fun _ => by kernel_rfl
theorem xl1i.eq (v0 v1 v2) {b} (h:xl1i.t some v0 v1 v2=some b):xl1i v0 v1 v2=some b:=eqF xl1i.u Try.f80 (callT_le E tab) rfl rfl rfl (xl1i.t (rR xl1i.mk) v0 v1 v2) (by kernel_rfl) (by unfold xl1i.t; repeat' first | exact sR | exact sN | exact sL | apply sC | (apply sB; intro _)) h
def xl1f.s3 (v0:List Int) (v1:List Int) (v2:Int):List Cell:=vc (.d .fro (.sl (.int .i64)) v0)::nn 2 (vc (.d .deep (.sl (.int .i64)) v1)::vc (iL v2)::nn 17 ([]))
def xl1f.q3:=fun v0 v1 v2 => loopAtL E (callT E tab) 20 Try.f20 1 [.r,.r,.l,.r,.b] (xl1f.s3 v0 v1 v2)
def xl1f.l3:=fun v0 v1 v2 => tOf xl1f.mk (xl1f.q3 v0 v1 v2)
def xl1f.t {γ:Type} (ret:((List Int))→Option γ) (lp3:(List Int)→(List Int)→Int→Option γ) (v0:List Int):Option γ :=
 bif decide ((↑v0.length:Int)=(↑v0.length:Int)) then
 bif decide ((↑v0.length:Int) * (↑(1:Nat):Int)≤(4398046511104:Int)) then
 lp3 (v0) (List.replicate (↑v0.length:Int).toNat (0:Int)) ((0:Int))
 else
 none
 else
 none
def xl1f.t3 {γ:Type} (ret:((List Int))→Option γ) (lp3:(List Int)→(List Int)→Int→Option γ) (v0:List Int) (v1:List Int) (v2:Int):Option γ :=
 bif decide (v2<(↑v0.length:Int)) then
 bif decide ((0:Int)≤v2) then
 bif decide (v2.toNat<v0.length) then
 bif decide ((0:Int)≤v2) then
 bif decide (v2.toNat<v1.length) then
 bif decide (v2.toNat<v1.length) then
 lp3 (v0) (v1.set v2.toNat (v0.getD v2.toNat (0:Int))) (IntKind.i64.wrap (v2+(1:Int)))
 else
 none
 else
 none
 else
 none
 else
 none
 else
 none
 else
 ret (v1)
theorem xl1f.u:∀ b,xl1f.un (xl1f.mk b)=b:=fun _ => by kernel_rfl
theorem xl1f.eq (v0) {b} (h:xl1f.t some xl1f.l3 v0=some b):xl1f v0=some b:=eqF xl1f.u Try.f20 (callT_le E tab) rfl rfl rfl (xl1f.t (rR xl1f.mk) xl1f.q3 v0) (by kernel_rfl) (by unfold xl1f.t; repeat' first | exact sR | exact sN | exact sL | apply sC | (apply sB; intro _)) h
theorem xl1f.eq3 (v0 v1 v2) {b} (h:xl1f.t3 some xl1f.l3 v0 v1 v2=some b):xl1f.l3 v0 v1 v2=some b:=eqL xl1f.u (xl1f.t3 (rR xl1f.mk) xl1f.q3 v0 v1 v2) (by kernel_rfl) (by unfold xl1f.t3; repeat' first | exact sR | exact sN | exact sL | apply sC | (apply sB; intro _)) h
def xl0q.t {γ:Type} (ret:(Int × Int × Int × Int)→Option γ) (v0:Int) (v1:Int) (v2:Int) (v3:Int):Option γ :=
 ret (v0,v1,v2,v3)
theorem xl0q.u:∀ b,xl0q.un (xl0q.mk b)=b:=fun _ => by kernel_rfl
theorem xl0q.eq (v0 v1 v2 v3) {b} (h:xl0q.t some v0 v1 v2 v3=some b):xl0q v0 v1 v2 v3=some b:=eqF xl0q.u Try.f11 (callT_le E tab) rfl rfl rfl (xl0q.t (rR xl0q.mk) v0 v1 v2 v3) (by kernel_rfl) (by unfold xl0q.t; repeat' first | exact sR | exact sN | exact sL | apply sC | (apply sB; intro _)) h
def xs10.t {γ:Type} (ret:((List (Int × Int × Bool)) × (List (List Int × List Int × Bool)) × Bool)→Option γ) (v0:List (Int × Int × Bool)) (v1:List (List Int × List Int × Bool)) (v2:Int) (v3:Int) (v4:Int) (v5:Int):Option γ :=
 (xs0z (v0) (v1)).bind fun (r0:Bool) =>
 bif !r0 then
 ret ([],[],Bool.false)
 else
 (xs1j (v0) (v1)).bind fun (r1:(List (Int × Int × Bool)) × (List (List Int × List Int × Bool))) =>
 (xs0p (r1.fst) (r1.snd) (v2) (v3) (v4) (v5)).bind fun (r2:(List (Int × Int × Bool)) × (List (List Int × List Int × Bool)) × Bool) =>
 bif !r2.snd.snd then
 ret ([],[],Bool.false)
 else
 (xs0z (r2.fst) (r2.snd.fst)).bind fun (r3:Bool) =>
 bif !r3 then
 ret ([],[],Bool.false)
 else
 ret (r2.fst,r2.snd.fst,Bool.true)
theorem xs10.u:∀ b,xs10.un (xs10.mk b)=b:=fun _ => by kernel_rfl
theorem xs10.eq (v0 v1 v2 v3 v4 v5) {b} (h:xs10.t some v0 v1 v2 v3 v4 v5=some b):xs10 v0 v1 v2 v3 v4 v5=some b:=eqF xs10.u Try.f9 (callT_le E tab) rfl rfl rfl (xs10.t (rR xs10.mk) v0 v1 v2 v3 v4 v5) (by kernel_rfl) (by unfold xs10.t; repeat' first | exact sR | exact sN | exact sL | apply sC | (apply sB; intro _)) h
def xs0z.s23 (v0:List (Int × Int × Bool)) (v1:List (List Int × List Int × Bool)) (v2:Int) (v3:Int) (v4:Int) (v5:List Int) (v6:List Int) (v7:Bool) (v8:List (List Int × List Int × Bool)) (v9:Int) (v10:Int) (v11:List Int) (v12:Int) (v13:Int):List Cell:=nn 1 (⟨(.box false),[.d .fro Yb v0,.d .fro Ya v1],false,false,false,0,0⟩::nn 1 (vc (iL v2)::vc (iL v3)::nn 2 (vc (iL v4)::⟨(.box false),[.d .fro (.sl (.int .i64)) v5,.d .fro (.sl (.int .i64)) v6,bL v7],false,false,false,0,0⟩::nn 55 (vc (.d .fro Ya v8)::vc (iL v9)::vc (iL v10)::nn 19 (vc (.d .fro (.sl (.int .i64)) v11)::vc (iL v12)::vc (iL v13)::nn 73 ([]))))))
def xs0z.q23:=fun v0 v1 v2 v3 v4 v5 v6 v7 v8 v9 v10 v11 v12 v13 => loopAtL E (callT E tab) 43 Try.f43 1 [.r,.r,.r,.r,.r,.l,.r,.b,.o,.r,.r,.l,.b,.r,.r,.l,.r,.b] (xs0z.s23 v0 v1 v2 v3 v4 v5 v6 v7 v8 v9 v10 v11 v12 v13)
def xs0z.l23:=fun v0 v1 v2 v3 v4 v5 v6 v7 v8 v9 v10 v11 v12 v13 => tOf xs0z.mk (xs0z.q23 v0 v1 v2 v3 v4 v5 v6 v7 v8 v9 v10 v11 v12 v13)
def xs0z.s16 (v0:List (Int × Int × Bool)) (v1:List (List Int × List Int × Bool)) (v2:Int) (v3:Int) (v4:Int) (v5:List Int) (v6:List Int) (v7:Bool) (v8:List (List Int × List Int × Bool)) (v9:Int) (v10:Int) (v11:List Int) (v12:Int) (v13:Int):List Cell:=nn 1 (⟨(.box false),[.d .fro Yb v0,.d .fro Ya v1],false,false,false,0,0⟩::nn 1 (vc (iL v2)::vc (iL v3)::nn 2 (vc (iL v4)::⟨(.box false),[.d .fro (.sl (.int .i64)) v5,.d .fro (.sl (.int .i64)) v6,bL v7],false,false,false,0,0⟩::nn 55 (vc (.d .fro Ya v8)::vc (iL v9)::vc (iL v10)::nn 5 (vc (.d .fro (.sl (.int .i64)) v11)::vc (iL v12)::vc (iL v13)::nn 87 ([]))))))
def xs0z.q16:=fun v0 v1 v2 v3 v4 v5 v6 v7 v8 v9 v10 v11 v12 v13 => loopAtL E (callT E tab) 43 Try.f43 1 [.r,.r,.r,.r,.r,.l,.r,.b,.o,.r,.r,.l,.b,.r,.l,.r,.b] (xs0z.s16 v0 v1 v2 v3 v4 v5 v6 v7 v8 v9 v10 v11 v12 v13)
def xs0z.l16:=fun v0 v1 v2 v3 v4 v5 v6 v7 v8 v9 v10 v11 v12 v13 => tOf xs0z.mk (xs0z.q16 v0 v1 v2 v3 v4 v5 v6 v7 v8 v9 v10 v11 v12 v13)
def xs0z.s13 (v0:List (Int × Int × Bool)) (v1:List (List Int × List Int × Bool)) (v2:Int) (v3:Int) (v4:List (List Int × List Int × Bool)) (v5:Int) (v6:Int):List Cell:=nn 1 (⟨(.box false),[.d .fro Yb v0,.d .fro Ya v1],false,false,false,0,0⟩::nn 1 (vc (iL v2)::vc (iL v3)::nn 59 (vc (.d .fro Ya v4)::vc (iL v5)::vc (iL v6)::nn 95 ([]))))
def xs0z.q13:=fun v0 v1 v2 v3 v4 v5 v6 => loopAtL E (callT E tab) 43 Try.f43 1 [.r,.r,.r,.r,.r,.l,.r,.b] (xs0z.s13 v0 v1 v2 v3 v4 v5 v6)
def xs0z.l13:=fun v0 v1 v2 v3 v4 v5 v6 => tOf xs0z.mk (xs0z.q13 v0 v1 v2 v3 v4 v5 v6)
def xs0z.s6 (v0:List (Int × Int × Bool)) (v1:List (List Int × List Int × Bool)) (v2:Int) (v3:Int) (v4:List (Int × Int × Bool)) (v5:Int) (v6:Int):List Cell:=nn 1 (⟨(.box false),[.d .fro Yb v0,.d .fro Ya v1],false,false,false,0,0⟩::nn 1 (vc (iL v2)::vc (iL v3)::nn 24 (vc (.d .fro Yb v4)::vc (iL v5)::vc (iL v6)::nn 130 ([]))))
def xs0z.q6:=fun v0 v1 v2 v3 v4 v5 v6 => loopAtL E (callT E tab) 43 Try.f43 1 [.r,.r,.r,.r,.l,.r,.b] (xs0z.s6 v0 v1 v2 v3 v4 v5 v6)
def xs0z.l6:=fun v0 v1 v2 v3 v4 v5 v6 => tOf xs0z.mk (xs0z.q6 v0 v1 v2 v3 v4 v5 v6)
def xs0z.t {γ:Type} (ret:(Bool)→Option γ) (lp6:(List (Int × Int × Bool))→(List (List Int × List Int × Bool))→Int→Int→(List (Int × Int × Bool))→Int→Int→Option γ) (v0:List (Int × Int × Bool)) (v1:List (List Int × List Int × Bool)):Option γ :=
 (xs1l ((↑v0.length:Int)) ((2:Int)) ((4:Int))).bind fun (r0:Bool) =>
 bif !r0 then
 ret (Bool.false)
 else
 bif (↑v1.length:Int) != IntKind.i64.wrap ((↑v0.length:Int) * (↑v0.length:Int)) then
 ret (Bool.false)
 else
 lp6 (v0) (v1) ((↑v0.length:Int)) ((0:Int)) (v0) ((↑v0.length:Int)) ((0:Int))
def xs0z.t23 {γ:Type} (ret:(Bool)→Option γ) (lp23:(List (Int × Int × Bool))→(List (List Int × List Int × Bool))→Int→Int→Int→(List Int)→(List Int)→Bool→(List (List Int × List Int × Bool))→Int→Int→(List Int)→Int→Int→Option γ) (lp13:(List (Int × Int × Bool))→(List (List Int × List Int × Bool))→Int→Int→(List (List Int × List Int × Bool))→Int→Int→Option γ) (v0:List (Int × Int × Bool)) (v1:List (List Int × List Int × Bool)) (v2:Int) (v3:Int) (v4:Int) (v5:List Int) (v6:List Int) (v7:Bool) (v8:List (List Int × List Int × Bool)) (v9:Int) (v10:Int) (v11:List Int) (v12:Int) (v13:Int):Option γ :=
 bif decide (v13<v12) then
 bif decide ((0:Int)≤v13) then
 bif decide (v13.toNat<v11.length) then
 bif v11.getD v13.toNat (0:Int) == (0:Int) then
 ret (Bool.false)
 else
 (xs0t (v11.getD v13.toNat (0:Int))).bind fun (r4:Bool) =>
 bif !r4 then
 ret (Bool.false)
 else
 lp23 (v0) (v1) (v2) (IntKind.i64.wrap (v3+v11.getD v13.toNat (0:Int))) (v4) (v5) (v6) (v7) (v8) (v9) (v10) (v11) (v12) (IntKind.i64.wrap (v13+(1:Int)))
 else
 none
 else
 none
 else
 bif decide ((↑v5.length:Int) > (12:Int)) then
 ret (Bool.false)
 else
 bif decide ((↑v6.length:Int) > (200:Int)) then
 ret (Bool.false)
 else
 bif decide (v2≠(0:Int)) then
 bif decide (v2≠(0:Int)) then
 bif IntKind.i64.wrap (v4.tdiv v2) == v4.tmod v2 then
 bif decide ((↑v5.length:Int) > (0:Int)) then
 ret (Bool.false)
 else
 bif decide ((↑v6.length:Int) > (0:Int)) then
 ret (Bool.false)
 else
 bif v7 then
 ret (Bool.false)
 else
 bif decide (v2≠(0:Int)) then
 bif decide ((0:Int)≤v4.tmod v2) then
 bif decide ((v4.tmod v2).toNat<v0.length) then
 bif !(v0.getD (v4.tmod v2).toNat ((0:Int),(0:Int),Bool.false)).snd.snd then
 bif v7 then
 ret (Bool.false)
 else
 bif decide ((↑v6.length:Int) > (0:Int)) then
 ret (Bool.false)
 else
 lp13 (v0) (v1) (v2) (v3) (v8) (v9) (IntKind.i64.wrap (v10+(1:Int)))
 else
 lp13 (v0) (v1) (v2) (v3) (v8) (v9) (IntKind.i64.wrap (v10+(1:Int)))
 else
 none
 else
 none
 else
 none
 else
 bif decide (v2≠(0:Int)) then
 bif decide ((0:Int)≤v4.tmod v2) then
 bif decide ((v4.tmod v2).toNat<v0.length) then
 bif !(v0.getD (v4.tmod v2).toNat ((0:Int),(0:Int),Bool.false)).snd.snd then
 bif v7 then
 ret (Bool.false)
 else
 bif decide ((↑v6.length:Int) > (0:Int)) then
 ret (Bool.false)
 else
 lp13 (v0) (v1) (v2) (v3) (v8) (v9) (IntKind.i64.wrap (v10+(1:Int)))
 else
 lp13 (v0) (v1) (v2) (v3) (v8) (v9) (IntKind.i64.wrap (v10+(1:Int)))
 else
 none
 else
 none
 else
 none
 else
 none
 else
 none
def xs0z.t16 {γ:Type} (ret:(Bool)→Option γ) (lp23:(List (Int × Int × Bool))→(List (List Int × List Int × Bool))→Int→Int→Int→(List Int)→(List Int)→Bool→(List (List Int × List Int × Bool))→Int→Int→(List Int)→Int→Int→Option γ) (lp16:(List (Int × Int × Bool))→(List (List Int × List Int × Bool))→Int→Int→Int→(List Int)→(List Int)→Bool→(List (List Int × List Int × Bool))→Int→Int→(List Int)→Int→Int→Option γ) (v0:List (Int × Int × Bool)) (v1:List (List Int × List Int × Bool)) (v2:Int) (v3:Int) (v4:Int) (v5:List Int) (v6:List Int) (v7:Bool) (v8:List (List Int × List Int × Bool)) (v9:Int) (v10:Int) (v11:List Int) (v12:Int) (v13:Int):Option γ :=
 bif decide (v13<v12) then
 bif decide ((0:Int)≤v13) then
 bif decide (v13.toNat<v11.length) then
 (xs0t (v11.getD v13.toNat (0:Int))).bind fun (r3:Bool) =>
 bif !r3 then
 ret (Bool.false)
 else
 lp16 (v0) (v1) (v2) (IntKind.i64.wrap (v3+v11.getD v13.toNat (0:Int))) (v4) (v5) (v6) (v7) (v8) (v9) (v10) (v11) (v12) (IntKind.i64.wrap (v13+(1:Int)))
 else
 none
 else
 none
 else
 lp23 (v0) (v1) (v2) (v3) (v4) (v5) (v6) (v7) (v8) (v9) (v10) (v6) ((↑v6.length:Int)) ((0:Int))
def xs0z.t13 {γ:Type} (ret:(Bool)→Option γ) (lp16:(List (Int × Int × Bool))→(List (List Int × List Int × Bool))→Int→Int→Int→(List Int)→(List Int)→Bool→(List (List Int × List Int × Bool))→Int→Int→(List Int)→Int→Int→Option γ) (v0:List (Int × Int × Bool)) (v1:List (List Int × List Int × Bool)) (v2:Int) (v3:Int) (v4:List (List Int × List Int × Bool)) (v5:Int) (v6:Int):Option γ :=
 bif decide (v6<v5) then
 bif decide ((0:Int)≤v6) then
 bif decide (v6.toNat<v4.length) then
 lp16 (v0) (v1) (v2) (v3) (v6) ((v4.getD v6.toNat ([],[],Bool.false)).fst) ((v4.getD v6.toNat ([],[],Bool.false)).snd.fst) ((v4.getD v6.toNat ([],[],Bool.false)).snd.snd) (v4) (v5) (v6) ((v4.getD v6.toNat ([],[],Bool.false)).fst) ((↑(v4.getD v6.toNat ([],[],Bool.false)).fst.length:Int)) ((0:Int))
 else
 none
 else
 none
 else
 ret (decide (v3≤(2000000000:Int)))
def xs0z.t6 {γ:Type} (ret:(Bool)→Option γ) (lp13:(List (Int × Int × Bool))→(List (List Int × List Int × Bool))→Int→Int→(List (List Int × List Int × Bool))→Int→Int→Option γ) (lp6:(List (Int × Int × Bool))→(List (List Int × List Int × Bool))→Int→Int→(List (Int × Int × Bool))→Int→Int→Option γ) (v0:List (Int × Int × Bool)) (v1:List (List Int × List Int × Bool)) (v2:Int) (v3:Int) (v4:List (Int × Int × Bool)) (v5:Int) (v6:Int):Option γ :=
 bif decide (v6<v5) then
 bif decide ((0:Int)≤v6) then
 bif decide (v6.toNat<v4.length) then
 (xs1l ((v4.getD v6.toNat ((0:Int),(0:Int),Bool.false)).fst) ((0:Int)) ((2000000000:Int))).bind fun (r1:Bool) =>
 bif !r1 then
 ret (Bool.false)
 else
 (xs1l ((v4.getD v6.toNat ((0:Int),(0:Int),Bool.false)).snd.fst) ((0:Int)) ((2000000000:Int))).bind fun (r2:Bool) =>
 bif !r2 then
 ret (Bool.false)
 else
 bif !(v4.getD v6.toNat ((0:Int),(0:Int),Bool.false)).snd.snd then
 bif (v4.getD v6.toNat ((0:Int),(0:Int),Bool.false)).snd.fst != (0:Int) then
 ret (Bool.false)
 else
 lp6 (v0) (v1) (v2) (IntKind.i64.wrap   (v3+    IntKind.i64.wrap       ((v4.getD v6.toNat ((0:Int),(0:Int),Bool.false)).fst+        (v4.getD v6.toNat ((0:Int),(0:Int),Bool.false)).snd.fst))) (v4) (v5) (IntKind.i64.wrap (v6+(1:Int)))
 else
 lp6 (v0) (v1) (v2) (IntKind.i64.wrap   (v3+    IntKind.i64.wrap       ((v4.getD v6.toNat ((0:Int),(0:Int),Bool.false)).fst+        (v4.getD v6.toNat ((0:Int),(0:Int),Bool.false)).snd.fst))) (v4) (v5) (IntKind.i64.wrap (v6+(1:Int)))
 else
 none
 else
 none
 else
 lp13 (v0) (v1) (v2) (v3) (v1) ((↑v1.length:Int)) ((0:Int))
theorem xs0z.u:∀ b,xs0z.un (xs0z.mk b)=b:=fun _ => by kernel_rfl
theorem xs0z.eq (v0 v1) {b} (h:xs0z.t some xs0z.l6 v0 v1=some b):xs0z v0 v1=some b:=eqF xs0z.u Try.f43 (callT_le E tab) rfl rfl rfl (xs0z.t (rR xs0z.mk) xs0z.q6 v0 v1) (by kernel_rfl) (by unfold xs0z.t; repeat' first | exact sR | exact sN | exact sL | apply sC | (apply sB; intro _)) h
theorem xs0z.eq23 (v0 v1 v2 v3 v4 v5 v6 v7 v8 v9 v10 v11 v12 v13) {b} (h:xs0z.t23 some xs0z.l23 xs0z.l13 v0 v1 v2 v3 v4 v5 v6 v7 v8 v9 v10 v11 v12 v13=some b):xs0z.l23 v0 v1 v2 v3 v4 v5 v6 v7 v8 v9 v10 v11 v12 v13=some b:=eqL xs0z.u (xs0z.t23 (rR xs0z.mk) xs0z.q23 xs0z.q13 v0 v1 v2 v3 v4 v5 v6 v7 v8 v9 v10 v11 v12 v13) (by kernel_rfl) (by unfold xs0z.t23; repeat' first | exact sR | exact sN | exact sL | apply sC | (apply sB; intro _)) h
theorem xs0z.eq16 (v0 v1 v2 v3 v4 v5 v6 v7 v8 v9 v10 v11 v12 v13) {b} (h:xs0z.t16 some xs0z.l23 xs0z.l16 v0 v1 v2 v3 v4 v5 v6 v7 v8 v9 v10 v11 v12 v13=some b):xs0z.l16 v0 v1 v2 v3 v4 v5 v6 v7 v8 v9 v10 v11 v12 v13=some b:=eqL xs0z.u (xs0z.t16 (rR xs0z.mk) xs0z.q23 xs0z.q16 v0 v1 v2 v3 v4 v5 v6 v7 v8 v9 v10 v11 v12 v13) (by kernel_rfl) (by unfold xs0z.t16; repeat' first | exact sR | exact sN | exact sL | apply sC | (apply sB; intro _)) h
theorem xs0z.eq13 (v0 v1 v2 v3 v4 v5 v6) {b} (h:xs0z.t13 some xs0z.l16 v0 v1 v2 v3 v4 v5 v6=some b):xs0z.l13 v0 v1 v2 v3 v4 v5 v6=some b:=eqL xs0z.u (xs0z.t13 (rR xs0z.mk) xs0z.q16 v0 v1 v2 v3 v4 v5 v6) (by kernel_rfl) (by unfold xs0z.t13; repeat' first | exact sR | exact sN | exact sL | apply sC | (apply sB; intro _)) h
theorem xs0z.eq6 (v0 v1 v2 v3 v4 v5 v6) {b} (h:xs0z.t6 some xs0z.l13 xs0z.l6 v0 v1 v2 v3 v4 v5 v6=some b):xs0z.l6 v0 v1 v2 v3 v4 v5 v6=some b:=eqL xs0z.u (xs0z.t6 (rR xs0z.mk) xs0z.q13 xs0z.q6 v0 v1 v2 v3 v4 v5 v6) (by kernel_rfl) (by unfold xs0z.t6; repeat' first | exact sR | exact sN | exact sL | apply sC | (apply sB; intro _)) h
def xs1l.t {γ:Type} (ret:(Bool)→Option γ) (v0:Int) (v1:Int) (v2:Int):Option γ :=
 bif decide (v0 ≥ v1) then
 ret (decide (v0≤v2))
 else
 ret (Bool.false)
theorem xs1l.u:∀ b,xs1l.un (xs1l.mk b)=b:=fun _ => by kernel_rfl
theorem xs1l.eq (v0 v1 v2) {b} (h:xs1l.t some v0 v1 v2=some b):xs1l v0 v1 v2=some b:=eqF xs1l.u Try.f76 (callT_le E tab) rfl rfl rfl (xs1l.t (rR xs1l.mk) v0 v1 v2) (by kernel_rfl) (by unfold xs1l.t; repeat' first | exact sR | exact sN | exact sL | apply sC | (apply sB; intro _)) h
def xs0t.t {γ:Type} (ret:(Bool)→Option γ) (v0:Int):Option γ :=
 (xs1l (v0) ((0:Int)) ((1000000:Int))).bind fun (r0:Bool) =>
 ret (r0)
theorem xs0t.u:∀ b,xs0t.un (xs0t.mk b)=b:=fun _ => by kernel_rfl
theorem xs0t.eq (v0) {b} (h:xs0t.t some v0=some b):xs0t v0=some b:=eqF xs0t.u Try.f77 (callT_le E tab) rfl rfl rfl (xs0t.t (rR xs0t.mk) v0) (by kernel_rfl) (by unfold xs0t.t; repeat' first | exact sR | exact sN | exact sL | apply sC | (apply sB; intro _)) h
def xs1j.s3 (v0:List (Int × Int × Bool)) (v1:List (List Int × List Int × Bool)) (v2:List (Int × Int × Bool)) (v3:List (List Int × List Int × Bool)) (v4:List (List Int × List Int × Bool)) (v5:Int) (v6:Int):List Cell:=nn 2 (⟨(.box false),[.d .deep Yb v0,.d .deep Ya v1],false,false,false,0,0⟩::⟨(.box false),[.d .deep Yb v2,.d .deep Ya v3],false,false,false,0,0⟩::nn 8 (vc (.d .fro Ya v4)::vc (iL v5)::vc (iL v6)::nn 21 ([])))
def xs1j.q3:=fun v0 v1 v2 v3 v4 v5 v6 => loopAtL E (callT E tab) 45 Try.f45 1 [.r,.r,.l,.r,.b] (xs1j.s3 v0 v1 v2 v3 v4 v5 v6)
def xs1j.l3:=fun v0 v1 v2 v3 v4 v5 v6 => tOf xs1j.mk (xs1j.q3 v0 v1 v2 v3 v4 v5 v6)
def xs1j.t {γ:Type} (ret:((List (Int × Int × Bool)) × (List (List Int × List Int × Bool)))→Option γ) (lp3:(List (Int × Int × Bool))→(List (List Int × List Int × Bool))→(List (Int × Int × Bool))→(List (List Int × List Int × Bool))→(List (List Int × List Int × Bool))→Int→Int→Option γ) (v0:List (Int × Int × Bool)) (v1:List (List Int × List Int × Bool)):Option γ :=
 bif decide (([]:List Int).length+v0.length≤(4294967296:Nat)) then
 lp3 ([]) ([]) ([] ++ v0) ([]) (v1) ((↑v1.length:Int)) ((0:Int))
 else
 none
def xs1j.t3 {γ:Type} (ret:((List (Int × Int × Bool)) × (List (List Int × List Int × Bool)))→Option γ) (lp3:(List (Int × Int × Bool))→(List (List Int × List Int × Bool))→(List (Int × Int × Bool))→(List (List Int × List Int × Bool))→(List (List Int × List Int × Bool))→Int→Int→Option γ) (v0:List (Int × Int × Bool)) (v1:List (List Int × List Int × Bool)) (v2:List (Int × Int × Bool)) (v3:List (List Int × List Int × Bool)) (v4:List (List Int × List Int × Bool)) (v5:Int) (v6:Int):Option γ :=
 bif decide (v6<v5) then
 bif decide ((0:Int)≤v6) then
 bif decide (v6.toNat<v4.length) then
 bif decide (([]:List Int).length+(v4.getD v6.toNat ([],[],Bool.false)).fst.length≤(4294967296:Nat)) then
 bif decide (([]:List Int).length+(v4.getD v6.toNat ([],[],Bool.false)).snd.fst.length≤(4294967296:Nat)) then
 bif decide   (v3.length+      [([] ++ (v4.getD v6.toNat ([],[],Bool.false)).fst,[] ++ (v4.getD v6.toNat ([],[],Bool.false)).snd.fst,            (v4.getD v6.toNat ([],[],Bool.false)).snd.snd)].length≤    (4294967296:Nat)) then
 lp3 (v0) (v1) (v2) (v3 ++   [([] ++ (v4.getD v6.toNat ([],[],Bool.false)).fst,[] ++ (v4.getD v6.toNat ([],[],Bool.false)).snd.fst,      (v4.getD v6.toNat ([],[],Bool.false)).snd.snd)]) (v4) (v5) (IntKind.i64.wrap (v6+(1:Int)))
 else
 none
 else
 none
 else
 none
 else
 none
 else
 none
 else
 ret (v2,v3)
theorem xs1j.u:∀ b,xs1j.un (xs1j.mk b)=b:=fun _ => by kernel_rfl
theorem xs1j.eq (v0 v1) {b} (h:xs1j.t some xs1j.l3 v0 v1=some b):xs1j v0 v1=some b:=eqF xs1j.u Try.f45 (callT_le E tab) rfl rfl rfl (xs1j.t (rR xs1j.mk) xs1j.q3 v0 v1) (by kernel_rfl) (by unfold xs1j.t; repeat' first | exact sR | exact sN | exact sL | apply sC | (apply sB; intro _)) h
theorem xs1j.eq3 (v0 v1 v2 v3 v4 v5 v6) {b} (h:xs1j.t3 some xs1j.l3 v0 v1 v2 v3 v4 v5 v6=some b):xs1j.l3 v0 v1 v2 v3 v4 v5 v6=some b:=eqL xs1j.u (xs1j.t3 (rR xs1j.mk) xs1j.q3 v0 v1 v2 v3 v4 v5 v6) (by kernel_rfl) (by unfold xs1j.t3; repeat' first | exact sR | exact sN | exact sL | apply sC | (apply sB; intro _)) h
def xs0p.t {γ:Type} (ret:((List (Int × Int × Bool)) × (List (List Int × List Int × Bool)) × Bool)→Option γ) (v0:List (Int × Int × Bool)) (v1:List (List Int × List Int × Bool)) (v2:Int) (v3:Int) (v4:Int) (v5:Int):Option γ :=
 bif decide (v3<(0:Int)) then
 ret (v0,v1,Bool.false)
 else
 bif decide (v3 ≥ (↑v0.length:Int)) then
 ret (v0,v1,Bool.false)
 else
 bif v2 == (3:Int) then
 bif decide ((0:Int)≤v3) then
 bif decide (v3.toNat<v0.length) then
 bif decide (v3.toNat<v0.length) then
 bif (v0.getD v3.toNat ((0:Int),(0:Int),Bool.false)).snd.snd then
 ret (v0,v1,Bool.false)
 else
 (xs0o (v0) (v1) (v3) ((-1:Int))).bind fun (r0:(List (Int × Int × Bool)) × (List (List Int × List Int × Bool)) × Bool) =>
 ret (r0.fst,r0.snd.fst,r0.snd.snd)
 else
 none
 else
 none
 else
 none
 else
 bif decide (v4<(0:Int)) then
 ret (v0,v1,Bool.false)
 else
 bif decide (v4 ≥ (↑v0.length:Int)) then
 ret (v0,v1,Bool.false)
 else
 bif v3 == v4 then
 ret (v0,v1,Bool.false)
 else
 bif decide ((0:Int)≤IntKind.i64.wrap (IntKind.i64.wrap (v3 * (↑v0.length:Int))+v4)) then
 bif decide ((IntKind.i64.wrap (IntKind.i64.wrap (v3 * (↑v0.length:Int))+v4)).toNat<v1.length) then
 bif decide ((IntKind.i64.wrap (IntKind.i64.wrap (v3 * (↑v0.length:Int))+v4)).toNat<v1.length) then
 bif decide ((IntKind.i64.wrap (IntKind.i64.wrap (v3 * (↑v0.length:Int))+v4)).toNat<v1.length) then
 bif decide ((IntKind.i64.wrap (IntKind.i64.wrap (v3 * (↑v0.length:Int))+v4)).toNat<v1.length) then
 bif v2 == (1:Int) then
 bif decide ((0:Int)≤v3) then
 bif decide (v3.toNat<v0.length) then
 bif decide (v3.toNat<v0.length) then
 (xs1l (v5) ((1:Int)) ((v0.getD v3.toNat ((0:Int),(0:Int),Bool.false)).fst)).bind fun (r1:Bool) =>
 bif !r1 then
 ret (v0,v1,Bool.false)
 else
 (xs0t (v5)).bind fun (r2:Bool) =>
 bif !r2 then
 ret (v0,v1,Bool.false)
 else
 bif decide ((IntKind.i64.wrap (IntKind.i64.wrap (v3 * (↑v0.length:Int))+v4)).toNat<v1.length) then
 bif (↑(v1.getD (IntKind.i64.wrap (IntKind.i64.wrap (v3 * (↑v0.length:Int))+v4)).toNat             ([],[],Bool.false)).fst.length:    Int) ==   (12:Int) then
 ret (v0,v1,Bool.false)
 else
 bif decide ((0:Int)≤v3) then
 bif decide (v3.toNat<v0.length) then
 bif decide (v3.toNat<v0.length) then
 bif decide ((0:Int)≤v3) then
 bif decide (v3.toNat<v0.length) then
 bif decide (v3.toNat<v0.length) then
 bif decide ((IntKind.i64.wrap (IntKind.i64.wrap (v3 * (↑v0.length:Int))+v4)).toNat<v1.length) then
 bif decide   ((v1.getD (IntKind.i64.wrap (IntKind.i64.wrap (v3 * (↑v0.length:Int))+v4)).toNat             ([],[],Bool.false)).fst.length+      [v5].length≤    (4294967296:Nat)) then
 bif decide ((0:Int)≤IntKind.i64.wrap (IntKind.i64.wrap (v3 * (↑v0.length:Int))+v4)) then
 bif decide ((IntKind.i64.wrap (IntKind.i64.wrap (v3 * (↑v0.length:Int))+v4)).toNat<v1.length) then
 bif decide   ((IntKind.i64.wrap (IntKind.i64.wrap (v3 * (↑v0.length:Int))+v4)).toNat=    (IntKind.i64.wrap (IntKind.i64.wrap (v3 * (↑v0.length:Int))+v4)).toNat) then
 bif decide ((IntKind.i64.wrap (IntKind.i64.wrap (v3 * (↑v0.length:Int))+v4)).toNat<v1.length) then
 ret (v0.set v3.toNat   (IntKind.i64.wrap ((v0.getD v3.toNat ((0:Int),(0:Int),Bool.false)).fst - v5),    (v0.getD v3.toNat ((0:Int),(0:Int),Bool.false)).snd),v1.set (IntKind.i64.wrap (IntKind.i64.wrap (v3 * (↑v0.length:Int))+v4)).toNat   ((v1.getD (IntKind.i64.wrap (IntKind.i64.wrap (v3 * (↑v0.length:Int))+v4)).toNat           ([],[],Bool.false)).fst ++       [v5],    (v1.getD (IntKind.i64.wrap (IntKind.i64.wrap (v3 * (↑v0.length:Int))+v4)).toNat ([],[],Bool.false)).snd),Bool.true)
 else
 none
 else
 none
 else
 none
 else
 none
 else
 none
 else
 none
 else
 none
 else
 none
 else
 none
 else
 none
 else
 none
 else
 none
 else
 none
 else
 none
 else
 none
 else
 none
 else
 bif v2 == (2:Int) then
 bif decide ((IntKind.i64.wrap (IntKind.i64.wrap (v3 * (↑v0.length:Int))+v4)).toNat<v1.length) then
 bif (↑(v1.getD (IntKind.i64.wrap (IntKind.i64.wrap (v3 * (↑v0.length:Int))+v4)).toNat             ([],[],Bool.false)).fst.length:    Int) ==   (0:Int) then
 ret (v0,v1,Bool.false)
 else
 bif decide ((IntKind.i64.wrap (IntKind.i64.wrap (v3 * (↑v0.length:Int))+v4)).toNat<v1.length) then
 bif (↑(v1.getD (IntKind.i64.wrap (IntKind.i64.wrap (v3 * (↑v0.length:Int))+v4)).toNat               ([],[],Bool.false)).snd.fst.length:    Int) ==   (200:Int) then
 ret (v0,v1,Bool.false)
 else
 bif decide ((IntKind.i64.wrap (IntKind.i64.wrap (v3 * (↑v0.length:Int))+v4)).toNat<v1.length) then
 bif decide   (Int.toNat (0:Int)<    (v1.getD (IntKind.i64.wrap (IntKind.i64.wrap (v3 * (↑v0.length:Int))+v4)).toNat           ([],[],Bool.false)).fst.length) then
 bif decide ((IntKind.i64.wrap (IntKind.i64.wrap (v3 * (↑v0.length:Int))+v4)).toNat<v1.length) then
 bif decide   (Int.toNat (0:Int)<    (v1.getD (IntKind.i64.wrap (IntKind.i64.wrap (v3 * (↑v0.length:Int))+v4)).toNat           ([],[],Bool.false)).fst.length) then
 bif decide ((IntKind.i64.wrap (IntKind.i64.wrap (v3 * (↑v0.length:Int))+v4)).toNat<v1.length) then
 bif decide ((IntKind.i64.wrap (IntKind.i64.wrap (v3 * (↑v0.length:Int))+v4)).toNat<v1.length) then
 bif decide   ((Option.some (1:Int)).getD (0:Int)≤    (↑(v1.getD (IntKind.i64.wrap (IntKind.i64.wrap (v3 * (↑v0.length:Int))+v4)).toNat               ([],[],Bool.false)).fst.length:      Int)) then
 bif decide ((IntKind.i64.wrap (IntKind.i64.wrap (v3 * (↑v0.length:Int))+v4)).toNat<v1.length) then
 bif decide   (([]:List Int).length+      (List.drop ((Option.some (1:Int)).getD (0:Int)).toNat           (v1.getD (IntKind.i64.wrap (IntKind.i64.wrap (v3 * (↑v0.length:Int))+v4)).toNat               ([],[],Bool.false)).fst).length≤    (4294967296:Nat)) then
 bif decide ((0:Int)≤IntKind.i64.wrap (IntKind.i64.wrap (v3 * (↑v0.length:Int))+v4)) then
 bif decide ((IntKind.i64.wrap (IntKind.i64.wrap (v3 * (↑v0.length:Int))+v4)).toNat<v1.length) then
 bif decide ((IntKind.i64.wrap (IntKind.i64.wrap (v3 * (↑v0.length:Int))+v4)).toNat<v1.length) then
 bif decide   ((v1.getD (IntKind.i64.wrap (IntKind.i64.wrap (v3 * (↑v0.length:Int))+v4)).toNat             ([],[],Bool.false)).fst.getD       (Int.toNat (0:Int)) (0:Int) >     (0:Int)) then
 bif decide ((0:Int)≤v4) then
 bif decide (v4.toNat<v0.length) then
 bif decide (v4.toNat<v0.length) then
 bif decide ((0:Int)≤v4) then
 bif decide (v4.toNat<v0.length) then
 bif decide (v4.toNat<v0.length) then
 bif (v1.getD (IntKind.i64.wrap (IntKind.i64.wrap (v3 * (↑v0.length:Int))+v4)).toNat ([],[],Bool.false)).snd.snd then
 bif decide   ((IntKind.i64.wrap (IntKind.i64.wrap (v3 * (↑v0.length:Int))+v4)).toNat<    (v1.set (IntKind.i64.wrap (IntKind.i64.wrap (v3 * (↑v0.length:Int))+v4)).toNat         ([] ++             List.drop ((Option.some (1:Int)).getD (0:Int)).toNat               (v1.getD (IntKind.i64.wrap (IntKind.i64.wrap (v3 * (↑v0.length:Int))+v4)).toNat                   ([],[],Bool.false)).fst,          (v1.getD (IntKind.i64.wrap (IntKind.i64.wrap (v3 * (↑v0.length:Int))+v4)).toNat               ([],[],Bool.false)).snd)).length) then
 bif decide   (((v1.set (IntKind.i64.wrap (IntKind.i64.wrap (v3 * (↑v0.length:Int))+v4)).toNat                   ([] ++                       List.drop ((Option.some (1:Int)).getD (0:Int)).toNat                         (v1.getD (IntKind.i64.wrap (IntKind.i64.wrap (v3 * (↑v0.length:Int))+v4)).toNat                             ([],[],Bool.false)).fst,                    (v1.getD (IntKind.i64.wrap (IntKind.i64.wrap (v3 * (↑v0.length:Int))+v4)).toNat                         ([],[],Bool.false)).snd)).getD               (IntKind.i64.wrap (IntKind.i64.wrap (v3 * (↑v0.length:Int))+v4)).toNat               ([],[],Bool.false)).snd.fst.length+      [(v1.getD (IntKind.i64.wrap (IntKind.i64.wrap (v3 * (↑v0.length:Int))+v4)).toNat                   ([],[],Bool.false)).fst.getD             (Int.toNat (0:Int)) (0:Int)].length≤    (4294967296:Nat)) then
 bif decide ((0:Int)≤IntKind.i64.wrap (IntKind.i64.wrap (v3 * (↑v0.length:Int))+v4)) then
 bif decide   ((IntKind.i64.wrap (IntKind.i64.wrap (v3 * (↑v0.length:Int))+v4)).toNat<    (v1.set (IntKind.i64.wrap (IntKind.i64.wrap (v3 * (↑v0.length:Int))+v4)).toNat         ([] ++             List.drop ((Option.some (1:Int)).getD (0:Int)).toNat               (v1.getD (IntKind.i64.wrap (IntKind.i64.wrap (v3 * (↑v0.length:Int))+v4)).toNat                   ([],[],Bool.false)).fst,          (v1.getD (IntKind.i64.wrap (IntKind.i64.wrap (v3 * (↑v0.length:Int))+v4)).toNat               ([],[],Bool.false)).snd)).length) then
 bif decide   ((IntKind.i64.wrap (IntKind.i64.wrap (v3 * (↑v0.length:Int))+v4)).toNat=    (IntKind.i64.wrap (IntKind.i64.wrap (v3 * (↑v0.length:Int))+v4)).toNat) then
 bif decide   ((IntKind.i64.wrap (IntKind.i64.wrap (v3 * (↑v0.length:Int))+v4)).toNat<    (v1.set (IntKind.i64.wrap (IntKind.i64.wrap (v3 * (↑v0.length:Int))+v4)).toNat         ([] ++             List.drop ((Option.some (1:Int)).getD (0:Int)).toNat               (v1.getD (IntKind.i64.wrap (IntKind.i64.wrap (v3 * (↑v0.length:Int))+v4)).toNat                   ([],[],Bool.false)).fst,          (v1.getD (IntKind.i64.wrap (IntKind.i64.wrap (v3 * (↑v0.length:Int))+v4)).toNat               ([],[],Bool.false)).snd)).length) then
 ret (v0.set v4.toNat   (IntKind.i64.wrap       ((v0.getD v4.toNat ((0:Int),(0:Int),Bool.false)).fst+        (v1.getD (IntKind.i64.wrap (IntKind.i64.wrap (v3 * (↑v0.length:Int))+v4)).toNat                 ([],[],Bool.false)).fst.getD           (Int.toNat (0:Int)) (0:Int)),    (v0.getD v4.toNat ((0:Int),(0:Int),Bool.false)).snd),(v1.set (IntKind.i64.wrap (IntKind.i64.wrap (v3 * (↑v0.length:Int))+v4)).toNat       ([] ++           List.drop ((Option.some (1:Int)).getD (0:Int)).toNat             (v1.getD (IntKind.i64.wrap (IntKind.i64.wrap (v3 * (↑v0.length:Int))+v4)).toNat                 ([],[],Bool.false)).fst,        (v1.getD (IntKind.i64.wrap (IntKind.i64.wrap (v3 * (↑v0.length:Int))+v4)).toNat             ([],[],Bool.false)).snd)).set   (IntKind.i64.wrap (IntKind.i64.wrap (v3 * (↑v0.length:Int))+v4)).toNat   (((v1.set (IntKind.i64.wrap (IntKind.i64.wrap (v3 * (↑v0.length:Int))+v4)).toNat             ([] ++                 List.drop ((Option.some (1:Int)).getD (0:Int)).toNat                   (v1.getD (IntKind.i64.wrap (IntKind.i64.wrap (v3 * (↑v0.length:Int))+v4)).toNat                       ([],[],Bool.false)).fst,              (v1.getD (IntKind.i64.wrap (IntKind.i64.wrap (v3 * (↑v0.length:Int))+v4)).toNat                   ([],[],Bool.false)).snd)).getD         (IntKind.i64.wrap (IntKind.i64.wrap (v3 * (↑v0.length:Int))+v4)).toNat ([],[],Bool.false)).fst,    ((v1.set (IntKind.i64.wrap (IntKind.i64.wrap (v3 * (↑v0.length:Int))+v4)).toNat                 ([] ++                     List.drop ((Option.some (1:Int)).getD (0:Int)).toNat                       (v1.getD (IntKind.i64.wrap (IntKind.i64.wrap (v3 * (↑v0.length:Int))+v4)).toNat                           ([],[],Bool.false)).fst,                  (v1.getD (IntKind.i64.wrap (IntKind.i64.wrap (v3 * (↑v0.length:Int))+v4)).toNat                       ([],[],Bool.false)).snd)).getD             (IntKind.i64.wrap (IntKind.i64.wrap (v3 * (↑v0.length:Int))+v4)).toNat             ([],[],Bool.false)).snd.fst ++       [(v1.getD (IntKind.i64.wrap (IntKind.i64.wrap (v3 * (↑v0.length:Int))+v4)).toNat                 ([],[],Bool.false)).fst.getD           (Int.toNat (0:Int)) (0:Int)],    ((v1.set (IntKind.i64.wrap (IntKind.i64.wrap (v3 * (↑v0.length:Int))+v4)).toNat               ([] ++                   List.drop ((Option.some (1:Int)).getD (0:Int)).toNat                     (v1.getD (IntKind.i64.wrap (IntKind.i64.wrap (v3 * (↑v0.length:Int))+v4)).toNat                         ([],[],Bool.false)).fst,                (v1.getD (IntKind.i64.wrap (IntKind.i64.wrap (v3 * (↑v0.length:Int))+v4)).toNat                     ([],[],Bool.false)).snd)).getD           (IntKind.i64.wrap (IntKind.i64.wrap (v3 * (↑v0.length:Int))+v4)).toNat           ([],[],Bool.false)).snd.snd),Bool.true)
 else
 none
 else
 none
 else
 none
 else
 none
 else
 none
 else
 none
 else
 ret (v0.set v4.toNat   (IntKind.i64.wrap       ((v0.getD v4.toNat ((0:Int),(0:Int),Bool.false)).fst+        (v1.getD (IntKind.i64.wrap (IntKind.i64.wrap (v3 * (↑v0.length:Int))+v4)).toNat                 ([],[],Bool.false)).fst.getD           (Int.toNat (0:Int)) (0:Int)),    (v0.getD v4.toNat ((0:Int),(0:Int),Bool.false)).snd),v1.set (IntKind.i64.wrap (IntKind.i64.wrap (v3 * (↑v0.length:Int))+v4)).toNat   ([] ++       List.drop ((Option.some (1:Int)).getD (0:Int)).toNat         (v1.getD (IntKind.i64.wrap (IntKind.i64.wrap (v3 * (↑v0.length:Int))+v4)).toNat             ([],[],Bool.false)).fst,    (v1.getD (IntKind.i64.wrap (IntKind.i64.wrap (v3 * (↑v0.length:Int))+v4)).toNat ([],[],Bool.false)).snd),Bool.true)
 else
 none
 else
 none
 else
 none
 else
 none
 else
 none
 else
 none
 else
 bif decide ((0:Int)≤v4) then
 bif decide (v4.toNat<v0.length) then
 bif decide (v4.toNat<v0.length) then
 bif (v0.getD v4.toNat ((0:Int),(0:Int),Bool.false)).snd.snd then
 bif decide ((0:Int)≤IntKind.i64.wrap (IntKind.i64.wrap (v3 * (↑v0.length:Int))+v4)) then
 bif decide   ((IntKind.i64.wrap (IntKind.i64.wrap (v3 * (↑v0.length:Int))+v4)).toNat<    (v1.set (IntKind.i64.wrap (IntKind.i64.wrap (v3 * (↑v0.length:Int))+v4)).toNat         ([] ++             List.drop ((Option.some (1:Int)).getD (0:Int)).toNat               (v1.getD (IntKind.i64.wrap (IntKind.i64.wrap (v3 * (↑v0.length:Int))+v4)).toNat                   ([],[],Bool.false)).fst,          (v1.getD (IntKind.i64.wrap (IntKind.i64.wrap (v3 * (↑v0.length:Int))+v4)).toNat               ([],[],Bool.false)).snd)).length) then
 bif decide   ((IntKind.i64.wrap (IntKind.i64.wrap (v3 * (↑v0.length:Int))+v4)).toNat<    (v1.set (IntKind.i64.wrap (IntKind.i64.wrap (v3 * (↑v0.length:Int))+v4)).toNat         ([] ++             List.drop ((Option.some (1:Int)).getD (0:Int)).toNat               (v1.getD (IntKind.i64.wrap (IntKind.i64.wrap (v3 * (↑v0.length:Int))+v4)).toNat                   ([],[],Bool.false)).fst,          (v1.getD (IntKind.i64.wrap (IntKind.i64.wrap (v3 * (↑v0.length:Int))+v4)).toNat               ([],[],Bool.false)).snd)).length) then
 ret (v0,(v1.set (IntKind.i64.wrap (IntKind.i64.wrap (v3 * (↑v0.length:Int))+v4)).toNat       ([] ++           List.drop ((Option.some (1:Int)).getD (0:Int)).toNat             (v1.getD (IntKind.i64.wrap (IntKind.i64.wrap (v3 * (↑v0.length:Int))+v4)).toNat                 ([],[],Bool.false)).fst,        (v1.getD (IntKind.i64.wrap (IntKind.i64.wrap (v3 * (↑v0.length:Int))+v4)).toNat             ([],[],Bool.false)).snd)).set   (IntKind.i64.wrap (IntKind.i64.wrap (v3 * (↑v0.length:Int))+v4)).toNat   (((v1.set (IntKind.i64.wrap (IntKind.i64.wrap (v3 * (↑v0.length:Int))+v4)).toNat             ([] ++                 List.drop ((Option.some (1:Int)).getD (0:Int)).toNat                   (v1.getD (IntKind.i64.wrap (IntKind.i64.wrap (v3 * (↑v0.length:Int))+v4)).toNat                       ([],[],Bool.false)).fst,              (v1.getD (IntKind.i64.wrap (IntKind.i64.wrap (v3 * (↑v0.length:Int))+v4)).toNat                   ([],[],Bool.false)).snd)).getD         (IntKind.i64.wrap (IntKind.i64.wrap (v3 * (↑v0.length:Int))+v4)).toNat ([],[],Bool.false)).fst,    ((v1.set (IntKind.i64.wrap (IntKind.i64.wrap (v3 * (↑v0.length:Int))+v4)).toNat               ([] ++                   List.drop ((Option.some (1:Int)).getD (0:Int)).toNat                     (v1.getD (IntKind.i64.wrap (IntKind.i64.wrap (v3 * (↑v0.length:Int))+v4)).toNat                         ([],[],Bool.false)).fst,                (v1.getD (IntKind.i64.wrap (IntKind.i64.wrap (v3 * (↑v0.length:Int))+v4)).toNat                     ([],[],Bool.false)).snd)).getD           (IntKind.i64.wrap (IntKind.i64.wrap (v3 * (↑v0.length:Int))+v4)).toNat           ([],[],Bool.false)).snd.fst,    Bool.false),Bool.true)
 else
 none
 else
 none
 else
 none
 else
 (xs0o (v0) (v1.set (IntKind.i64.wrap (IntKind.i64.wrap (v3 * (↑v0.length:Int))+v4)).toNat   ([] ++       List.drop ((Option.some (1:Int)).getD (0:Int)).toNat         (v1.getD (IntKind.i64.wrap (IntKind.i64.wrap (v3 * (↑v0.length:Int))+v4)).toNat             ([],[],Bool.false)).fst,    (v1.getD (IntKind.i64.wrap (IntKind.i64.wrap (v3 * (↑v0.length:Int))+v4)).toNat ([],[],Bool.false)).snd)) (v4) (v3)).bind fun (r3:(List (Int × Int × Bool)) × (List (List Int × List Int × Bool)) × Bool) =>
 ret (r3.fst,r3.snd.fst,r3.snd.snd)
 else
 none
 else
 none
 else
 none
 else
 none
 else
 none
 else
 none
 else
 none
 else
 none
 else
 none
 else
 none
 else
 none
 else
 none
 else
 none
 else
 none
 else
 none
 else
 none
 else
 none
 else
 ret (v0,v1,Bool.false)
 else
 none
 else
 none
 else
 none
 else
 none
 else
 none
theorem xs0p.u:∀ b,xs0p.un (xs0p.mk b)=b:=fun _ => by kernel_rfl
theorem xs0p.eq (v0 v1 v2 v3 v4 v5) {b} (h:xs0p.t some v0 v1 v2 v3 v4 v5=some b):xs0p v0 v1 v2 v3 v4 v5=some b:=eqF xs0p.u Try.f44 (callT_le E tab) rfl rfl rfl (xs0p.t (rR xs0p.mk) v0 v1 v2 v3 v4 v5) (by kernel_rfl) (by unfold xs0p.t; repeat' first | exact sR | exact sN | exact sL | apply sC | (apply sB; intro _)) h
def xs0o.s5 (v0:Int) (v1:Int) (v2:List (Int × Int × Bool)) (v3:List (List Int × List Int × Bool)) (v4:List (Int × Int × Bool)) (v5:List (List Int × List Int × Bool)) (v6:Int) (v7:Int):List Cell:=nn 1 (vc (iL v0)::vc (iL v1)::⟨(.box false),[.d .deep Yb v2,.d .deep Ya v3],false,false,false,0,0⟩::nn 2 (⟨(.box false),[.d .deep Yb v4,.d .deep Ya v5],false,false,false,0,0⟩::nn 1 (vc (iL v6)::vc (iL v7)::nn 74 ([]))))
def xs0o.q5:=fun v0 v1 v2 v3 v4 v5 v6 v7 => loopAtL E (callT E tab) 78 Try.f78 3 [.r,.r,.r,.r,.l,.r,.b] (xs0o.s5 v0 v1 v2 v3 v4 v5 v6 v7)
def xs0o.l5:=fun v0 v1 v2 v3 v4 v5 v6 v7 => tOf xs0o.mk (xs0o.q5 v0 v1 v2 v3 v4 v5 v6 v7)
def xs0o.t {γ:Type} (ret:((List (Int × Int × Bool)) × (List (List Int × List Int × Bool)) × Bool)→Option γ) (lp5:Int→Int→(List (Int × Int × Bool))→(List (List Int × List Int × Bool))→(List (Int × Int × Bool))→(List (List Int × List Int × Bool))→Int→Int→Option γ) (v0:List (Int × Int × Bool)) (v1:List (List Int × List Int × Bool)) (v2:Int) (v3:Int):Option γ :=
 bif decide ((0:Int)≤v2) then
 bif decide (v2.toNat<v0.length) then
 bif decide (v2.toNat<v0.length) then
 bif decide ((0:Int)≤v2) then
 bif decide (v2.toNat<v0.length) then
 bif decide (v2.toNat<v0.length) then
 bif decide ((0:Int)≤v2) then
 bif decide   (v2.toNat<    (v0.set v2.toNat         ((v0.getD v2.toNat ((0:Int),(0:Int),Bool.false)).fst,          (v0.getD v2.toNat ((0:Int),(0:Int),Bool.false)).fst,          (v0.getD v2.toNat ((0:Int),(0:Int),Bool.false)).snd.snd)).length) then
 bif decide   (v2.toNat<    (v0.set v2.toNat         ((v0.getD v2.toNat ((0:Int),(0:Int),Bool.false)).fst,          (v0.getD v2.toNat ((0:Int),(0:Int),Bool.false)).fst,          (v0.getD v2.toNat ((0:Int),(0:Int),Bool.false)).snd.snd)).length) then
 lp5 (v2) (v3) ((v0.set v2.toNat       ((v0.getD v2.toNat ((0:Int),(0:Int),Bool.false)).fst,        (v0.getD v2.toNat ((0:Int),(0:Int),Bool.false)).fst,        (v0.getD v2.toNat ((0:Int),(0:Int),Bool.false)).snd.snd)).set   v2.toNat   (((v0.set v2.toNat             ((v0.getD v2.toNat ((0:Int),(0:Int),Bool.false)).fst,              (v0.getD v2.toNat ((0:Int),(0:Int),Bool.false)).fst,              (v0.getD v2.toNat ((0:Int),(0:Int),Bool.false)).snd.snd)).getD         v2.toNat ((0:Int),(0:Int),Bool.false)).fst,    ((v0.set v2.toNat               ((v0.getD v2.toNat ((0:Int),(0:Int),Bool.false)).fst,                (v0.getD v2.toNat ((0:Int),(0:Int),Bool.false)).fst,                (v0.getD v2.toNat ((0:Int),(0:Int),Bool.false)).snd.snd)).getD           v2.toNat ((0:Int),(0:Int),Bool.false)).snd.fst,    Bool.true)) (v1) ([]) ([]) ((↑v0.length:Int)) ((0:Int))
 else
 none
 else
 none
 else
 none
 else
 none
 else
 none
 else
 none
 else
 none
 else
 none
 else
 none
def xs0o.t5 {γ:Type} (ret:((List (Int × Int × Bool)) × (List (List Int × List Int × Bool)) × Bool)→Option γ) (lp5:Int→Int→(List (Int × Int × Bool))→(List (List Int × List Int × Bool))→(List (Int × Int × Bool))→(List (List Int × List Int × Bool))→Int→Int→Option γ) (v0:Int) (v1:Int) (v2:List (Int × Int × Bool)) (v3:List (List Int × List Int × Bool)) (v4:List (Int × Int × Bool)) (v5:List (List Int × List Int × Bool)) (v6:Int) (v7:Int):Option γ :=
 bif decide (v7<v6) then
 bif v7 == v0 then
 lp5 (v0) (v1) (v2) (v3) (v4) (v5) (v6) (IntKind.i64.wrap (v7+(1:Int)))
 else
 bif decide ((0:Int)≤IntKind.i64.wrap (IntKind.i64.wrap (v7 * v6)+v0)) then
 bif decide ((IntKind.i64.wrap (IntKind.i64.wrap (v7 * v6)+v0)).toNat<v3.length) then
 bif decide ((IntKind.i64.wrap (IntKind.i64.wrap (v7 * v6)+v0)).toNat<v3.length) then
 bif decide ((0:Int)≤IntKind.i64.wrap (IntKind.i64.wrap (v0 * v6)+v7)) then
 bif decide   ((IntKind.i64.wrap (IntKind.i64.wrap (v0 * v6)+v7)).toNat<    (v3.set (IntKind.i64.wrap (IntKind.i64.wrap (v7 * v6)+v0)).toNat         ((v3.getD (IntKind.i64.wrap (IntKind.i64.wrap (v7 * v6)+v0)).toNat ([],[],Bool.false)).fst,          (v3.getD (IntKind.i64.wrap (IntKind.i64.wrap (v7 * v6)+v0)).toNat ([],[],Bool.false)).snd.fst,          v7 != v1)).length) then
 bif decide   ((IntKind.i64.wrap (IntKind.i64.wrap (v0 * v6)+v7)).toNat<    (v3.set (IntKind.i64.wrap (IntKind.i64.wrap (v7 * v6)+v0)).toNat         ((v3.getD (IntKind.i64.wrap (IntKind.i64.wrap (v7 * v6)+v0)).toNat ([],[],Bool.false)).fst,          (v3.getD (IntKind.i64.wrap (IntKind.i64.wrap (v7 * v6)+v0)).toNat ([],[],Bool.false)).snd.fst,          v7 != v1)).length) then
 bif decide   ((IntKind.i64.wrap (IntKind.i64.wrap (v0 * v6)+v7)).toNat<    (v3.set (IntKind.i64.wrap (IntKind.i64.wrap (v7 * v6)+v0)).toNat         ((v3.getD (IntKind.i64.wrap (IntKind.i64.wrap (v7 * v6)+v0)).toNat ([],[],Bool.false)).fst,          (v3.getD (IntKind.i64.wrap (IntKind.i64.wrap (v7 * v6)+v0)).toNat ([],[],Bool.false)).snd.fst,          v7 != v1)).length) then
 bif (↑((v3.set (IntKind.i64.wrap (IntKind.i64.wrap (v7 * v6)+v0)).toNat                 ((v3.getD (IntKind.i64.wrap (IntKind.i64.wrap (v7 * v6)+v0)).toNat ([],[],Bool.false)).fst,                  (v3.getD (IntKind.i64.wrap (IntKind.i64.wrap (v7 * v6)+v0)).toNat                         ([],[],Bool.false)).snd.fst,                  v7 != v1)).getD             (IntKind.i64.wrap (IntKind.i64.wrap (v0 * v6)+v7)).toNat ([],[],Bool.false)).fst.length:    Int) ==   (12:Int) then
 ret (v2,v3.set (IntKind.i64.wrap (IntKind.i64.wrap (v7 * v6)+v0)).toNat   ((v3.getD (IntKind.i64.wrap (IntKind.i64.wrap (v7 * v6)+v0)).toNat ([],[],Bool.false)).fst,    (v3.getD (IntKind.i64.wrap (IntKind.i64.wrap (v7 * v6)+v0)).toNat ([],[],Bool.false)).snd.fst,v7 != v1),Bool.false)
 else
 bif decide ((0:Int)≤IntKind.i64.wrap (IntKind.i64.wrap (v0 * v6)+v7)) then
 bif decide   ((IntKind.i64.wrap (IntKind.i64.wrap (v0 * v6)+v7)).toNat<    (v3.set (IntKind.i64.wrap (IntKind.i64.wrap (v7 * v6)+v0)).toNat         ((v3.getD (IntKind.i64.wrap (IntKind.i64.wrap (v7 * v6)+v0)).toNat ([],[],Bool.false)).fst,          (v3.getD (IntKind.i64.wrap (IntKind.i64.wrap (v7 * v6)+v0)).toNat ([],[],Bool.false)).snd.fst,          v7 != v1)).length) then
 bif decide   ((IntKind.i64.wrap (IntKind.i64.wrap (v0 * v6)+v7)).toNat<    (v3.set (IntKind.i64.wrap (IntKind.i64.wrap (v7 * v6)+v0)).toNat         ((v3.getD (IntKind.i64.wrap (IntKind.i64.wrap (v7 * v6)+v0)).toNat ([],[],Bool.false)).fst,          (v3.getD (IntKind.i64.wrap (IntKind.i64.wrap (v7 * v6)+v0)).toNat ([],[],Bool.false)).snd.fst,          v7 != v1)).length) then
 bif decide   ((IntKind.i64.wrap (IntKind.i64.wrap (v0 * v6)+v7)).toNat<    (v3.set (IntKind.i64.wrap (IntKind.i64.wrap (v7 * v6)+v0)).toNat         ((v3.getD (IntKind.i64.wrap (IntKind.i64.wrap (v7 * v6)+v0)).toNat ([],[],Bool.false)).fst,          (v3.getD (IntKind.i64.wrap (IntKind.i64.wrap (v7 * v6)+v0)).toNat ([],[],Bool.false)).snd.fst,          v7 != v1)).length) then
 bif decide   (((v3.set (IntKind.i64.wrap (IntKind.i64.wrap (v7 * v6)+v0)).toNat                 ((v3.getD (IntKind.i64.wrap (IntKind.i64.wrap (v7 * v6)+v0)).toNat ([],[],Bool.false)).fst,                  (v3.getD (IntKind.i64.wrap (IntKind.i64.wrap (v7 * v6)+v0)).toNat                         ([],[],Bool.false)).snd.fst,                  v7 != v1)).getD             (IntKind.i64.wrap (IntKind.i64.wrap (v0 * v6)+v7)).toNat ([],[],Bool.false)).fst.length+      [(0:Int)].length≤    (4294967296:Nat)) then
 bif decide ((0:Int)≤IntKind.i64.wrap (IntKind.i64.wrap (v0 * v6)+v7)) then
 bif decide   ((IntKind.i64.wrap (IntKind.i64.wrap (v0 * v6)+v7)).toNat<    (v3.set (IntKind.i64.wrap (IntKind.i64.wrap (v7 * v6)+v0)).toNat         ((v3.getD (IntKind.i64.wrap (IntKind.i64.wrap (v7 * v6)+v0)).toNat ([],[],Bool.false)).fst,          (v3.getD (IntKind.i64.wrap (IntKind.i64.wrap (v7 * v6)+v0)).toNat ([],[],Bool.false)).snd.fst,          v7 != v1)).length) then
 bif decide   ((IntKind.i64.wrap (IntKind.i64.wrap (v0 * v6)+v7)).toNat=    (IntKind.i64.wrap (IntKind.i64.wrap (v0 * v6)+v7)).toNat) then
 bif decide   ((IntKind.i64.wrap (IntKind.i64.wrap (v0 * v6)+v7)).toNat<    (v3.set (IntKind.i64.wrap (IntKind.i64.wrap (v7 * v6)+v0)).toNat         ((v3.getD (IntKind.i64.wrap (IntKind.i64.wrap (v7 * v6)+v0)).toNat ([],[],Bool.false)).fst,          (v3.getD (IntKind.i64.wrap (IntKind.i64.wrap (v7 * v6)+v0)).toNat ([],[],Bool.false)).snd.fst,          v7 != v1)).length) then
 lp5 (v0) (v1) (v2) ((v3.set (IntKind.i64.wrap (IntKind.i64.wrap (v7 * v6)+v0)).toNat       ((v3.getD (IntKind.i64.wrap (IntKind.i64.wrap (v7 * v6)+v0)).toNat ([],[],Bool.false)).fst,        (v3.getD (IntKind.i64.wrap (IntKind.i64.wrap (v7 * v6)+v0)).toNat ([],[],Bool.false)).snd.fst,        v7 != v1)).set   (IntKind.i64.wrap (IntKind.i64.wrap (v0 * v6)+v7)).toNat   (((v3.set (IntKind.i64.wrap (IntKind.i64.wrap (v7 * v6)+v0)).toNat               ((v3.getD (IntKind.i64.wrap (IntKind.i64.wrap (v7 * v6)+v0)).toNat ([],[],Bool.false)).fst,                (v3.getD (IntKind.i64.wrap (IntKind.i64.wrap (v7 * v6)+v0)).toNat ([],[],Bool.false)).snd.fst,                v7 != v1)).getD           (IntKind.i64.wrap (IntKind.i64.wrap (v0 * v6)+v7)).toNat ([],[],Bool.false)).fst ++       [(0:Int)],    ((v3.set (IntKind.i64.wrap (IntKind.i64.wrap (v7 * v6)+v0)).toNat             ((v3.getD (IntKind.i64.wrap (IntKind.i64.wrap (v7 * v6)+v0)).toNat ([],[],Bool.false)).fst,              (v3.getD (IntKind.i64.wrap (IntKind.i64.wrap (v7 * v6)+v0)).toNat ([],[],Bool.false)).snd.fst,              v7 != v1)).getD         (IntKind.i64.wrap (IntKind.i64.wrap (v0 * v6)+v7)).toNat ([],[],Bool.false)).snd)) (v4) (v5) (v6) (IntKind.i64.wrap (v7+(1:Int)))
 else
 none
 else
 none
 else
 none
 else
 none
 else
 none
 else
 none
 else
 none
 else
 none
 else
 none
 else
 none
 else
 none
 else
 none
 else
 none
 else
 none
 else
 none
 else
 none
 else
 ret (v2,v3,Bool.true)
theorem xs0o.u:∀ b,xs0o.un (xs0o.mk b)=b:=fun _ => by kernel_rfl
theorem xs0o.eq (v0 v1 v2 v3) {b} (h:xs0o.t some xs0o.l5 v0 v1 v2 v3=some b):xs0o v0 v1 v2 v3=some b:=eqF xs0o.u Try.f78 (callT_le E tab) rfl rfl rfl (xs0o.t (rR xs0o.mk) xs0o.q5 v0 v1 v2 v3) (by kernel_rfl) (by unfold xs0o.t; repeat' first | exact sR | exact sN | exact sL | apply sC | (apply sB; intro _)) h
theorem xs0o.eq5 (v0 v1 v2 v3 v4 v5 v6 v7) {b} (h:xs0o.t5 some xs0o.l5 v0 v1 v2 v3 v4 v5 v6 v7=some b):xs0o.l5 v0 v1 v2 v3 v4 v5 v6 v7=some b:=eqL xs0o.u (xs0o.t5 (rR xs0o.mk) xs0o.q5 v0 v1 v2 v3 v4 v5 v6 v7) (by kernel_rfl) (by unfold xs0o.t5; repeat' first | exact sR | exact sN | exact sL | apply sC | (apply sB; intro _)) h
end
end GoV

/- Equations of the program's functions (printed by wip/tools/emit.py). -/
namespace GoV
open Go Go.Proofs
set_option maxRecDepth 100000
noncomputable section

def xi0w.t {γ:Type} (ret:((List (Int × Int × Bool)) × (List (List Int × List Int × Bool)) × Bool)→Option γ) (v0:List (Int × Int × Bool)) (v1:List (List Int × List Int × Bool)) (v2:Int) (v3:Int) (v4:Int) (v5:Int):Option γ :=
 (xi0u (v0) (v1)).bind fun (r0:Bool) =>
 bif !r0 then
 ret ([],[],Bool.false)
 else
 (xi0i (v0) (v1) (v2) (v3) (v4) (v5)).bind fun (r1:(List (Int × Int × Bool)) × (List (List Int × List Int × Bool)) × Bool) =>
 ret (r1.fst,r1.snd.fst,r1.snd.snd)
theorem xi0w.u:∀ b,xi0w.un (xi0w.mk b)=b:=fun _ => by kernel_rfl
theorem xi0w.eq (v0 v1 v2 v3 v4 v5) {b} (h:xi0w.t some v0 v1 v2 v3 v4 v5=some b):xi0w v0 v1 v2 v3 v4 v5=some b:=eqF xi0w.u Try.f12 (callT_le E tab) rfl rfl rfl (xi0w.t (rR xi0w.mk) v0 v1 v2 v3 v4 v5) (by kernel_rfl) (by unfold xi0w.t; repeat' first | exact sR | exact sN | exact sL | apply sC | (apply sB; intro _)) h
def xi0u.s13 (v0:List (Int × Int × Bool)) (v1:List (List Int × List Int × Bool)) (v2:Int) (v3:Int) (v4:List (List Int × List Int × Bool)) (v5:Int) (v6:Int):List Cell:=nn 1 (⟨(.box false),[.d .fro Yb v0,.d .fro Ya v1],false,false,false,0,0⟩::nn 1 (vc (iL v2)::vc (iL v3)::nn 55 (vc (.d .fro Ya v4)::vc (iL v5)::vc (iL v6)::nn 40 ([]))))
def xi0u.q13:=fun v0 v1 v2 v3 v4 v5 v6 => loopAtL E (callT E tab) 34 Try.f34 1 [.r,.r,.r,.r,.r,.l,.r,.b] (xi0u.s13 v0 v1 v2 v3 v4 v5 v6)
def xi0u.l13:=fun v0 v1 v2 v3 v4 v5 v6 => tOf xi0u.mk (xi0u.q13 v0 v1 v2 v3 v4 v5 v6)
def xi0u.s6 (v0:List (Int × Int × Bool)) (v1:List (List Int × List Int × Bool)) (v2:Int) (v3:Int) (v4:List (Int × Int × Bool)) (v5:Int) (v6:Int):List Cell:=nn 1 (⟨(.box false),[.d .fro Yb v0,.d .fro Ya v1],false,false,false,0,0⟩::nn 1 (vc (iL v2)::vc (iL v3)::nn 20 (vc (.d .fro Yb v4)::vc (iL v5)::vc (iL v6)::nn 75 ([]))))
def xi0u.q6:=fun v0 v1 v2 v3 v4 v5 v6 => loopAtL E (callT E tab) 34 Try.f34 1 [.r,.r,.r,.r,.l,.r,.b] (xi0u.s6 v0 v1 v2 v3 v4 v5 v6)
def xi0u.l6:=fun v0 v1 v2 v3 v4 v5 v6 => tOf xi0u.mk (xi0u.q6 v0 v1 v2 v3 v4 v5 v6)
def xi0u.t {γ:Type} (ret:(Bool)→Option γ) (lp6:(List (Int × Int × Bool))→(List (List Int × List Int × Bool))→Int→Int→(List (Int × Int × Bool))→Int→Int→Option γ) (v0:List (Int × Int × Bool)) (v1:List (List Int × List Int × Bool)):Option γ :=
 (xi17 ((↑v0.length:Int)) ((2:Int)) ((4:Int))).bind fun (r0:Bool) =>
 bif !r0 then
 ret (Bool.false)
 else
 bif (↑v1.length:Int) != IntKind.i64.wrap ((↑v0.length:Int) * (↑v0.length:Int)) then
 ret (Bool.false)
 else
 lp6 (v0) (v1) ((↑v0.length:Int)) ((0:Int)) (v0) ((↑v0.length:Int)) ((0:Int))
def xi0u.t13 {γ:Type} (ret:(Bool)→Option γ) (lp13:(List (Int × Int × Bool))→(List (List Int × List Int × Bool))→Int→Int→(List (List Int × List Int × Bool))→Int→Int→Option γ) (v0:List (Int × Int × Bool)) (v1:List (List Int × List Int × Bool)) (v2:Int) (v3:Int) (v4:List (List Int × List Int × Bool)) (v5:Int) (v6:Int):Option γ :=
 bif decide (v6<v5) then
 bif decide ((0:Int)≤v6) then
 bif decide (v6.toNat<v4.length) then
 bif decide (v2≠(0:Int)) then
 bif decide ((0:Int)≤v6.tmod v2) then
 bif decide ((v6.tmod v2).toNat<v0.length) then
 (xi0n ((v4.getD v6.toNat ([],[],Bool.false)).fst) ((v4.getD v6.toNat ([],[],Bool.false)).snd.fst) ((v4.getD v6.toNat ([],[],Bool.false)).snd.snd) ((v0.getD (v6.tmod v2).toNat ((0:Int),(0:Int),Bool.false)).fst) ((v0.getD (v6.tmod v2).toNat ((0:Int),(0:Int),Bool.false)).snd.fst) ((v0.getD (v6.tmod v2).toNat ((0:Int),(0:Int),Bool.false)).snd.snd)).bind fun (r3:Bool) =>
 bif !r3 then
 ret (Bool.false)
 else
 bif decide (v2≠(0:Int)) then
 bif decide (v2≠(0:Int)) then
 bif IntKind.i64.wrap (v6.tdiv v2) == v6.tmod v2 then
 (xi0m ((v4.getD v6.toNat ([],[],Bool.false)).fst) ((v4.getD v6.toNat ([],[],Bool.false)).snd.fst) ((v4.getD v6.toNat ([],[],Bool.false)).snd.snd)).bind fun (r4:Bool) =>
 bif !r4 then
 ret (Bool.false)
 else
 (xi1k ((v4.getD v6.toNat ([],[],Bool.false)).fst)).bind fun (r5:Int) =>
 (xi1k ((v4.getD v6.toNat ([],[],Bool.false)).snd.fst)).bind fun (r6:Int) =>
 lp13 (v0) (v1) (v2) (IntKind.i64.wrap (v3+IntKind.i64.wrap (r5+r6))) (v4) (v5) (IntKind.i64.wrap (v6+(1:Int)))
 else
 (xi1k ((v4.getD v6.toNat ([],[],Bool.false)).fst)).bind fun (r7:Int) =>
 (xi1k ((v4.getD v6.toNat ([],[],Bool.false)).snd.fst)).bind fun (r8:Int) =>
 lp13 (v0) (v1) (v2) (IntKind.i64.wrap (v3+IntKind.i64.wrap (r7+r8))) (v4) (v5) (IntKind.i64.wrap (v6+(1:Int)))
 else
 none
 else
 none
 else
 none
 else
 none
 else
 none
 else
 none
 else
 none
 else
 ret (decide (v3≤(2000000000:Int)))
def xi0u.t6 {γ:Type} (ret:(Bool)→Option γ) (lp13:(List (Int × Int × Bool))→(List (List Int × List Int × Bool))→Int→Int→(List (List Int × List Int × Bool))→Int→Int→Option γ) (lp6:(List (Int × Int × Bool))→(List (List Int × List Int × Bool))→Int→Int→(List (Int × Int × Bool))→Int→Int→Option γ) (v0:List (Int × Int × Bool)) (v1:List (List Int × List Int × Bool)) (v2:Int) (v3:Int) (v4:List (Int × Int × Bool)) (v5:Int) (v6:Int):Option γ :=
 bif decide (v6<v5) then
 bif decide ((0:Int)≤v6) then
 bif decide (v6.toNat<v4.length) then
 (xi17 ((v4.getD v6.toNat ((0:Int),(0:Int),Bool.false)).fst) ((0:Int)) ((2000000000:Int))).bind fun (r1:Bool) =>
 bif !r1 then
 ret (Bool.false)
 else
 (xi17 ((v4.getD v6.toNat ((0:Int),(0:Int),Bool.false)).snd.fst) ((0:Int)) ((2000000000:Int))).bind fun (r2:Bool) =>
 bif !r2 then
 ret (Bool.false)
 else
 bif !(v4.getD v6.toNat ((0:Int),(0:Int),Bool.false)).snd.snd then
 bif (v4.getD v6.toNat ((0:Int),(0:Int),Bool.false)).snd.fst != (0:Int) then
 ret (Bool.false)
 else
 lp6 (v0) (v1) (v2) (IntKind.i64.wrap   (v3+    IntKind.i64.wrap       ((v4.getD v6.toNat ((0:Int),(0:Int),Bool.false)).fst+        (v4.getD v6.toNat ((0:Int),(0:Int),Bool.false)).snd.fst))) (v4) (v5) (IntKind.i64.wrap (v6+(1:Int)))
 else
 lp6 (v0) (v1) (v2) (IntKind.i64.wrap   (v3+    IntKind.i64.wrap       ((v4.getD v6.toNat ((0:Int),(0:Int),Bool.false)).fst+        (v4.getD v6.toNat ((0:Int),(0:Int),Bool.false)).snd.fst))) (v4) (v5) (IntKind.i64.wrap (v6+(1:Int)))
 else
 none
 else
 none
 else
 lp13 (v0) (v1) (v2) (v3) (v1) ((↑v1.length:Int)) ((0:Int))
theorem xi0u.u:∀ b,xi0u.un (xi0u.mk b)=b:=fun _ => by kernel_rfl
theorem xi0u.eq (v0 v1) {b} (h:xi0u.t some xi0u.l6 v0 v1=some b):xi0u v0 v1=some b:=eqF xi0u.u Try.f34 (callT_le E tab) rfl rfl rfl (xi0u.t (rR xi0u.mk) xi0u.q6 v0 v1) (by kernel_rfl) (by unfold xi0u.t; repeat' first | exact sR | exact sN | exact sL | apply sC | (apply sB; intro _)) h
theorem xi0u.eq13 (v0 v1 v2 v3 v4 v5 v6) {b} (h:xi0u.t13 some xi0u.l13 v0 v1 v2 v3 v4 v5 v6=some b):xi0u.l13 v0 v1 v2 v3 v4 v5 v6=some b:=eqL xi0u.u (xi0u.t13 (rR xi0u.mk) xi0u.q13 v0 v1 v2 v3 v4 v5 v6) (by kernel_rfl) (by unfold xi0u.t13; repeat' first | exact sR | exact sN | exact sL | apply sC | (apply sB; intro _)) h
theorem xi0u.eq6 (v0 v1 v2 v3 v4 v5 v6) {b} (h:xi0u.t6 some xi0u.l13 xi0u.l6 v0 v1 v2 v3 v4 v5 v6=some b):xi0u.l6 v0 v1 v2 v3 v4 v5 v6=some b:=eqL xi0u.u (xi0u.t6 (rR xi0u.mk) xi0u.q13 xi0u.q6 v0 v1 v2 v3 v4 v5 v6) (by kernel_rfl) (by unfold xi0u.t6; repeat' first | exact sR | exact sN | exact sL | apply sC | (apply sB; intro _)) h
def xi17.t {γ:Type} (ret:(Bool)→Option γ) (v0:Int) (v1:Int) (v2:Int):Option γ :=
 bif decide (v1≤v0) then
 ret (decide (v0≤v2))
 else
 ret (Bool.false)
theorem xi17.u:∀ b,xi17.un (xi17.mk b)=b:=fun _ => by kernel_rfl
theorem xi17.eq (v0 v1 v2) {b} (h:xi17.t some v0 v1 v2=some b):xi17 v0 v1 v2=some b:=eqF xi17.u Try.f68 (callT_le E tab) rfl rfl rfl (xi17.t (rR xi17.mk) v0 v1 v2) (by kernel_rfl) (by unfold xi17.t; repeat' first | exact sR | exact sN | exact sL | apply sC | (apply sB; intro _)) h
def xi0n.t {γ:Type} (ret:(Bool)→Option γ) (v0:List Int) (v1:List Int) (v2:Bool) (v3:Int) (v4:Int) (v5:Bool):Option γ :=
 bif decide ((↑v0.length:Int)≤(12:Int)) then
 (xi06 (v0)).bind fun (r0:Bool) =>
 bif r0 then
 bif decide ((↑v1.length:Int)≤(200:Int)) then
 (xi07 (v1)).bind fun (r1:Bool) =>
 bif r1 then
 bif v5 then
 ret (Bool.true)
 else
 bif !v2 then
 ret ((↑v1.length:Int) == (0:Int))
 else
 ret (Bool.false)
 else
 ret (Bool.false)
 else
 ret (Bool.false)
 else
 ret (Bool.false)
 else
 ret (Bool.false)
theorem xi0n.u:∀ b,xi0n.un (xi0n.mk b)=b:=fun _ => by kernel_rfl
theorem xi0n.eq (v0 v1 v2 v3 v4 v5) {b} (h:xi0n.t some v0 v1 v2 v3 v4 v5=some b):xi0n v0 v1 v2 v3 v4 v5=some b:=eqF xi0n.u Try.f69 (callT_le E tab) rfl rfl rfl (xi0n.t (rR xi0n.mk) v0 v1 v2 v3 v4 v5) (by kernel_rfl) (by unfold xi0n.t; repeat' first | exact sR | exact sN | exact sL | apply sC | (apply sB; intro _)) h
def xi06.t {γ:Type} (ret:(Bool)→Option γ) (v0:List Int):Option γ :=
 (xs00 (v0)).bind fun (r0:Bool) =>
 ret (!r0)
theorem xi06.u:∀ b,xi06.un (xi06.mk b)=b:=fun _ => by kernel_rfl
theorem xi06.eq (v0) {b} (h:xi06.t some v0=some b):xi06 v0=some b:=eqF xi06.u Try.f90 (callT_le E tab) rfl rfl rfl (xi06.t (rR xi06.mk) v0) (by kernel_rfl) (by unfold xi06.t; repeat' first | exact sR | exact sN | exact sL | apply sC | (apply sB; intro _)) h
def xs00.t {γ:Type} (ret:(Bool)→Option γ) (v0:List Int):Option γ :=
 (xs02 (v0)).bind fun (r0:Int) =>
 ret (decide (r0 ≥ (0:Int)))
theorem xs00.u:∀ b,xs00.un (xs00.mk b)=b:=fun _ => by kernel_rfl
theorem xs00.eq (v0) {b} (h:xs00.t some v0=some b):xs00 v0=some b:=eqF xs00.u Try.f98 (callT_le E tab) rfl rfl rfl (xs00.t (rR xs00.mk) v0) (by kernel_rfl) (by unfold xs00.t; repeat' first | exact sR | exact sN | exact sL | apply sC | (apply sB; intro _)) h
def xs02.s2 (v0:List Int) (v1:Int) (v2:Int):List Cell:=vc (.d .fro (.sl (.int .i64)) v0)::vc (.fn 99 [.rp [.fn 91 []] 0])::nn 5 (vc (iL v1)::vc (iL v2)::nn 10 ([]))
def xs02.q2:=fun v0 v1 v2 => loopAtL E (callT E tab) 101 Try.f101 2 [.r,.l,.r,.b] (xs02.s2 v0 v1 v2)
def xs02.l2:=fun v0 v1 v2 => tOf xs02.mk (xs02.q2 v0 v1 v2)
def xs02.t {γ:Type} (ret:(Int)→Option γ) (lp2:(List Int)→Int→Int→Option γ) (v0:List Int):Option γ :=
 lp2 (v0) ((↑v0.length:Int)) ((0:Int))
def xs02.t2 {γ:Type} (ret:(Int)→Option γ) (lp2:(List Int)→Int→Int→Option γ) (v0:List Int) (v1:Int) (v2:Int):Option γ :=
 bif decide (v2<v1) then
 bif decide ((0:Int)≤v2) then
 bif decide (v2.toNat<v0.length) then
 (xi04 (v0.getD v2.toNat (0:Int))).bind fun (r0:Bool) =>
 bif r0 then
 ret (v2)
 else
 lp2 (v0) (v1) (IntKind.i64.wrap (v2+(1:Int)))
 else
 none
 else
 none
 else
 ret ((-1:Int))
theorem xs02.u:∀ b,xs02.un (xs02.mk b)=b:=fun _ => by kernel_rfl
theorem xs02.eq (v0) {b} (h:xs02.t some xs02.l2 v0=some b):xs02 v0=some b:=eqF xs02.u Try.f101 (callT_le E tab) rfl rfl rfl (xs02.t (rR xs02.mk) xs02.q2 v0) (by kernel_rfl) (by unfold xs02.t; repeat' first | exact sR | exact sN | exact sL | apply sC | (apply sB; intro _)) h
theorem xs02.eq2 (v0 v1 v2) {b} (h:xs02.t2 some xs02.l2 v0 v1 v2=some b):xs02.l2 v0 v1 v2=some b:=eqL xs02.u (xs02.t2 (rR xs02.mk) xs02.q2 v0 v1 v2) (by kernel_rfl) (by unfold xs02.t2; repeat' first | exact sR | exact sN | exact sL | apply sC | (apply sB; intro _)) h
def xi04.t {γ:Type} (ret:(Bool)→Option γ) (v0:Int):Option γ :=
 (xi0f (v0)).bind fun (r0:Bool) =>
 ret (!r0)
theorem xi04.u:∀ b,xi04.un (xi04.mk b)=b:=fun _ => by kernel_rfl
theorem xi04.eq (v0) {b} (h:xi04.t some v0=some b):xi04 v0=some b:=eqF xi04.u Try.f99 (callT_le E tab) rfl rfl rfl (xi04.t (rR xi04.mk) v0) (by kernel_rfl) (by unfold xi04.t; repeat' first | exact sR | exact sN | exact sL | apply sC | (apply sB; intro _)) h
def xi0f.t {γ:Type} (ret:(Bool)→Option γ) (v0:Int):Option γ :=
 bif v0 == (0:Int) then
 ret (Bool.true)
 else
 (xi0j (v0)).bind fun (r0:Bool) =>
 ret (r0)
theorem xi0f.u:∀ b,xi0f.un (xi0f.mk b)=b:=fun _ => by kernel_rfl
theorem xi0f.eq (v0) {b} (h:xi0f.t some v0=some b):xi0f v0=some b:=eqF xi0f.u Try.f91 (callT_le E tab) rfl rfl rfl (xi0f.t (rR xi0f.mk) v0) (by kernel_rfl) (by unfold xi0f.t; repeat' first | exact sR | exact sN | exact sL | apply sC | (apply sB; intro _)) h
def xi0j.t {γ:Type} (ret:(Bool)→Option γ) (v0:Int):Option γ :=
 (xi17 (v0) ((1:Int)) ((1000000:Int))).bind fun (r0:Bool) =>
 ret (r0)
theorem xi0j.u:∀ b,xi0j.un (xi0j.mk b)=b:=fun _ => by kernel_rfl
theorem xi0j.eq (v0) {b} (h:xi0j.t some v0=some b):xi0j v0=some b:=eqF xi0j.u Try.f92 (callT_le E tab) rfl rfl rfl (xi0j.t (rR xi0j.mk) v0) (by kernel_rfl) (by unfold xi0j.t; repeat' first | exact sR | exact sN | exact sL | apply sC | (apply sB; intro _)) h
def xi07.t {γ:Type} (ret:(Bool)→Option γ) (v0:List Int):Option γ :=
 (xs01 (v0)).bind fun (r0:Bool) =>
 ret (!r0)
theorem xi07.u:∀ b,xi07.un (xi07.mk b)=b:=fun _ => by kernel_rfl
theorem xi07.eq (v0) {b} (h:xi07.t some v0=some b):xi07 v0=some b:=eqF xi07.u Try.f90 (callT_le E tab) rfl rfl rfl (xi07.t (rR xi07.mk) v0) (by kernel_rfl) (by unfold xi07.t; repeat' first | exact sR | exact sN | exact sL | apply sC | (apply sB; intro _)) h
def xs01.t {γ:Type} (ret:(Bool)→Option γ) (v0:List Int):Option γ :=
 (xs03 (v0)).bind fun (r0:Int) =>
 ret (decide (r0 ≥ (0:Int)))
theorem xs01.u:∀ b,xs01.un (xs01.mk b)=b:=fun _ => by kernel_rfl
theorem xs01.eq (v0) {b} (h:xs01.t some v0=some b):xs01 v0=some b:=eqF xs01.u Try.f98 (callT_le E tab) rfl rfl rfl (xs01.t (rR xs01.mk) v0) (by kernel_rfl) (by unfold xs01.t; repeat' first | exact sR | exact sN | exact sL | apply sC | (apply sB; intro _)) h
def xs03.s2 (v0:List Int) (v1:Int) (v2:Int):List Cell:=vc (.d .fro (.sl (.int .i64)) v0)::vc (.fn 99 [.rp [.fn 92 []] 0])::nn 5 (vc (iL v1)::vc (iL v2)::nn 10 ([]))
def xs03.q2:=fun v0 v1 v2 => loopAtL E (callT E tab) 101 Try.f101 2 [.r,.l,.r,.b] (xs03.s2 v0 v1 v2)
def xs03.l2:=fun v0 v1 v2 => tOf xs03.mk (xs03.q2 v0 v1 v2)
def xs03.t {γ:Type} (ret:(Int)→Option γ) (lp2:(List Int)→Int→Int→Option γ) (v0:List Int):Option γ :=
 lp2 (v0) ((↑v0.length:Int)) ((0:Int))
def xs03.t2 {γ:Type} (ret:(Int)→Option γ) (lp2:(List Int)→Int→Int→Option γ) (v0:List Int) (v1:Int) (v2:Int):Option γ :=
 bif decide (v2<v1) then
 bif decide ((0:Int)≤v2) then
 bif decide (v2.toNat<v0.length) then
 (xi05 (v0.getD v2.toNat (0:Int))).bind fun (r0:Bool) =>
 bif r0 then
 ret (v2)
 else
 lp2 (v0) (v1) (IntKind.i64.wrap (v2+(1:Int)))
 else
 none
 else
 none
 else
 ret ((-1:Int))
theorem xs03.u:∀ b,xs03.un (xs03.mk b)=b:=fun _ => by kernel_rfl
theorem xs03.eq (v0) {b} (h:xs03.t some xs03.l2 v0=some b):xs03 v0=some b:=eqF xs03.u Try.f101 (callT_le E tab) rfl rfl rfl (xs03.t (rR xs03.mk) xs03.q2 v0) (by kernel_rfl) (by unfold xs03.t; repeat' first | exact sR | exact sN | exact sL | apply sC | (apply sB; intro _)) h
theorem xs03.eq2 (v0 v1 v2) {b} (h:xs03.t2 some xs03.l2 v0 v1 v2=some b):xs03.l2 v0 v1 v2=some b:=eqL xs03.u (xs03.t2 (rR xs03.mk) xs03.q2 v0 v1 v2) (by kernel_rfl) (by unfold xs03.t2; repeat' first | exact sR | exact sN | exact sL | apply sC | (apply sB; intro _)) h
def xi05.t {γ:Type} (ret:(Bool)→Option γ) (v0:Int):Option γ :=
 (xi0j (v0)).bind fun (r0:Bool) =>
 ret (!r0)
theorem xi05.u:∀ b,xi05.un (xi05.mk b)=b:=fun _ => by kernel_rfl
theorem xi05.eq (v0) {b} (h:xi05.t some v0=some b):xi05 v0=some b:=eqF xi05.u Try.f99 (callT_le E tab) rfl rfl rfl (xi05.t (rR xi05.mk) v0) (by kernel_rfl) (by unfold xi05.t; repeat' first | exact sR | exact sN | exact sL | apply sC | (apply sB; intro _)) h
def xi0m.t {γ:Type} (ret:(Bool)→Option γ) (v0:List Int) (v1:List Int) (v2:Bool):Option γ :=
 bif (↑v0.length:Int) == (0:Int) then
 bif (↑v1.length:Int) == (0:Int) then
 ret (!v2)
 else
 ret (Bool.false)
 else
 ret (Bool.false)
theorem xi0m.u:∀ b,xi0m.un (xi0m.mk b)=b:=fun _ => by kernel_rfl
theorem xi0m.eq (v0 v1 v2) {b} (h:xi0m.t some v0 v1 v2=some b):xi0m v0 v1 v2=some b:=eqF xi0m.u Try.f70 (callT_le E tab) rfl rfl rfl (xi0m.t (rR xi0m.mk) v0 v1 v2) (by kernel_rfl) (by unfold xi0m.t; repeat' first | exact sR | exact sN | exact sL | apply sC | (apply sB; intro _)) h
def xi1k.s3 (v0:Int) (v1:List Int) (v2:Int) (v3:Int):List Cell:=nn 3 (vc (iL v0)::nn 2 (vc (.d .fro (.sl (.int .i64)) v1)::vc (iL v2)::vc (iL v3)::nn 8 ([])))
def xi1k.q3:=fun v0 v1 v2 v3 => loopAtL E (callT E tab) 67 Try.f67 1 [.r,.r,.l,.r,.b] (xi1k.s3 v0 v1 v2 v3)
def xi1k.l3:=fun v0 v1 v2 v3 => tOf xi1k.mk (xi1k.q3 v0 v1 v2 v3)
def xi1k.t {γ:Type} (ret:(Int)→Option γ) (lp3:Int→(List Int)→Int→Int→Option γ) (v0:List Int):Option γ :=
 lp3 ((0:Int)) (v0) ((↑v0.length:Int)) ((0:Int))
def xi1k.t3 {γ:Type} (ret:(Int)→Option γ) (lp3:Int→(List Int)→Int→Int→Option γ) (v0:Int) (v1:List Int) (v2:Int) (v3:Int):Option γ :=
 bif decide (v3<v2) then
 bif decide ((0:Int)≤v3) then
 bif decide (v3.toNat<v1.length) then
 lp3 (IntKind.i64.wrap (v0+v1.getD v3.toNat (0:Int))) (v1) (v2) (IntKind.i64.wrap (v3+(1:Int)))
 else
 none
 else
 none
 else
 ret (v0)
theorem xi1k.u:∀ b,xi1k.un (xi1k.mk b)=b:=fun _ => by kernel_rfl
theorem xi1k.eq (v0) {b} (h:xi1k.t some xi1k.l3 v0=some b):xi1k v0=some b:=eqF xi1k.u Try.f67 (callT_le E tab) rfl rfl rfl (xi1k.t (rR xi1k.mk) xi1k.q3 v0) (by kernel_rfl) (by unfold xi1k.t; repeat' first | exact sR | exact sN | exact sL | apply sC | (apply sB; intro _)) h
theorem xi1k.eq3 (v0 v1 v2 v3) {b} (h:xi1k.t3 some xi1k.l3 v0 v1 v2 v3=some b):xi1k.l3 v0 v1 v2 v3=some b:=eqL xi1k.u (xi1k.t3 (rR xi1k.mk) xi1k.q3 v0 v1 v2 v3) (by kernel_rfl) (by unfold xi1k.t3; repeat' first | exact sR | exact sN | exact sL | apply sC | (apply sB; intro _)) h
def xi0i.t {γ:Type} (ret:((List (Int × Int × Bool)) × (List (List Int × List Int × Bool)) × Bool)→Option γ) (v0:List (Int × Int × Bool)) (v1:List (List Int × List Int × Bool)) (v2:Int) (v3:Int) (v4:Int) (v5:Int):Option γ :=
 (xi0v (v0) (v1)).bind fun (r0:(List (Int × Int × Bool)) × (List (List Int × List Int × Bool))) =>
 (xi0d (r0.fst) (r0.snd) (v2) (v3) (v4) (v5)).bind fun (r1:Bool × (List (Int × Int × Bool)) × (List (List Int × List Int × Bool))) =>
 bif !r1.fst then
 ret ([],[],Bool.false)
 else
 (xi0u (r1.snd.fst) (r1.snd.snd)).bind fun (r2:Bool) =>
 bif !r2 then
 ret ([],[],Bool.false)
 else
 (xi0v (r1.snd.fst) (r1.snd.snd)).bind fun (r3:(List (Int × Int × Bool)) × (List (List Int × List Int × Bool))) =>
 ret (r3.fst,r3.snd,Bool.true)
theorem xi0i.u:∀ b,xi0i.un (xi0i.mk b)=b:=fun _ => by kernel_rfl
theorem xi0i.eq (v0 v1 v2 v3 v4 v5) {b} (h:xi0i.t some v0 v1 v2 v3 v4 v5=some b):xi0i v0 v1 v2 v3 v4 v5=some b:=eqF xi0i.u Try.f48 (callT_le E tab) rfl rfl rfl (xi0i.t (rR xi0i.mk) v0 v1 v2 v3 v4 v5) (by kernel_rfl) (by unfold xi0i.t; repeat' first | exact sR | exact sN | exact sL | apply sC | (apply sB; intro _)) h
def xi0v.s3 (v0:List (Int × Int × Bool)) (v1:List (List Int × List Int × Bool)) (v2:List (Int × Int × Bool)) (v3:List (List Int × List Int × Bool)) (v4:List (List Int × List Int × Bool)) (v5:Int) (v6:Int):List Cell:=nn 2 (⟨(.box false),[.d .deep Yb v0,.d .deep Ya v1],false,false,false,0,0⟩::⟨(.box false),[.d .deep Yb v2,.d .deep Ya v3],false,false,false,0,0⟩::nn 7 (vc (.d .fro Ya v4)::vc (iL v5)::vc (iL v6)::nn 19 ([])))
def xi0v.q3:=fun v0 v1 v2 v3 v4 v5 v6 => loopAtL E (callT E tab) 57 Try.f57 1 [.r,.r,.l,.r,.b] (xi0v.s3 v0 v1 v2 v3 v4 v5 v6)
def xi0v.l3:=fun v0 v1 v2 v3 v4 v5 v6 => tOf xi0v.mk (xi0v.q3 v0 v1 v2 v3 v4 v5 v6)
def xi0v.t {γ:Type} (ret:((List (Int × Int × Bool)) × (List (List Int × List Int × Bool)))→Option γ) (lp3:(List (Int × Int × Bool))→(List (List Int × List Int × Bool))→(List (Int × Int × Bool))→(List (List Int × List Int × Bool))→(List (List Int × List Int × Bool))→Int→Int→Option γ) (v0:List (Int × Int × Bool)) (v1:List (List Int × List Int × Bool)):Option γ :=
 (xs08 (v0)).bind fun (r0:(List (Int × Int × Bool))) =>
 lp3 ([]) ([]) (r0) ([]) (v1) ((↑v1.length:Int)) ((0:Int))
def xi0v.t3 {γ:Type} (ret:((List (Int × Int × Bool)) × (List (List Int × List Int × Bool)))→Option γ) (lp3:(List (Int × Int × Bool))→(List (List Int × List Int × Bool))→(List (Int × Int × Bool))→(List (List Int × List Int × Bool))→(List (List Int × List Int × Bool))→Int→Int→Option γ) (v0:List (Int × Int × Bool)) (v1:List (List Int × List Int × Bool)) (v2:List (Int × Int × Bool)) (v3:List (List Int × List Int × Bool)) (v4:List (List Int × List Int × Bool)) (v5:Int) (v6:Int):Option γ :=
 bif decide (v6<v5) then
 bif decide ((0:Int)≤v6) then
 bif decide (v6.toNat<v4.length) then
 (xs0a ((v4.getD v6.toNat ([],[],Bool.false)).fst)).bind fun (r1:(List Int)) =>
 (xs0a ((v4.getD v6.toNat ([],[],Bool.false)).snd.fst)).bind fun (r2:(List Int)) =>
 bif decide (v3.length+[(r1,r2,(v4.getD v6.toNat ([],[],Bool.false)).snd.snd)].length≤(4294967296:Nat)) then
 lp3 (v0) (v1) (v2) (v3 ++ [(r1,r2,(v4.getD v6.toNat ([],[],Bool.false)).snd.snd)]) (v4) (v5) (IntKind.i64.wrap (v6+(1:Int)))
 else
 none
 else
 none
 else
 none
 else
 ret (v2,v3)
theorem xi0v.u:∀ b,xi0v.un (xi0v.mk b)=b:=fun _ => by kernel_rfl
theorem xi0v.eq (v0 v1) {b} (h:xi0v.t some xi0v.l3 v0 v1=some b):xi0v v0 v1=some b:=eqF xi0v.u Try.f57 (callT_le E tab) rfl rfl rfl (xi0v.t (rR xi0v.mk) xi0v.q3 v0 v1) (by kernel_rfl) (by unfold xi0v.t; repeat' first | exact sR | exact sN | exact sL | apply sC | (apply sB; intro _)) h
theorem xi0v.eq3 (v0 v1 v2 v3 v4 v5 v6) {b} (h:xi0v.t3 some xi0v.l3 v0 v1 v2 v3 v4 v5 v6=some b):xi0v.l3 v0 v1 v2 v3 v4 v5 v6=some b:=eqL xi0v.u (xi0v.t3 (rR xi0v.mk) xi0v.q3 v0 v1 v2 v3 v4 v5 v6) (by kernel_rfl) (by unfold xi0v.t3; repeat' first | exact sR | exact sN | exact sL | apply sC | (apply sB; intro _)) h
def xs08.t {γ:Type} (ret:((List (Int × Int × Bool)))→Option γ) (v0:List (Int × Int × Bool)):Option γ :=
 bif decide (v0.length≤(4294967296:Nat)) then
 ret (v0)
 else
 none
theorem xs08.k (v0:List (Int × Int × Bool)):extOf 86 (xs08.c v0)=xs08.t (fun b => some (xs08.mk b)) v0:=by kernel_rfl
theorem xs08.eq (v0:List (Int × Int × Bool)) {b:(List (Int × Int × Bool))} (h:xs08.t some v0=some b):xs08 v0=some b:=tOf_intro xs08.un (fun _ => by kernel_rfl) (vlim_ext (g:=extOf 86) rfl ((xs08.k v0).trans ((by unfold xs08.t; repeat' first | exact Sub.ret | exact Sub.none | exact Sub.loop | apply Sub.cond | (apply Sub.bind; intro _):Sub xs08.mk _ _) b h)))
def xs0a.t {γ:Type} (ret:((List Int))→Option γ) (v0:List Int):Option γ :=
 bif decide (v0.length≤(4294967296:Nat)) then
 ret (v0)
 else
 none
theorem xs0a.k (v0:List Int):extOf 87 (xs0a.c v0)=xs0a.t (fun b => some (xs0a.mk b)) v0:=by kernel_rfl
theorem xs0a.eq (v0:List Int) {b:(List Int)} (h:xs0a.t some v0=some b):xs0a v0=some b:=tOf_intro xs0a.un (fun _ => by kernel_rfl) (vlim_ext (g:=extOf 87) rfl ((xs0a.k v0).trans ((by unfold xs0a.t; repeat' first | exact Sub.ret | exact Sub.none | exact Sub.loop | apply Sub.cond | (apply Sub.bind; intro _):Sub xs0a.mk _ _) b h)))
end
end GoV

/- Equations of the program's functions (printed by wip/tools/emit.py). -/
namespace GoV
open Go Go.Proofs
set_option maxRecDepth 100000
noncomputable section

def xi0d.t {γ:Type} (ret:(Bool × (List (Int × Int × Bool)) × (List (List Int × List Int × Bool)))→Option γ) (v0:List (Int × Int × Bool)) (v1:List (List Int × List Int × Bool)) (v2:Int) (v3:Int) (v4:Int) (v5:Int):Option γ :=
 (xi17 (v3) ((0:Int)) (IntKind.i64.wrap ((↑v0.length:Int) - (1:Int)))).bind fun (r0:Bool) =>
 bif !r0 then
 ret (Bool.false,v0,v1)
 else
 bif v2 == (3:Int) then
 bif decide ((0:Int)≤v3) then
 bif decide (v3.toNat<v0.length) then
 bif decide (v3.toNat<v0.length) then
 bif !(v0.getD v3.toNat ((0:Int),(0:Int),Bool.false)).snd.snd then
 (xi0b (v0) (v1) (v3) (v3)).bind fun (r1:Bool × (List (Int × Int × Bool)) × (List (List Int × List Int × Bool))) =>
 ret (r1.fst,r1.snd.fst,r1.snd.snd)
 else
 ret (Bool.false,v0,v1)
 else
 none
 else
 none
 else
 none
 else
 (xi17 (v4) ((0:Int)) (IntKind.i64.wrap ((↑v0.length:Int) - (1:Int)))).bind fun (r2:Bool) =>
 bif !r2 then
 ret (Bool.false,v0,v1)
 else
 bif v4 == v3 then
 ret (Bool.false,v0,v1)
 else
 bif v2 == (1:Int) then
 (xi0c (v0) (v1) (v2) (v3) (v4) (v5)).bind fun (r3:Bool × (List (Int × Int × Bool)) × (List (List Int × List Int × Bool))) =>
 ret (r3.fst,r3.snd.fst,r3.snd.snd)
 else
 bif v2 == (2:Int) then
 (xi0e (v0) (v1) (v3) (v4)).bind fun (r4:Bool × (List (Int × Int × Bool)) × (List (List Int × List Int × Bool))) =>
 ret (r4.fst,r4.snd.fst,r4.snd.snd)
 else
 ret (Bool.false,v0,v1)
theorem xi0d.u:∀ b,xi0d.un (xi0d.mk b)=b:=fun _ => by kernel_rfl
theorem xi0d.eq (v0 v1 v2 v3 v4 v5) {b} (h:xi0d.t some v0 v1 v2 v3 v4 v5=some b):xi0d v0 v1 v2 v3 v4 v5=some b:=eqF xi0d.u Try.f81 (callT_le E tab) rfl rfl rfl (xi0d.t (rR xi0d.mk) v0 v1 v2 v3 v4 v5) (by kernel_rfl) (by unfold xi0d.t; repeat' first | exact sR | exact sN | exact sL | apply sC | (apply sB; intro _)) h
def xi0b.s4 (v0:List (Int × Int × Bool)) (v1:List (List Int × List Int × Bool)) (v2:Int) (v3:Int) (v4:Int) (v5:Int):List Cell:=⟨(.val .agg),[.d .deep Yb v0,.d .deep Ya v1],true,false,false,0,0⟩::vc (iL v2)::vc (iL v3)::⟨(.box false),[.lent ⟨0,0,none⟩ none,.lent ⟨0,1,none⟩ none],false,false,false,0,0⟩::nn 22 (vc (iL v4)::vc (iL v5)::nn 34 ([]))
def xi0b.q4:=fun v0 v1 v2 v3 v4 v5 => loopAtL E (callT E tab) 95 Try.f95 3 [.r,.r,.r,.l,.r,.b] (xi0b.s4 v0 v1 v2 v3 v4 v5)
def xi0b.l4:=fun v0 v1 v2 v3 v4 v5 => tOf xi0b.mk (xi0b.q4 v0 v1 v2 v3 v4 v5)
def xi0b.t {γ:Type} (ret:(Bool × (List (Int × Int × Bool)) × (List (List Int × List Int × Bool)))→Option γ) (lp4:(List (Int × Int × Bool))→(List (List Int × List Int × Bool))→Int→Int→Int→Int→Option γ) (v0:List (Int × Int × Bool)) (v1:List (List Int × List Int × Bool)) (v2:Int) (v3:Int):Option γ :=
 bif decide ((0:Int)≤v2) then
 bif decide (v2.toNat<v0.length) then
 bif decide (v2.toNat<v0.length) then
 bif decide (v2.toNat<v0.length) then
 bif decide   (v2.toNat<    (v0.set v2.toNat         ((v0.getD v2.toNat ((0:Int),(0:Int),Bool.false)).fst,          (v0.getD v2.toNat ((0:Int),(0:Int),Bool.false)).fst,          (v0.getD v2.toNat ((0:Int),(0:Int),Bool.false)).snd.snd)).length) then
 lp4 ((v0.set v2.toNat       ((v0.getD v2.toNat ((0:Int),(0:Int),Bool.false)).fst,        (v0.getD v2.toNat ((0:Int),(0:Int),Bool.false)).fst,        (v0.getD v2.toNat ((0:Int),(0:Int),Bool.false)).snd.snd)).set   v2.toNat   (((v0.set v2.toNat             ((v0.getD v2.toNat ((0:Int),(0:Int),Bool.false)).fst,              (v0.getD v2.toNat ((0:Int),(0:Int),Bool.false)).fst,              (v0.getD v2.toNat ((0:Int),(0:Int),Bool.false)).snd.snd)).getD         v2.toNat ((0:Int),(0:Int),Bool.false)).fst,    ((v0.set v2.toNat               ((v0.getD v2.toNat ((0:Int),(0:Int),Bool.false)).fst,                (v0.getD v2.toNat ((0:Int),(0:Int),Bool.false)).fst,                (v0.getD v2.toNat ((0:Int),(0:Int),Bool.false)).snd.snd)).getD           v2.toNat ((0:Int),(0:Int),Bool.false)).snd.fst,    Bool.true)) (v1) (v2) (v3) ((↑((v0.set v2.toNat             ((v0.getD v2.toNat ((0:Int),(0:Int),Bool.false)).fst,              (v0.getD v2.toNat ((0:Int),(0:Int),Bool.false)).fst,              (v0.getD v2.toNat ((0:Int),(0:Int),Bool.false)).snd.snd)).set         v2.toNat         (((v0.set v2.toNat                   ((v0.getD v2.toNat ((0:Int),(0:Int),Bool.false)).fst,                    (v0.getD v2.toNat ((0:Int),(0:Int),Bool.false)).fst,                    (v0.getD v2.toNat ((0:Int),(0:Int),Bool.false)).snd.snd)).getD               v2.toNat ((0:Int),(0:Int),Bool.false)).fst,          ((v0.set v2.toNat                     ((v0.getD v2.toNat ((0:Int),(0:Int),Bool.false)).fst,                      (v0.getD v2.toNat ((0:Int),(0:Int),Bool.false)).fst,                      (v0.getD v2.toNat ((0:Int),(0:Int),Bool.false)).snd.snd)).getD                 v2.toNat ((0:Int),(0:Int),Bool.false)).snd.fst,          Bool.true)).length:  Int)) ((0:Int))
 else
 none
 else
 none
 else
 none
 else
 none
 else
 none
def xi0b.t4 {γ:Type} (ret:(Bool × (List (Int × Int × Bool)) × (List (List Int × List Int × Bool)))→Option γ) (lp4:(List (Int × Int × Bool))→(List (List Int × List Int × Bool))→Int→Int→Int→Int→Option γ) (v0:List (Int × Int × Bool)) (v1:List (List Int × List Int × Bool)) (v2:Int) (v3:Int) (v4:Int) (v5:Int):Option γ :=
 bif decide (v5<v4) then
 bif v5 == v2 then
 lp4 (v0) (v1) (v2) (v3) (v4) (IntKind.i64.wrap (v5+(1:Int)))
 else
 bif decide ((0:Int)≤IntKind.i64.wrap (IntKind.i64.wrap (v5 * (↑v0.length:Int))+v2)) then
 bif decide ((IntKind.i64.wrap (IntKind.i64.wrap (v5 * (↑v0.length:Int))+v2)).toNat<v1.length) then
 bif decide ((IntKind.i64.wrap (IntKind.i64.wrap (v5 * (↑v0.length:Int))+v2)).toNat<v1.length) then
 bif decide ((0:Int)≤IntKind.i64.wrap (IntKind.i64.wrap (v2 * (↑v0.length:Int))+v5)) then
 bif decide   ((IntKind.i64.wrap (IntKind.i64.wrap (v2 * (↑v0.length:Int))+v5)).toNat<    (v1.set (IntKind.i64.wrap (IntKind.i64.wrap (v5 * (↑v0.length:Int))+v2)).toNat         ((v1.getD (IntKind.i64.wrap (IntKind.i64.wrap (v5 * (↑v0.length:Int))+v2)).toNat               ([],[],Bool.false)).fst,          (v1.getD (IntKind.i64.wrap (IntKind.i64.wrap (v5 * (↑v0.length:Int))+v2)).toNat                 ([],[],Bool.false)).snd.fst,          v5 != v3)).length) then
 bif decide   ((IntKind.i64.wrap (IntKind.i64.wrap (v2 * (↑v0.length:Int))+v5)).toNat<    (v1.set (IntKind.i64.wrap (IntKind.i64.wrap (v5 * (↑v0.length:Int))+v2)).toNat         ((v1.getD (IntKind.i64.wrap (IntKind.i64.wrap (v5 * (↑v0.length:Int))+v2)).toNat               ([],[],Bool.false)).fst,          (v1.getD (IntKind.i64.wrap (IntKind.i64.wrap (v5 * (↑v0.length:Int))+v2)).toNat                 ([],[],Bool.false)).snd.fst,          v5 != v3)).length) then
 bif decide   ((IntKind.i64.wrap (IntKind.i64.wrap (v2 * (↑v0.length:Int))+v5)).toNat<    (v1.set (IntKind.i64.wrap (IntKind.i64.wrap (v5 * (↑v0.length:Int))+v2)).toNat         ((v1.getD (IntKind.i64.wrap (IntKind.i64.wrap (v5 * (↑v0.length:Int))+v2)).toNat               ([],[],Bool.false)).fst,          (v1.getD (IntKind.i64.wrap (IntKind.i64.wrap (v5 * (↑v0.length:Int))+v2)).toNat                 ([],[],Bool.false)).snd.fst,          v5 != v3)).length) then
 bif (↑((v1.set (IntKind.i64.wrap (IntKind.i64.wrap (v5 * (↑v0.length:Int))+v2)).toNat                 ((v1.getD (IntKind.i64.wrap (IntKind.i64.wrap (v5 * (↑v0.length:Int))+v2)).toNat                       ([],[],Bool.false)).fst,                  (v1.getD (IntKind.i64.wrap (IntKind.i64.wrap (v5 * (↑v0.length:Int))+v2)).toNat                         ([],[],Bool.false)).snd.fst,                  v5 != v3)).getD             (IntKind.i64.wrap (IntKind.i64.wrap (v2 * (↑v0.length:Int))+v5)).toNat             ([],[],Bool.false)).fst.length:    Int) ==   (12:Int) then
 ret (Bool.false,v0,v1.set (IntKind.i64.wrap (IntKind.i64.wrap (v5 * (↑v0.length:Int))+v2)).toNat   ((v1.getD (IntKind.i64.wrap (IntKind.i64.wrap (v5 * (↑v0.length:Int))+v2)).toNat ([],[],Bool.false)).fst,    (v1.getD (IntKind.i64.wrap (IntKind.i64.wrap (v5 * (↑v0.length:Int))+v2)).toNat           ([],[],Bool.false)).snd.fst,    v5 != v3))
 else
 bif decide   ((IntKind.i64.wrap (IntKind.i64.wrap (v2 * (↑v0.length:Int))+v5)).toNat<    (v1.set (IntKind.i64.wrap (IntKind.i64.wrap (v5 * (↑v0.length:Int))+v2)).toNat         ((v1.getD (IntKind.i64.wrap (IntKind.i64.wrap (v5 * (↑v0.length:Int))+v2)).toNat               ([],[],Bool.false)).fst,          (v1.getD (IntKind.i64.wrap (IntKind.i64.wrap (v5 * (↑v0.length:Int))+v2)).toNat                 ([],[],Bool.false)).snd.fst,          v5 != v3)).length) then
 bif decide   ((IntKind.i64.wrap (IntKind.i64.wrap (v2 * (↑v0.length:Int))+v5)).toNat<    (v1.set (IntKind.i64.wrap (IntKind.i64.wrap (v5 * (↑v0.length:Int))+v2)).toNat         ((v1.getD (IntKind.i64.wrap (IntKind.i64.wrap (v5 * (↑v0.length:Int))+v2)).toNat               ([],[],Bool.false)).fst,          (v1.getD (IntKind.i64.wrap (IntKind.i64.wrap (v5 * (↑v0.length:Int))+v2)).toNat                 ([],[],Bool.false)).snd.fst,          v5 != v3)).length) then
 bif decide   (((v1.set (IntKind.i64.wrap (IntKind.i64.wrap (v5 * (↑v0.length:Int))+v2)).toNat                 ((v1.getD (IntKind.i64.wrap (IntKind.i64.wrap (v5 * (↑v0.length:Int))+v2)).toNat                       ([],[],Bool.false)).fst,                  (v1.getD (IntKind.i64.wrap (IntKind.i64.wrap (v5 * (↑v0.length:Int))+v2)).toNat                         ([],[],Bool.false)).snd.fst,                  v5 != v3)).getD             (IntKind.i64.wrap (IntKind.i64.wrap (v2 * (↑v0.length:Int))+v5)).toNat             ([],[],Bool.false)).fst.length+      [(0:Int)].length≤    (4294967296:Nat)) then
 bif decide   ((IntKind.i64.wrap (IntKind.i64.wrap (v2 * (↑v0.length:Int))+v5)).toNat=    (IntKind.i64.wrap (IntKind.i64.wrap (v2 * (↑v0.length:Int))+v5)).toNat) then
 bif decide   ((IntKind.i64.wrap (IntKind.i64.wrap (v2 * (↑v0.length:Int))+v5)).toNat<    (v1.set (IntKind.i64.wrap (IntKind.i64.wrap (v5 * (↑v0.length:Int))+v2)).toNat         ((v1.getD (IntKind.i64.wrap (IntKind.i64.wrap (v5 * (↑v0.length:Int))+v2)).toNat               ([],[],Bool.false)).fst,          (v1.getD (IntKind.i64.wrap (IntKind.i64.wrap (v5 * (↑v0.length:Int))+v2)).toNat                 ([],[],Bool.false)).snd.fst,          v5 != v3)).length) then
 lp4 (v0) ((v1.set (IntKind.i64.wrap (IntKind.i64.wrap (v5 * (↑v0.length:Int))+v2)).toNat       ((v1.getD (IntKind.i64.wrap (IntKind.i64.wrap (v5 * (↑v0.length:Int))+v2)).toNat             ([],[],Bool.false)).fst,        (v1.getD (IntKind.i64.wrap (IntKind.i64.wrap (v5 * (↑v0.length:Int))+v2)).toNat               ([],[],Bool.false)).snd.fst,        v5 != v3)).set   (IntKind.i64.wrap (IntKind.i64.wrap (v2 * (↑v0.length:Int))+v5)).toNat   (((v1.set (IntKind.i64.wrap (IntKind.i64.wrap (v5 * (↑v0.length:Int))+v2)).toNat               ((v1.getD (IntKind.i64.wrap (IntKind.i64.wrap (v5 * (↑v0.length:Int))+v2)).toNat                     ([],[],Bool.false)).fst,                (v1.getD (IntKind.i64.wrap (IntKind.i64.wrap (v5 * (↑v0.length:Int))+v2)).toNat                       ([],[],Bool.false)).snd.fst,                v5 != v3)).getD           (IntKind.i64.wrap (IntKind.i64.wrap (v2 * (↑v0.length:Int))+v5)).toNat ([],[],Bool.false)).fst ++       [(0:Int)],    ((v1.set (IntKind.i64.wrap (IntKind.i64.wrap (v5 * (↑v0.length:Int))+v2)).toNat             ((v1.getD (IntKind.i64.wrap (IntKind.i64.wrap (v5 * (↑v0.length:Int))+v2)).toNat                   ([],[],Bool.false)).fst,              (v1.getD (IntKind.i64.wrap (IntKind.i64.wrap (v5 * (↑v0.length:Int))+v2)).toNat                     ([],[],Bool.false)).snd.fst,              v5 != v3)).getD         (IntKind.i64.wrap (IntKind.i64.wrap (v2 * (↑v0.length:Int))+v5)).toNat ([],[],Bool.false)).snd)) (v2) (v3) (v4) (IntKind.i64.wrap (v5+(1:Int)))
 else
 none
 else
 none
 else
 none
 else
 none
 else
 none
 else
 none
 else
 none
 else
 none
 else
 none
 else
 none
 else
 none
 else
 none
 else
 ret (Bool.true,v0,v1)
theorem xi0b.u:∀ b,xi0b.un (xi0b.mk b)=b:=fun _ => by kernel_rfl
theorem xi0b.eq (v0 v1 v2 v3) {b} (h:xi0b.t some xi0b.l4 v0 v1 v2 v3=some b):xi0b v0 v1 v2 v3=some b:=eqF xi0b.u Try.f95 (callT_le E tab) rfl rfl rfl (xi0b.t (rR xi0b.mk) xi0b.q4 v0 v1 v2 v3) (by kernel_rfl) (by unfold xi0b.t; repeat' first | exact sR | exact sN | exact sL | apply sC | (apply sB; intro _)) h
theorem xi0b.eq4 (v0 v1 v2 v3 v4 v5) {b} (h:xi0b.t4 some xi0b.l4 v0 v1 v2 v3 v4 v5=some b):xi0b.l4 v0 v1 v2 v3 v4 v5=some b:=eqL xi0b.u (xi0b.t4 (rR xi0b.mk) xi0b.q4 v0 v1 v2 v3 v4 v5) (by kernel_rfl) (by unfold xi0b.t4; repeat' first | exact sR | exact sN | exact sL | apply sC | (apply sB; intro _)) h
def xi0c.t {γ:Type} (ret:(Bool × (List (Int × Int × Bool)) × (List (List Int × List Int × Bool)))→Option γ) (v0:List (Int × Int × Bool)) (v1:List (List Int × List Int × Bool)) (v2:Int) (v3:Int) (v4:Int) (v5:Int):Option γ :=
 bif decide ((0:Int)≤IntKind.i64.wrap (IntKind.i64.wrap (v3 * (↑v0.length:Int))+v4)) then
 bif decide ((IntKind.i64.wrap (IntKind.i64.wrap (v3 * (↑v0.length:Int))+v4)).toNat<v1.length) then
 bif decide ((0:Int)≤v3) then
 bif decide (v3.toNat<v0.length) then
 bif decide (v3.toNat<v0.length) then
 (xi17 (v5) ((1:Int)) (if Bool.true=Bool.true then   if (1000000:Int)<(v0.getD v3.toNat ((0:Int),(0:Int),Bool.false)).fst then (1000000:Int)   else (v0.getD v3.toNat ((0:Int),(0:Int),Bool.false)).fst else   if (1000000:Int) > (v0.getD v3.toNat ((0:Int),(0:Int),Bool.false)).fst then (1000000:Int)   else (v0.getD v3.toNat ((0:Int),(0:Int),Bool.false)).fst)).bind fun (r0:Bool) =>
 bif !r0 then
 ret (Bool.false,v0,v1)
 else
 bif decide ((IntKind.i64.wrap (IntKind.i64.wrap (v3 * (↑v0.length:Int))+v4)).toNat<v1.length) then
 bif decide ((IntKind.i64.wrap (IntKind.i64.wrap (v3 * (↑v0.length:Int))+v4)).toNat<v1.length) then
 bif (↑(v1.getD (IntKind.i64.wrap (IntKind.i64.wrap (v3 * (↑v0.length:Int))+v4)).toNat             ([],[],Bool.false)).fst.length:    Int) ==   (12:Int) then
 ret (Bool.false,v0,v1)
 else
 bif decide ((0:Int)≤v3) then
 bif decide (v3.toNat<v0.length) then
 bif decide (v3.toNat<v0.length) then
 bif decide ((0:Int)≤v3) then
 bif decide (v3.toNat<v0.length) then
 bif decide (v3.toNat<v0.length) then
 bif decide ((IntKind.i64.wrap (IntKind.i64.wrap (v3 * (↑v0.length:Int))+v4)).toNat<v1.length) then
 bif decide ((IntKind.i64.wrap (IntKind.i64.wrap (v3 * (↑v0.length:Int))+v4)).toNat<v1.length) then
 bif decide   ((v1.getD (IntKind.i64.wrap (IntKind.i64.wrap (v3 * (↑v0.length:Int))+v4)).toNat             ([],[],Bool.false)).fst.length+      [v5].length≤    (4294967296:Nat)) then
 bif decide   ((IntKind.i64.wrap (IntKind.i64.wrap (v3 * (↑v0.length:Int))+v4)).toNat=    (IntKind.i64.wrap (IntKind.i64.wrap (v3 * (↑v0.length:Int))+v4)).toNat) then
 bif decide ((IntKind.i64.wrap (IntKind.i64.wrap (v3 * (↑v0.length:Int))+v4)).toNat<v1.length) then
 ret (Bool.true,v0.set v3.toNat   (IntKind.i64.wrap ((v0.getD v3.toNat ((0:Int),(0:Int),Bool.false)).fst - v5),    (v0.getD v3.toNat ((0:Int),(0:Int),Bool.false)).snd),v1.set (IntKind.i64.wrap (IntKind.i64.wrap (v3 * (↑v0.length:Int))+v4)).toNat   ((v1.getD (IntKind.i64.wrap (IntKind.i64.wrap (v3 * (↑v0.length:Int))+v4)).toNat           ([],[],Bool.false)).fst ++       [v5],    (v1.getD (IntKind.i64.wrap (IntKind.i64.wrap (v3 * (↑v0.length:Int))+v4)).toNat ([],[],Bool.false)).snd))
 else
 none
 else
 none
 else
 none
 else
 none
 else
 none
 else
 none
 else
 none
 else
 none
 else
 none
 else
 none
 else
 none
 else
 none
 else
 none
 else
 none
 else
 none
 else
 none
 else
 none
 else
 none
theorem xi0c.u:∀ b,xi0c.un (xi0c.mk b)=b:=fun _ => by kernel_rfl
theorem xi0c.eq (v0 v1 v2 v3 v4 v5) {b} (h:xi0c.t some v0 v1 v2 v3 v4 v5=some b):xi0c v0 v1 v2 v3 v4 v5=some b:=eqF xi0c.u Try.f96 (callT_le E tab) rfl rfl rfl (xi0c.t (rR xi0c.mk) v0 v1 v2 v3 v4 v5) (by kernel_rfl) (by unfold xi0c.t; repeat' first | exact sR | exact sN | exact sL | apply sC | (apply sB; intro _)) h
def xi0e.t {γ:Type} (ret:(Bool × (List (Int × Int × Bool)) × (List (List Int × List Int × Bool)))→Option γ) (v0:List (Int × Int × Bool)) (v1:List (List Int × List Int × Bool)) (v2:Int) (v3:Int):Option γ :=
 bif decide ((0:Int)≤IntKind.i64.wrap (IntKind.i64.wrap (v2 * (↑v0.length:Int))+v3)) then
 bif decide ((IntKind.i64.wrap (IntKind.i64.wrap (v2 * (↑v0.length:Int))+v3)).toNat<v1.length) then
 bif decide ((IntKind.i64.wrap (IntKind.i64.wrap (v2 * (↑v0.length:Int))+v3)).toNat<v1.length) then
 bif decide ((IntKind.i64.wrap (IntKind.i64.wrap (v2 * (↑v0.length:Int))+v3)).toNat<v1.length) then
 bif (↑(v1.getD (IntKind.i64.wrap (IntKind.i64.wrap (v2 * (↑v0.length:Int))+v3)).toNat             ([],[],Bool.false)).fst.length:    Int) ==   (0:Int) then
 ret (Bool.false,v0,v1)
 else
 bif decide ((IntKind.i64.wrap (IntKind.i64.wrap (v2 * (↑v0.length:Int))+v3)).toNat<v1.length) then
 bif decide ((IntKind.i64.wrap (IntKind.i64.wrap (v2 * (↑v0.length:Int))+v3)).toNat<v1.length) then
 bif decide   ((↑(v1.getD (IntKind.i64.wrap (IntKind.i64.wrap (v2 * (↑v0.length:Int))+v3)).toNat                 ([],[],Bool.false)).snd.fst.length:      Int) ≥     (200:Int)) then
 ret (Bool.false,v0,v1)
 else
 bif decide ((IntKind.i64.wrap (IntKind.i64.wrap (v2 * (↑v0.length:Int))+v3)).toNat<v1.length) then
 bif decide ((IntKind.i64.wrap (IntKind.i64.wrap (v2 * (↑v0.length:Int))+v3)).toNat<v1.length) then
 bif decide   (Int.toNat (0:Int)<    (v1.getD (IntKind.i64.wrap (IntKind.i64.wrap (v2 * (↑v0.length:Int))+v3)).toNat           ([],[],Bool.false)).fst.length) then
 bif decide ((IntKind.i64.wrap (IntKind.i64.wrap (v2 * (↑v0.length:Int))+v3)).toNat<v1.length) then
 bif decide   (Int.toNat (0:Int)<    (v1.getD (IntKind.i64.wrap (IntKind.i64.wrap (v2 * (↑v0.length:Int))+v3)).toNat           ([],[],Bool.false)).fst.length) then
 bif decide ((IntKind.i64.wrap (IntKind.i64.wrap (v2 * (↑v0.length:Int))+v3)).toNat<v1.length) then
 bif decide ((IntKind.i64.wrap (IntKind.i64.wrap (v2 * (↑v0.length:Int))+v3)).toNat<v1.length) then
 bif decide ((IntKind.i64.wrap (IntKind.i64.wrap (v2 * (↑v0.length:Int))+v3)).toNat<v1.length) then
 bif decide   ((Option.some (1:Int)).getD (0:Int)≤    (↑(v1.getD (IntKind.i64.wrap (IntKind.i64.wrap (v2 * (↑v0.length:Int))+v3)).toNat               ([],[],Bool.false)).fst.length:      Int)) then
 bif decide ((IntKind.i64.wrap (IntKind.i64.wrap (v2 * (↑v0.length:Int))+v3)).toNat<v1.length) then
 bif decide   ((IntKind.i64.wrap (IntKind.i64.wrap (v2 * (↑v0.length:Int))+v3)).toNat=    (IntKind.i64.wrap (IntKind.i64.wrap (v2 * (↑v0.length:Int))+v3)).toNat) then
 bif decide ((IntKind.i64.wrap (IntKind.i64.wrap (v2 * (↑v0.length:Int))+v3)).toNat<v1.length) then
 bif (v1.getD (IntKind.i64.wrap (IntKind.i64.wrap (v2 * (↑v0.length:Int))+v3)).toNat ([],[],Bool.false)).fst.getD     (Int.toNat (0:Int)) (0:Int) !=   (0:Int) then
 bif decide ((0:Int)≤v3) then
 bif decide (v3.toNat<v0.length) then
 bif decide (v3.toNat<v0.length) then
 bif decide ((0:Int)≤v3) then
 bif decide (v3.toNat<v0.length) then
 bif decide (v3.toNat<v0.length) then
 bif decide   ((IntKind.i64.wrap (IntKind.i64.wrap (v2 * (↑v0.length:Int))+v3)).toNat<    (v1.set (IntKind.i64.wrap (IntKind.i64.wrap (v2 * (↑v0.length:Int))+v3)).toNat         (List.drop ((Option.some (1:Int)).getD (0:Int)).toNat             (v1.getD (IntKind.i64.wrap (IntKind.i64.wrap (v2 * (↑v0.length:Int))+v3)).toNat                 ([],[],Bool.false)).fst,          (v1.getD (IntKind.i64.wrap (IntKind.i64.wrap (v2 * (↑v0.length:Int))+v3)).toNat               ([],[],Bool.false)).snd)).length) then
 bif ((v1.set (IntKind.i64.wrap (IntKind.i64.wrap (v2 * (↑v0.length:Int))+v3)).toNat           (List.drop ((Option.some (1:Int)).getD (0:Int)).toNat               (v1.getD (IntKind.i64.wrap (IntKind.i64.wrap (v2 * (↑v0.length:Int))+v3)).toNat                   ([],[],Bool.false)).fst,            (v1.getD (IntKind.i64.wrap (IntKind.i64.wrap (v2 * (↑v0.length:Int))+v3)).toNat                 ([],[],Bool.false)).snd)).getD       (IntKind.i64.wrap (IntKind.i64.wrap (v2 * (↑v0.length:Int))+v3)).toNat ([],[],Bool.false)).snd.snd then
 bif decide   ((IntKind.i64.wrap (IntKind.i64.wrap (v2 * (↑v0.length:Int))+v3)).toNat<    (v1.set (IntKind.i64.wrap (IntKind.i64.wrap (v2 * (↑v0.length:Int))+v3)).toNat         (List.drop ((Option.some (1:Int)).getD (0:Int)).toNat             (v1.getD (IntKind.i64.wrap (IntKind.i64.wrap (v2 * (↑v0.length:Int))+v3)).toNat                 ([],[],Bool.false)).fst,          (v1.getD (IntKind.i64.wrap (IntKind.i64.wrap (v2 * (↑v0.length:Int))+v3)).toNat               ([],[],Bool.false)).snd)).length) then
 bif decide   ((IntKind.i64.wrap (IntKind.i64.wrap (v2 * (↑v0.length:Int))+v3)).toNat<    (v1.set (IntKind.i64.wrap (IntKind.i64.wrap (v2 * (↑v0.length:Int))+v3)).toNat         (List.drop ((Option.some (1:Int)).getD (0:Int)).toNat             (v1.getD (IntKind.i64.wrap (IntKind.i64.wrap (v2 * (↑v0.length:Int))+v3)).toNat                 ([],[],Bool.false)).fst,          (v1.getD (IntKind.i64.wrap (IntKind.i64.wrap (v2 * (↑v0.length:Int))+v3)).toNat               ([],[],Bool.false)).snd)).length) then
 bif decide   (((v1.set (IntKind.i64.wrap (IntKind.i64.wrap (v2 * (↑v0.length:Int))+v3)).toNat                   (List.drop ((Option.some (1:Int)).getD (0:Int)).toNat                       (v1.getD (IntKind.i64.wrap (IntKind.i64.wrap (v2 * (↑v0.length:Int))+v3)).toNat                           ([],[],Bool.false)).fst,                    (v1.getD (IntKind.i64.wrap (IntKind.i64.wrap (v2 * (↑v0.length:Int))+v3)).toNat                         ([],[],Bool.false)).snd)).getD               (IntKind.i64.wrap (IntKind.i64.wrap (v2 * (↑v0.length:Int))+v3)).toNat               ([],[],Bool.false)).snd.fst.length+      [(v1.getD (IntKind.i64.wrap (IntKind.i64.wrap (v2 * (↑v0.length:Int))+v3)).toNat                   ([],[],Bool.false)).fst.getD             (Int.toNat (0:Int)) (0:Int)].length≤    (4294967296:Nat)) then
 bif decide   ((IntKind.i64.wrap (IntKind.i64.wrap (v2 * (↑v0.length:Int))+v3)).toNat=    (IntKind.i64.wrap (IntKind.i64.wrap (v2 * (↑v0.length:Int))+v3)).toNat) then
 bif decide   ((IntKind.i64.wrap (IntKind.i64.wrap (v2 * (↑v0.length:Int))+v3)).toNat<    (v1.set (IntKind.i64.wrap (IntKind.i64.wrap (v2 * (↑v0.length:Int))+v3)).toNat         (List.drop ((Option.some (1:Int)).getD (0:Int)).toNat             (v1.getD (IntKind.i64.wrap (IntKind.i64.wrap (v2 * (↑v0.length:Int))+v3)).toNat                 ([],[],Bool.false)).fst,          (v1.getD (IntKind.i64.wrap (IntKind.i64.wrap (v2 * (↑v0.length:Int))+v3)).toNat               ([],[],Bool.false)).snd)).length) then
 ret (Bool.true,v0.set v3.toNat   (IntKind.i64.wrap       ((v0.getD v3.toNat ((0:Int),(0:Int),Bool.false)).fst+        (v1.getD (IntKind.i64.wrap (IntKind.i64.wrap (v2 * (↑v0.length:Int))+v3)).toNat                 ([],[],Bool.false)).fst.getD           (Int.toNat (0:Int)) (0:Int)),    (v0.getD v3.toNat ((0:Int),(0:Int),Bool.false)).snd),(v1.set (IntKind.i64.wrap (IntKind.i64.wrap (v2 * (↑v0.length:Int))+v3)).toNat       (List.drop ((Option.some (1:Int)).getD (0:Int)).toNat           (v1.getD (IntKind.i64.wrap (IntKind.i64.wrap (v2 * (↑v0.length:Int))+v3)).toNat               ([],[],Bool.false)).fst,        (v1.getD (IntKind.i64.wrap (IntKind.i64.wrap (v2 * (↑v0.length:Int))+v3)).toNat             ([],[],Bool.false)).snd)).set   (IntKind.i64.wrap (IntKind.i64.wrap (v2 * (↑v0.length:Int))+v3)).toNat   (((v1.set (IntKind.i64.wrap (IntKind.i64.wrap (v2 * (↑v0.length:Int))+v3)).toNat             (List.drop ((Option.some (1:Int)).getD (0:Int)).toNat                 (v1.getD (IntKind.i64.wrap (IntKind.i64.wrap (v2 * (↑v0.length:Int))+v3)).toNat                     ([],[],Bool.false)).fst,              (v1.getD (IntKind.i64.wrap (IntKind.i64.wrap (v2 * (↑v0.length:Int))+v3)).toNat                   ([],[],Bool.false)).snd)).getD         (IntKind.i64.wrap (IntKind.i64.wrap (v2 * (↑v0.length:Int))+v3)).toNat ([],[],Bool.false)).fst,    ((v1.set (IntKind.i64.wrap (IntKind.i64.wrap (v2 * (↑v0.length:Int))+v3)).toNat                 (List.drop ((Option.some (1:Int)).getD (0:Int)).toNat                     (v1.getD (IntKind.i64.wrap (IntKind.i64.wrap (v2 * (↑v0.length:Int))+v3)).toNat                         ([],[],Bool.false)).fst,                  (v1.getD (IntKind.i64.wrap (IntKind.i64.wrap (v2 * (↑v0.length:Int))+v3)).toNat                       ([],[],Bool.false)).snd)).getD             (IntKind.i64.wrap (IntKind.i64.wrap (v2 * (↑v0.length:Int))+v3)).toNat             ([],[],Bool.false)).snd.fst ++       [(v1.getD (IntKind.i64.wrap (IntKind.i64.wrap (v2 * (↑v0.length:Int))+v3)).toNat                 ([],[],Bool.false)).fst.getD           (Int.toNat (0:Int)) (0:Int)],    ((v1.set (IntKind.i64.wrap (IntKind.i64.wrap (v2 * (↑v0.length:Int))+v3)).toNat               (List.drop ((Option.some (1:Int)).getD (0:Int)).toNat                   (v1.getD (IntKind.i64.wrap (IntKind.i64.wrap (v2 * (↑v0.length:Int))+v3)).toNat                       ([],[],Bool.false)).fst,                (v1.getD (IntKind.i64.wrap (IntKind.i64.wrap (v2 * (↑v0.length:Int))+v3)).toNat                     ([],[],Bool.false)).snd)).getD           (IntKind.i64.wrap (IntKind.i64.wrap (v2 * (↑v0.length:Int))+v3)).toNat           ([],[],Bool.false)).snd.snd))
 else
 none
 else
 none
 else
 none
 else
 none
 else
 none
 else
 ret (Bool.true,v0.set v3.toNat   (IntKind.i64.wrap       ((v0.getD v3.toNat ((0:Int),(0:Int),Bool.false)).fst+        (v1.getD (IntKind.i64.wrap (IntKind.i64.wrap (v2 * (↑v0.length:Int))+v3)).toNat                 ([],[],Bool.false)).fst.getD           (Int.toNat (0:Int)) (0:Int)),    (v0.getD v3.toNat ((0:Int),(0:Int),Bool.false)).snd),v1.set (IntKind.i64.wrap (IntKind.i64.wrap (v2 * (↑v0.length:Int))+v3)).toNat   (List.drop ((Option.some (1:Int)).getD (0:Int)).toNat       (v1.getD (IntKind.i64.wrap (IntKind.i64.wrap (v2 * (↑v0.length:Int))+v3)).toNat           ([],[],Bool.false)).fst,    (v1.getD (IntKind.i64.wrap (IntKind.i64.wrap (v2 * (↑v0.length:Int))+v3)).toNat ([],[],Bool.false)).snd))
 else
 none
 else
 none
 else
 none
 else
 none
 else
 none
 else
 none
 else
 none
 else
 bif decide ((0:Int)≤v3) then
 bif decide (v3.toNat<v0.length) then
 bif decide (v3.toNat<v0.length) then
 bif !(v0.getD v3.toNat ((0:Int),(0:Int),Bool.false)).snd.snd then
 (xi0b (v0) (v1.set (IntKind.i64.wrap (IntKind.i64.wrap (v2 * (↑v0.length:Int))+v3)).toNat   (List.drop ((Option.some (1:Int)).getD (0:Int)).toNat       (v1.getD (IntKind.i64.wrap (IntKind.i64.wrap (v2 * (↑v0.length:Int))+v3)).toNat           ([],[],Bool.false)).fst,    (v1.getD (IntKind.i64.wrap (IntKind.i64.wrap (v2 * (↑v0.length:Int))+v3)).toNat ([],[],Bool.false)).snd)) (v3) (v2)).bind fun (r0:Bool × (List (Int × Int × Bool)) × (List (List Int × List Int × Bool))) =>
 ret (r0.fst,r0.snd.fst,r0.snd.snd)
 else
 bif decide   ((IntKind.i64.wrap (IntKind.i64.wrap (v2 * (↑v0.length:Int))+v3)).toNat<    (v1.set (IntKind.i64.wrap (IntKind.i64.wrap (v2 * (↑v0.length:Int))+v3)).toNat         (List.drop ((Option.some (1:Int)).getD (0:Int)).toNat             (v1.getD (IntKind.i64.wrap (IntKind.i64.wrap (v2 * (↑v0.length:Int))+v3)).toNat                 ([],[],Bool.false)).fst,          (v1.getD (IntKind.i64.wrap (IntKind.i64.wrap (v2 * (↑v0.length:Int))+v3)).toNat               ([],[],Bool.false)).snd)).length) then
 ret (Bool.true,v0,(v1.set (IntKind.i64.wrap (IntKind.i64.wrap (v2 * (↑v0.length:Int))+v3)).toNat       (List.drop ((Option.some (1:Int)).getD (0:Int)).toNat           (v1.getD (IntKind.i64.wrap (IntKind.i64.wrap (v2 * (↑v0.length:Int))+v3)).toNat               ([],[],Bool.false)).fst,        (v1.getD (IntKind.i64.wrap (IntKind.i64.wrap (v2 * (↑v0.length:Int))+v3)).toNat             ([],[],Bool.false)).snd)).set   (IntKind.i64.wrap (IntKind.i64.wrap (v2 * (↑v0.length:Int))+v3)).toNat   (((v1.set (IntKind.i64.wrap (IntKind.i64.wrap (v2 * (↑v0.length:Int))+v3)).toNat             (List.drop ((Option.some (1:Int)).getD (0:Int)).toNat                 (v1.getD (IntKind.i64.wrap (IntKind.i64.wrap (v2 * (↑v0.length:Int))+v3)).toNat                     ([],[],Bool.false)).fst,              (v1.getD (IntKind.i64.wrap (IntKind.i64.wrap (v2 * (↑v0.length:Int))+v3)).toNat                   ([],[],Bool.false)).snd)).getD         (IntKind.i64.wrap (IntKind.i64.wrap (v2 * (↑v0.length:Int))+v3)).toNat ([],[],Bool.false)).fst,    ((v1.set (IntKind.i64.wrap (IntKind.i64.wrap (v2 * (↑v0.length:Int))+v3)).toNat               (List.drop ((Option.some (1:Int)).getD (0:Int)).toNat                   (v1.getD (IntKind.i64.wrap (IntKind.i64.wrap (v2 * (↑v0.length:Int))+v3)).toNat                       ([],[],Bool.false)).fst,                (v1.getD (IntKind.i64.wrap (IntKind.i64.wrap (v2 * (↑v0.length:Int))+v3)).toNat                     ([],[],Bool.false)).snd)).getD           (IntKind.i64.wrap (IntKind.i64.wrap (v2 * (↑v0.length:Int))+v3)).toNat           ([],[],Bool.false)).snd.fst,    Bool.false))
 else
 none
 else
 none
 else
 none
 else
 none
 else
 none
 else
 none
 else
 none
 else
 none
 else
 none
 else
 none
 else
 none
 else
 none
 else
 none
 else
 none
 else
 none
 else
 none
 else
 none
 else
 none
 else
 none
 else
 none
 else
 none
 else
 none
theorem xi0e.u:∀ b,xi0e.un (xi0e.mk b)=b:=fun _ => by kernel_rfl
theorem xi0e.eq (v0 v1 v2 v3) {b} (h:xi0e.t some v0 v1 v2 v3=some b):xi0e v0 v1 v2 v3=some b:=eqF xi0e.u Try.f97 (callT_le E tab) rfl rfl rfl (xi0e.t (rR xi0e.mk) v0 v1 v2 v3) (by kernel_rfl) (by unfold xi0e.t; repeat' first | exact sR | exact sN | exact sL | apply sC | (apply sB; intro _)) h
def xl1a.t {γ:Type} (ret:(Bool)→Option γ) (v0:List (Int × Int × Bool)) (v1:List (List Int × List Int × Bool)) (v2:List (Int × Int × Bool)) (v3:List (List Int × List Int × Bool)):Option γ :=
 (xl11 (v0) (v2)).bind fun (r0:Bool) =>
 bif !r0 then
 ret (Bool.false)
 else
 (xl12 (v1) (v3)).bind fun (r1:Bool) =>
 bif !r1 then
 ret (Bool.false)
 else
 ret (Bool.true)
theorem xl1a.u:∀ b,xl1a.un (xl1a.mk b)=b:=fun _ => by kernel_rfl
theorem xl1a.eq (v0 v1 v2 v3) {b} (h:xl1a.t some v0 v1 v2 v3=some b):xl1a v0 v1 v2 v3=some b:=eqF xl1a.u Try.f13 (callT_le E tab) rfl rfl rfl (xl1a.t (rR xl1a.mk) v0 v1 v2 v3) (by kernel_rfl) (by unfold xl1a.t; repeat' first | exact sR | exact sN | exact sL | apply sC | (apply sB; intro _)) h
def xl11.s4 (v0:List (Int × Int × Bool)) (v1:List (Int × Int × Bool)) (v2:Int):List Cell:=vc (.d .fro Yb v0)::vc (.d .fro Yb v1)::nn 3 (vc (iL v2)::nn 21 ([]))
def xl11.q4:=fun v0 v1 v2 => loopAtL E (callT E tab) 49 Try.f49 2 [.r,.r,.l,.r,.b] (xl11.s4 v0 v1 v2)
def xl11.l4:=fun v0 v1 v2 => tOf xl11.mk (xl11.q4 v0 v1 v2)
def xl11.t {γ:Type} (ret:(Bool)→Option γ) (lp4:(List (Int × Int × Bool))→(List (Int × Int × Bool))→Int→Option γ) (v0:List (Int × Int × Bool)) (v1:List (Int × Int × Bool)):Option γ :=
 bif (↑v0.length:Int) != (↑v1.length:Int) then
 ret (Bool.false)
 else
 lp4 (v0) (v1) ((0:Int))
def xl11.t4 {γ:Type} (ret:(Bool)→Option γ) (lp4:(List (Int × Int × Bool))→(List (Int × Int × Bool))→Int→Option γ) (v0:List (Int × Int × Bool)) (v1:List (Int × Int × Bool)) (v2:Int):Option γ :=
 bif decide (v2<(↑v0.length:Int)) then
 bif decide ((0:Int)≤v2) then
 bif decide (v2.toNat<v0.length) then
 bif decide ((0:Int)≤v2) then
 bif decide (v2.toNat<v1.length) then
 (xl19 ((v0.getD v2.toNat ((0:Int),(0:Int),Bool.false)).fst) ((v0.getD v2.toNat ((0:Int),(0:Int),Bool.false)).snd.fst) ((v0.getD v2.toNat ((0:Int),(0:Int),Bool.false)).snd.snd) ((v1.getD v2.toNat ((0:Int),(0:Int),Bool.false)).fst) ((v1.getD v2.toNat ((0:Int),(0:Int),Bool.false)).snd.fst) ((v1.getD v2.toNat ((0:Int),(0:Int),Bool.false)).snd.snd)).bind fun (r0:Bool) =>
 bif !r0 then
 ret (Bool.false)
 else
 lp4 (v0) (v1) (IntKind.i64.wrap (v2+(1:Int)))
 else
 none
 else
 none
 else
 none
 else
 none
 else
 ret (Bool.true)
theorem xl11.u:∀ b,xl11.un (xl11.mk b)=b:=fun _ => by kernel_rfl
theorem xl11.eq (v0 v1) {b} (h:xl11.t some xl11.l4 v0 v1=some b):xl11 v0 v1=some b:=eqF xl11.u Try.f49 (callT_le E tab) rfl rfl rfl (xl11.t (rR xl11.mk) xl11.q4 v0 v1) (by kernel_rfl) (by unfold xl11.t; repeat' first | exact sR | exact sN | exact sL | apply sC | (apply sB; intro _)) h
theorem xl11.eq4 (v0 v1 v2) {b} (h:xl11.t4 some xl11.l4 v0 v1 v2=some b):xl11.l4 v0 v1 v2=some b:=eqL xl11.u (xl11.t4 (rR xl11.mk) xl11.q4 v0 v1 v2) (by kernel_rfl) (by unfold xl11.t4; repeat' first | exact sR | exact sN | exact sL | apply sC | (apply sB; intro _)) h
def xl19.t {γ:Type} (ret:(Bool)→Option γ) (v0:Int) (v1:Int) (v2:Bool) (v3:Int) (v4:Int) (v5:Bool):Option γ :=
 bif v0 != v3 then
 ret (Bool.false)
 else
 bif v1 != v4 then
 ret (Bool.false)
 else
 bif !v2 == v5 then
 ret (Bool.false)
 else
 ret (Bool.true)
theorem xl19.u:∀ b,xl19.un (xl19.mk b)=b:=fun _ => by kernel_rfl
theorem xl19.eq (v0 v1 v2 v3 v4 v5) {b} (h:xl19.t some v0 v1 v2 v3 v4 v5=some b):xl19 v0 v1 v2 v3 v4 v5=some b:=eqF xl19.u Try.f82 (callT_le E tab) rfl rfl rfl (xl19.t (rR xl19.mk) v0 v1 v2 v3 v4 v5) (by kernel_rfl) (by unfold xl19.t; repeat' first | exact sR | exact sN | exact sL | apply sC | (apply sB; intro _)) h
def xl12.s4 (v0:List (List Int × List Int × Bool)) (v1:List (List Int × List Int × Bool)) (v2:Int):List Cell:=vc (.d .fro Ya v0)::vc (.d .fro Ya v1)::nn 3 (vc (iL v2)::nn 21 ([]))
def xl12.q4:=fun v0 v1 v2 => loopAtL E (callT E tab) 50 Try.f50 2 [.r,.r,.l,.r,.b] (xl12.s4 v0 v1 v2)
def xl12.l4:=fun v0 v1 v2 => tOf xl12.mk (xl12.q4 v0 v1 v2)
def xl12.t {γ:Type} (ret:(Bool)→Option γ) (lp4:(List (List Int × List Int × Bool))→(List (List Int × List Int × Bool))→Int→Option γ) (v0:List (List Int × List Int × Bool)) (v1:List (List Int × List Int × Bool)):Option γ :=
 bif (↑v0.length:Int) != (↑v1.length:Int) then
 ret (Bool.false)
 else
 lp4 (v0) (v1) ((0:Int))
def xl12.t4 {γ:Type} (ret:(Bool)→Option γ) (lp4:(List (List Int × List Int × Bool))→(List (List Int × List Int × Bool))→Int→Option γ) (v0:List (List Int × List Int × Bool)) (v1:List (List Int × List Int × Bool)) (v2:Int):Option γ :=
 bif decide (v2<(↑v0.length:Int)) then
 bif decide ((0:Int)≤v2) then
 bif decide (v2.toNat<v0.length) then
 bif decide ((0:Int)≤v2) then
 bif decide (v2.toNat<v1.length) then
 (xl1b ((v0.getD v2.toNat ([],[],Bool.false)).fst) ((v0.getD v2.toNat ([],[],Bool.false)).snd.fst) ((v0.getD v2.toNat ([],[],Bool.false)).snd.snd) ((v1.getD v2.toNat ([],[],Bool.false)).fst) ((v1.getD v2.toNat ([],[],Bool.false)).snd.fst) ((v1.getD v2.toNat ([],[],Bool.false)).snd.snd)).bind fun (r0:Bool) =>
 bif !r0 then
 ret (Bool.false)
 else
 lp4 (v0) (v1) (IntKind.i64.wrap (v2+(1:Int)))
 else
 none
 else
 none
 else
 none
 else
 none
 else
 ret (Bool.true)
theorem xl12.u:∀ b,xl12.un (xl12.mk b)=b:=fun _ => by kernel_rfl
theorem xl12.eq (v0 v1) {b} (h:xl12.t some xl12.l4 v0 v1=some b):xl12 v0 v1=some b:=eqF xl12.u Try.f50 (callT_le E tab) rfl rfl rfl (xl12.t (rR xl12.mk) xl12.q4 v0 v1) (by kernel_rfl) (by unfold xl12.t; repeat' first | exact sR | exact sN | exact sL | apply sC | (apply sB; intro _)) h
theorem xl12.eq4 (v0 v1 v2) {b} (h:xl12.t4 some xl12.l4 v0 v1 v2=some b):xl12.l4 v0 v1 v2=some b:=eqL xl12.u (xl12.t4 (rR xl12.mk) xl12.q4 v0 v1 v2) (by kernel_rfl) (by unfold xl12.t4; repeat' first | exact sR | exact sN | exact sL | apply sC | (apply sB; intro _)) h
def xl1b.t {γ:Type} (ret:(Bool)→Option γ) (v0:List Int) (v1:List Int) (v2:Bool) (v3:List Int) (v4:List Int) (v5:Bool):Option γ :=
 (xl18 (v0) (v3)).bind fun (r0:Bool) =>
 bif !r0 then
 ret (Bool.false)
 else
 (xl18 (v1) (v4)).bind fun (r1:Bool) =>
 bif !r1 then
 ret (Bool.false)
 else
 bif !v2 == v5 then
 ret (Bool.false)
 else
 ret (Bool.true)
theorem xl1b.u:∀ b,xl1b.un (xl1b.mk b)=b:=fun _ => by kernel_rfl
theorem xl1b.eq (v0 v1 v2 v3 v4 v5) {b} (h:xl1b.t some v0 v1 v2 v3 v4 v5=some b):xl1b v0 v1 v2 v3 v4 v5=some b:=eqF xl1b.u Try.f83 (callT_le E tab) rfl rfl rfl (xl1b.t (rR xl1b.mk) v0 v1 v2 v3 v4 v5) (by kernel_rfl) (by unfold xl1b.t; repeat' first | exact sR | exact sN | exact sL | apply sC | (apply sB; intro _)) h
def xl18.s4 (v0:List Int) (v1:List Int) (v2:Int):List Cell:=vc (.d .fro (.sl (.int .i64)) v0)::vc (.d .fro (.sl (.int .i64)) v1)::nn 3 (vc (iL v2)::nn 20 ([]))
def xl18.q4:=fun v0 v1 v2 => loopAtL E (callT E tab) 24 Try.f24 2 [.r,.r,.l,.r,.b] (xl18.s4 v0 v1 v2)
def xl18.l4:=fun v0 v1 v2 => tOf xl18.mk (xl18.q4 v0 v1 v2)
def xl18.t {γ:Type} (ret:(Bool)→Option γ) (lp4:(List Int)→(List Int)→Int→Option γ) (v0:List Int) (v1:List Int):Option γ :=
 bif (↑v0.length:Int) != (↑v1.length:Int) then
 ret (Bool.false)
 else
 lp4 (v0) (v1) ((0:Int))
def xl18.t4 {γ:Type} (ret:(Bool)→Option γ) (lp4:(List Int)→(List Int)→Int→Option γ) (v0:List Int) (v1:List Int) (v2:Int):Option γ :=
 bif decide (v2<(↑v0.length:Int)) then
 bif decide ((0:Int)≤v2) then
 bif decide (v2.toNat<v0.length) then
 bif decide ((0:Int)≤v2) then
 bif decide (v2.toNat<v1.length) then
 bif v0.getD v2.toNat (0:Int) != v1.getD v2.toNat (0:Int) then
 ret (Bool.false)
 else
 lp4 (v0) (v1) (IntKind.i64.wrap (v2+(1:Int)))
 else
 none
 else
 none
 else
 none
 else
 none
 else
 ret (Bool.true)
theorem xl18.u:∀ b,xl18.un (xl18.mk b)=b:=fun _ => by kernel_rfl
theorem xl18.eq (v0 v1) {b} (h:xl18.t some xl18.l4 v0 v1=some b):xl18 v0 v1=some b:=eqF xl18.u Try.f24 (callT_le E tab) rfl rfl rfl (xl18.t (rR xl18.mk) xl18.q4 v0 v1) (by kernel_rfl) (by unfold xl18.t; repeat' first | exact sR | exact sN | exact sL | apply sC | (apply sB; intro _)) h
theorem xl18.eq4 (v0 v1 v2) {b} (h:xl18.t4 some xl18.l4 v0 v1 v2=some b):xl18.l4 v0 v1 v2=some b:=eqL xl18.u (xl18.t4 (rR xl18.mk) xl18.q4 v0 v1 v2) (by kernel_rfl) (by unfold xl18.t4; repeat' first | exact sR | exact sN | exact sL | apply sC | (apply sB; intro _)) h
def xl0l.t {γ:Type} (ret:(Int × (List (Int × Int × Bool)) × (List (List Int × List Int × Bool)))→Option γ) (v0:List (Int × Int × Bool)) (v1:List (List Int × List Int × Bool)) (v2:Int):Option γ :=
 (xl0g (v0) (v2)).bind fun (r0:Int × (List (Int × Int × Bool))) =>
 (xl0h (v1) (r0.fst)).bind fun (r1:Int × (List (List Int × List Int × Bool))) =>
 ret (r1.fst,r0.snd,r1.snd)
theorem xl0l.u:∀ b,xl0l.un (xl0l.mk b)=b:=fun _ => by kernel_rfl
theorem xl0l.eq (v0 v1 v2) {b} (h:xl0l.t some v0 v1 v2=some b):xl0l v0 v1 v2=some b:=eqF xl0l.u Try.f14 (callT_le E tab) rfl rfl rfl (xl0l.t (rR xl0l.mk) v0 v1 v2) (by kernel_rfl) (by unfold xl0l.t; repeat' first | exact sR | exact sN | exact sL | apply sC | (apply sB; intro _)) h
def xl0g.s2 (v0:List (Int × Int × Bool)) (v1:Int) (v2:Int):List Cell:=⟨(.val .one),[.d .deep Yb v0],true,false,false,0,0⟩::vc (iL v1)::nn 3 (vc (iL v2)::nn 30 ([]))
def xl0g.q2:=fun v0 v1 v2 => loopAtL E (callT E tab) 51 Try.f51 2 [.r,.l,.r,.b] (xl0g.s2 v0 v1 v2)
def xl0g.l2:=fun v0 v1 v2 => tOf xl0g.mk (xl0g.q2 v0 v1 v2)
def xl0g.t {γ:Type} (ret:(Int × (List (Int × Int × Bool)))→Option γ) (lp2:(List (Int × Int × Bool))→Int→Int→Option γ) (v0:List (Int × Int × Bool)) (v1:Int):Option γ :=
 lp2 (v0) (v1) ((0:Int))
def xl0g.t2 {γ:Type} (ret:(Int × (List (Int × Int × Bool)))→Option γ) (lp2:(List (Int × Int × Bool))→Int→Int→Option γ) (v0:List (Int × Int × Bool)) (v1:Int) (v2:Int):Option γ :=
 bif decide (v2<(↑v0.length:Int)) then
 bif decide ((0:Int)≤v2) then
 bif decide (v2.toNat<v0.length) then
 bif decide (v2.toNat<v0.length) then
 bif decide ((0:Int)≤v2) then
 bif decide (v2.toNat<(v0.set v2.toNat (v1,(v0.getD v2.toNat ((0:Int),(0:Int),Bool.false)).snd)).length) then
 bif decide (v2.toNat<(v0.set v2.toNat (v1,(v0.getD v2.toNat ((0:Int),(0:Int),Bool.false)).snd)).length) then
 bif decide ((0:Int)≤v2) then
 bif decide   (v2.toNat<    ((v0.set v2.toNat (v1,(v0.getD v2.toNat ((0:Int),(0:Int),Bool.false)).snd)).set v2.toNat         (((v0.set v2.toNat (v1,(v0.getD v2.toNat ((0:Int),(0:Int),Bool.false)).snd)).getD v2.toNat               ((0:Int),(0:Int),Bool.false)).fst,          IntKind.i64.wrap (v1+(1:Int)),          ((v0.set v2.toNat (v1,(v0.getD v2.toNat ((0:Int),(0:Int),Bool.false)).snd)).getD v2.toNat                 ((0:Int),(0:Int),Bool.false)).snd.snd)).length) then
 bif decide   (v2.toNat<    ((v0.set v2.toNat (v1,(v0.getD v2.toNat ((0:Int),(0:Int),Bool.false)).snd)).set v2.toNat         (((v0.set v2.toNat (v1,(v0.getD v2.toNat ((0:Int),(0:Int),Bool.false)).snd)).getD v2.toNat               ((0:Int),(0:Int),Bool.false)).fst,          IntKind.i64.wrap (v1+(1:Int)),          ((v0.set v2.toNat (v1,(v0.getD v2.toNat ((0:Int),(0:Int),Bool.false)).snd)).getD v2.toNat                 ((0:Int),(0:Int),Bool.false)).snd.snd)).length) then
 lp2 (((v0.set v2.toNat (v1,(v0.getD v2.toNat ((0:Int),(0:Int),Bool.false)).snd)).set v2.toNat       (((v0.set v2.toNat (v1,(v0.getD v2.toNat ((0:Int),(0:Int),Bool.false)).snd)).getD v2.toNat             ((0:Int),(0:Int),Bool.false)).fst,        IntKind.i64.wrap (v1+(1:Int)),        ((v0.set v2.toNat (v1,(v0.getD v2.toNat ((0:Int),(0:Int),Bool.false)).snd)).getD v2.toNat               ((0:Int),(0:Int),Bool.false)).snd.snd)).set   v2.toNat   ((((v0.set v2.toNat (v1,(v0.getD v2.toNat ((0:Int),(0:Int),Bool.false)).snd)).set v2.toNat             (((v0.set v2.toNat (v1,(v0.getD v2.toNat ((0:Int),(0:Int),Bool.false)).snd)).getD v2.toNat                   ((0:Int),(0:Int),Bool.false)).fst,              IntKind.i64.wrap (v1+(1:Int)),              ((v0.set v2.toNat (v1,(v0.getD v2.toNat ((0:Int),(0:Int),Bool.false)).snd)).getD v2.toNat                     ((0:Int),(0:Int),Bool.false)).snd.snd)).getD         v2.toNat ((0:Int),(0:Int),Bool.false)).fst,    (((v0.set v2.toNat (v1,(v0.getD v2.toNat ((0:Int),(0:Int),Bool.false)).snd)).set v2.toNat               (((v0.set v2.toNat (v1,(v0.getD v2.toNat ((0:Int),(0:Int),Bool.false)).snd)).getD v2.toNat                     ((0:Int),(0:Int),Bool.false)).fst,                IntKind.i64.wrap (v1+(1:Int)),                ((v0.set v2.toNat (v1,(v0.getD v2.toNat ((0:Int),(0:Int),Bool.false)).snd)).getD v2.toNat                       ((0:Int),(0:Int),Bool.false)).snd.snd)).getD           v2.toNat ((0:Int),(0:Int),Bool.false)).snd.fst,    (IntKind.i64.wrap (IntKind.i64.wrap (v1+(1:Int))+(1:Int))).tmod (3:Int) == (0:Int))) (IntKind.i64.wrap (IntKind.i64.wrap (IntKind.i64.wrap (v1+(1:Int))+(1:Int))+(1:Int))) (IntKind.i64.wrap (v2+(1:Int)))
 else
 none
 else
 none
 else
 none
 else
 none
 else
 none
 else
 none
 else
 none
 else
 none
 else
 none
 else
 ret (v1,v0)
theorem xl0g.u:∀ b,xl0g.un (xl0g.mk b)=b:=fun _ => by kernel_rfl
theorem xl0g.eq (v0 v1) {b} (h:xl0g.t some xl0g.l2 v0 v1=some b):xl0g v0 v1=some b:=eqF xl0g.u Try.f51 (callT_le E tab) rfl rfl rfl (xl0g.t (rR xl0g.mk) xl0g.q2 v0 v1) (by kernel_rfl) (by unfold xl0g.t; repeat' first | exact sR | exact sN | exact sL | apply sC | (apply sB; intro _)) h
theorem xl0g.eq2 (v0 v1 v2) {b} (h:xl0g.t2 some xl0g.l2 v0 v1 v2=some b):xl0g.l2 v0 v1 v2=some b:=eqL xl0g.u (xl0g.t2 (rR xl0g.mk) xl0g.q2 v0 v1 v2) (by kernel_rfl) (by unfold xl0g.t2; repeat' first | exact sR | exact sN | exact sL | apply sC | (apply sB; intro _)) h
def xl0h.s2 (v0:List (List Int × List Int × Bool)) (v1:Int) (v2:Int):List Cell:=⟨(.val .one),[.d .deep Ya v0],true,false,false,0,0⟩::vc (iL v1)::nn 3 (vc (iL v2)::nn 30 ([]))
def xl0h.q2:=fun v0 v1 v2 => loopAtL E (callT E tab) 52 Try.f52 2 [.r,.l,.r,.b] (xl0h.s2 v0 v1 v2)
def xl0h.l2:=fun v0 v1 v2 => tOf xl0h.mk (xl0h.q2 v0 v1 v2)
def xl0h.t {γ:Type} (ret:(Int × (List (List Int × List Int × Bool)))→Option γ) (lp2:(List (List Int × List Int × Bool))→Int→Int→Option γ) (v0:List (List Int × List Int × Bool)) (v1:Int):Option γ :=
 lp2 (v0) (v1) ((0:Int))
def xl0h.t2 {γ:Type} (ret:(Int × (List (List Int × List Int × Bool)))→Option γ) (lp2:(List (List Int × List Int × Bool))→Int→Int→Option γ) (v0:List (List Int × List Int × Bool)) (v1:Int) (v2:Int):Option γ :=
 bif decide (v2<(↑v0.length:Int)) then
 bif decide ((0:Int)≤v2) then
 bif decide (v2.toNat<v0.length) then
 bif decide (v2.toNat<v0.length) then
 bif decide (v2.toNat<v0.length) then
 (xl0k ((v0.getD v2.toNat ([],[],Bool.false)).fst) (v1)).bind fun (r0:Int × (List Int)) =>
 bif decide (v2.toNat=v2.toNat) &&   (decide ((0:Nat)+(0:Nat)=(0:Nat)+(0:Nat)) &&     decide ((1:Nat)+((1:Nat)+(1:Nat))=(1:Nat)+((1:Nat)+(1:Nat)))) then
 bif decide (v2.toNat<v0.length) then
 bif decide ((0:Int)≤v2) then
 bif decide (v2.toNat<(v0.set v2.toNat (r0.snd,(v0.getD v2.toNat ([],[],Bool.false)).snd)).length) then
 bif decide (v2.toNat<(v0.set v2.toNat (r0.snd,(v0.getD v2.toNat ([],[],Bool.false)).snd)).length) then
 bif decide (v2.toNat<(v0.set v2.toNat (r0.snd,(v0.getD v2.toNat ([],[],Bool.false)).snd)).length) then
 (xl0k (((v0.set v2.toNat (r0.snd,(v0.getD v2.toNat ([],[],Bool.false)).snd)).getD v2.toNat ([],[],Bool.false)).snd.fst) (r0.fst)).bind fun (r1:Int × (List Int)) =>
 bif decide (v2.toNat=v2.toNat) &&   (decide ((0:Nat)+(1:Nat)=(0:Nat)+(1:Nat)) &&     decide ((1:Nat)+((1:Nat)+(1:Nat))=(1:Nat)+((1:Nat)+(1:Nat)))) then
 bif decide (v2.toNat<(v0.set v2.toNat (r0.snd,(v0.getD v2.toNat ([],[],Bool.false)).snd)).length) then
 bif decide ((0:Int)≤v2) then
 bif decide   (v2.toNat<    ((v0.set v2.toNat (r0.snd,(v0.getD v2.toNat ([],[],Bool.false)).snd)).set v2.toNat         (((v0.set v2.toNat (r0.snd,(v0.getD v2.toNat ([],[],Bool.false)).snd)).getD v2.toNat               ([],[],Bool.false)).fst,          r1.snd,          ((v0.set v2.toNat (r0.snd,(v0.getD v2.toNat ([],[],Bool.false)).snd)).getD v2.toNat                 ([],[],Bool.false)).snd.snd)).length) then
 bif decide   (v2.toNat<    ((v0.set v2.toNat (r0.snd,(v0.getD v2.toNat ([],[],Bool.false)).snd)).set v2.toNat         (((v0.set v2.toNat (r0.snd,(v0.getD v2.toNat ([],[],Bool.false)).snd)).getD v2.toNat               ([],[],Bool.false)).fst,          r1.snd,          ((v0.set v2.toNat (r0.snd,(v0.getD v2.toNat ([],[],Bool.false)).snd)).getD v2.toNat                 ([],[],Bool.false)).snd.snd)).length) then
 lp2 (((v0.set v2.toNat (r0.snd,(v0.getD v2.toNat ([],[],Bool.false)).snd)).set v2.toNat       (((v0.set v2.toNat (r0.snd,(v0.getD v2.toNat ([],[],Bool.false)).snd)).getD v2.toNat ([],[],Bool.false)).fst,        r1.snd,        ((v0.set v2.toNat (r0.snd,(v0.getD v2.toNat ([],[],Bool.false)).snd)).getD v2.toNat               ([],[],Bool.false)).snd.snd)).set   v2.toNat   ((((v0.set v2.toNat (r0.snd,(v0.getD v2.toNat ([],[],Bool.false)).snd)).set v2.toNat             (((v0.set v2.toNat (r0.snd,(v0.getD v2.toNat ([],[],Bool.false)).snd)).getD v2.toNat                   ([],[],Bool.false)).fst,              r1.snd,              ((v0.set v2.toNat (r0.snd,(v0.getD v2.toNat ([],[],Bool.false)).snd)).getD v2.toNat                     ([],[],Bool.false)).snd.snd)).getD         v2.toNat ([],[],Bool.false)).fst,    (((v0.set v2.toNat (r0.snd,(v0.getD v2.toNat ([],[],Bool.false)).snd)).set v2.toNat               (((v0.set v2.toNat (r0.snd,(v0.getD v2.toNat ([],[],Bool.false)).snd)).getD v2.toNat                     ([],[],Bool.false)).fst,                r1.snd,                ((v0.set v2.toNat (r0.snd,(v0.getD v2.toNat ([],[],Bool.false)).snd)).getD v2.toNat                       ([],[],Bool.false)).snd.snd)).getD           v2.toNat ([],[],Bool.false)).snd.fst,    r1.fst.tmod (3:Int) == (0:Int))) (IntKind.i64.wrap (r1.fst+(1:Int))) (IntKind.i64.wrap (v2+(1:Int)))
 else
 none
 else
 none
 else
 none
 else
 none
 else
 none
 else
 none
 else
 none
 else
 none
 else
 none
 else
 none
 else
 none
 else
 none
 else
 none
 else
 none
 else
 none
 else
 ret (v1,v0)
theorem xl0h.u:∀ b,xl0h.un (xl0h.mk b)=b:=fun _ => by kernel_rfl
theorem xl0h.eq (v0 v1) {b} (h:xl0h.t some xl0h.l2 v0 v1=some b):xl0h v0 v1=some b:=eqF xl0h.u Try.f52 (callT_le E tab) rfl rfl rfl (xl0h.t (rR xl0h.mk) xl0h.q2 v0 v1) (by kernel_rfl) (by unfold xl0h.t; repeat' first | exact sR | exact sN | exact sL | apply sC | (apply sB; intro _)) h
theorem xl0h.eq2 (v0 v1 v2) {b} (h:xl0h.t2 some xl0h.l2 v0 v1 v2=some b):xl0h.l2 v0 v1 v2=some b:=eqL xl0h.u (xl0h.t2 (rR xl0h.mk) xl0h.q2 v0 v1 v2) (by kernel_rfl) (by unfold xl0h.t2; repeat' first | exact sR | exact sN | exact sL | apply sC | (apply sB; intro _)) h
def xl0k.s2 (v0:List Int) (v1:Int) (v2:Int):List Cell:=⟨(.val .one),[.d .deep (.sl (.int .i64)) v0],true,false,false,0,0⟩::vc (iL v1)::nn 3 (vc (iL v2)::nn 13 ([]))
def xl0k.q2:=fun v0 v1 v2 => loopAtL E (callT E tab) 26 Try.f26 2 [.r,.l,.r,.b] (xl0k.s2 v0 v1 v2)
def xl0k.l2:=fun v0 v1 v2 => tOf xl0k.mk (xl0k.q2 v0 v1 v2)
def xl0k.t {γ:Type} (ret:(Int × (List Int))→Option γ) (lp2:(List Int)→Int→Int→Option γ) (v0:List Int) (v1:Int):Option γ :=
 lp2 (v0) (v1) ((0:Int))
def xl0k.t2 {γ:Type} (ret:(Int × (List Int))→Option γ) (lp2:(List Int)→Int→Int→Option γ) (v0:List Int) (v1:Int) (v2:Int):Option γ :=
 bif decide (v2<(↑v0.length:Int)) then
 bif decide ((0:Int)≤v2) then
 bif decide (v2.toNat<v0.length) then
 bif decide (v2.toNat<v0.length) then
 lp2 (v0.set v2.toNat v1) (IntKind.i64.wrap (v1+(1:Int))) (IntKind.i64.wrap (v2+(1:Int)))
 else
 none
 else
 none
 else
 none
 else
 ret (v1,v0)
theorem xl0k.u:∀ b,xl0k.un (xl0k.mk b)=b:=fun _ => by kernel_rfl
theorem xl0k.eq (v0 v1) {b} (h:xl0k.t some xl0k.l2 v0 v1=some b):xl0k v0 v1=some b:=eqF xl0k.u Try.f26 (callT_le E tab) rfl rfl rfl (xl0k.t (rR xl0k.mk) xl0k.q2 v0 v1) (by kernel_rfl) (by unfold xl0k.t; repeat' first | exact sR | exact sN | exact sL | apply sC | (apply sB; intro _)) h
theorem xl0k.eq2 (v0 v1 v2) {b} (h:xl0k.t2 some xl0k.l2 v0 v1 v2=some b):xl0k.l2 v0 v1 v2=some b:=eqL xl0k.u (xl0k.t2 (rR xl0k.mk) xl0k.q2 v0 v1 v2) (by kernel_rfl) (by unfold xl0k.t2; repeat' first | exact sR | exact sN | exact sL | apply sC | (apply sB; intro _)) h
def xl0y.t {γ:Type} (ret:(Int)→Option γ) (v0:List (Int × Int × Bool)) (v1:List (List Int × List Int × Bool)) (v2:Int):Option γ :=
 (xl0r (v0) (v2)).bind fun (r0:Int) =>
 bif decide (r0<(0:Int)) then
 ret ((-1:Int))
 else
 (xl0s (v1) (r0)).bind fun (r1:Int) =>
 bif decide (r1<(0:Int)) then
 ret ((-1:Int))
 else
 ret (r1)
theorem xl0y.u:∀ b,xl0y.un (xl0y.mk b)=b:=fun _ => by kernel_rfl
theorem xl0y.eq (v0 v1 v2) {b} (h:xl0y.t some v0 v1 v2=some b):xl0y v0 v1 v2=some b:=eqF xl0y.u Try.f15 (callT_le E tab) rfl rfl rfl (xl0y.t (rR xl0y.mk) v0 v1 v2) (by kernel_rfl) (by unfold xl0y.t; repeat' first | exact sR | exact sN | exact sL | apply sC | (apply sB; intro _)) h
def xl0r.s2 (v0:List (Int × Int × Bool)) (v1:Int) (v2:Int):List Cell:=vc (.d .fro Yb v0)::vc (iL v1)::nn 3 (vc (iL v2)::nn 36 ([]))
def xl0r.q2:=fun v0 v1 v2 => loopAtL E (callT E tab) 53 Try.f53 2 [.r,.l,.r,.b] (xl0r.s2 v0 v1 v2)
def xl0r.l2:=fun v0 v1 v2 => tOf xl0r.mk (xl0r.q2 v0 v1 v2)
def xl0r.t {γ:Type} (ret:(Int)→Option γ) (lp2:(List (Int × Int × Bool))→Int→Int→Option γ) (v0:List (Int × Int × Bool)) (v1:Int):Option γ :=
 lp2 (v0) (v1) ((0:Int))
def xl0r.t2 {γ:Type} (ret:(Int)→Option γ) (lp2:(List (Int × Int × Bool))→Int→Int→Option γ) (v0:List (Int × Int × Bool)) (v1:Int) (v2:Int):Option γ :=
 bif decide (v2<(↑v0.length:Int)) then
 bif decide ((0:Int)≤v2) then
 bif decide (v2.toNat<v0.length) then
 bif (v0.getD v2.toNat ((0:Int),(0:Int),Bool.false)).fst != v1 then
 ret ((-1:Int))
 else
 bif decide ((0:Int)≤v2) then
 bif decide (v2.toNat<v0.length) then
 bif (v0.getD v2.toNat ((0:Int),(0:Int),Bool.false)).snd.fst != IntKind.i64.wrap (v1+(1:Int)) then
 ret ((-1:Int))
 else
 bif decide ((0:Int)≤v2) then
 bif decide (v2.toNat<v0.length) then
 bif !(v0.getD v2.toNat ((0:Int),(0:Int),Bool.false)).snd.snd ==     ((IntKind.i64.wrap (IntKind.i64.wrap (v1+(1:Int))+(1:Int))).tmod (3:Int) == (0:Int)) then
 ret ((-1:Int))
 else
 lp2 (v0) (IntKind.i64.wrap (IntKind.i64.wrap (IntKind.i64.wrap (v1+(1:Int))+(1:Int))+(1:Int))) (IntKind.i64.wrap (v2+(1:Int)))
 else
 none
 else
 none
 else
 none
 else
 none
 else
 none
 else
 none
 else
 ret (v1)
theorem xl0r.u:∀ b,xl0r.un (xl0r.mk b)=b:=fun _ => by kernel_rfl
theorem xl0r.eq (v0 v1) {b} (h:xl0r.t some xl0r.l2 v0 v1=some b):xl0r v0 v1=some b:=eqF xl0r.u Try.f53 (callT_le E tab) rfl rfl rfl (xl0r.t (rR xl0r.mk) xl0r.q2 v0 v1) (by kernel_rfl) (by unfold xl0r.t; repeat' first | exact sR | exact sN | exact sL | apply sC | (apply sB; intro _)) h
theorem xl0r.eq2 (v0 v1 v2) {b} (h:xl0r.t2 some xl0r.l2 v0 v1 v2=some b):xl0r.l2 v0 v1 v2=some b:=eqL xl0r.u (xl0r.t2 (rR xl0r.mk) xl0r.q2 v0 v1 v2) (by kernel_rfl) (by unfold xl0r.t2; repeat' first | exact sR | exact sN | exact sL | apply sC | (apply sB; intro _)) h
def xl0s.s2 (v0:List (List Int × List Int × Bool)) (v1:Int) (v2:Int):List Cell:=vc (.d .fro Ya v0)::vc (iL v1)::nn 3 (vc (iL v2)::nn 36 ([]))
def xl0s.q2:=fun v0 v1 v2 => loopAtL E (callT E tab) 54 Try.f54 2 [.r,.l,.r,.b] (xl0s.s2 v0 v1 v2)
def xl0s.l2:=fun v0 v1 v2 => tOf xl0s.mk (xl0s.q2 v0 v1 v2)
def xl0s.t {γ:Type} (ret:(Int)→Option γ) (lp2:(List (List Int × List Int × Bool))→Int→Int→Option γ) (v0:List (List Int × List Int × Bool)) (v1:Int):Option γ :=
 lp2 (v0) (v1) ((0:Int))
def xl0s.t2 {γ:Type} (ret:(Int)→Option γ) (lp2:(List (List Int × List Int × Bool))→Int→Int→Option γ) (v0:List (List Int × List Int × Bool)) (v1:Int) (v2:Int):Option γ :=
 bif decide (v2<(↑v0.length:Int)) then
 bif decide ((0:Int)≤v2) then
 bif decide (v2.toNat<v0.length) then
 (xl0x ((v0.getD v2.toNat ([],[],Bool.false)).fst) (v1)).bind fun (r0:Int) =>
 bif decide (r0<(0:Int)) then
 ret ((-1:Int))
 else
 bif decide ((0:Int)≤v2) then
 bif decide (v2.toNat<v0.length) then
 (xl0x ((v0.getD v2.toNat ([],[],Bool.false)).snd.fst) (r0)).bind fun (r1:Int) =>
 bif decide (r1<(0:Int)) then
 ret ((-1:Int))
 else
 bif decide ((0:Int)≤v2) then
 bif decide (v2.toNat<v0.length) then
 bif !(v0.getD v2.toNat ([],[],Bool.false)).snd.snd == (r1.tmod (3:Int) == (0:Int)) then
 ret ((-1:Int))
 else
 lp2 (v0) (IntKind.i64.wrap (r1+(1:Int))) (IntKind.i64.wrap (v2+(1:Int)))
 else
 none
 else
 none
 else
 none
 else
 none
 else
 none
 else
 none
 else
 ret (v1)
theorem xl0s.u:∀ b,xl0s.un (xl0s.mk b)=b:=fun _ => by kernel_rfl
theorem xl0s.eq (v0 v1) {b} (h:xl0s.t some xl0s.l2 v0 v1=some b):xl0s v0 v1=some b:=eqF xl0s.u Try.f54 (callT_le E tab) rfl rfl rfl (xl0s.t (rR xl0s.mk) xl0s.q2 v0 v1) (by kernel_rfl) (by unfold xl0s.t; repeat' first | exact sR | exact sN | exact sL | apply sC | (apply sB; intro _)) h
theorem xl0s.eq2 (v0 v1 v2) {b} (h:xl0s.t2 some xl0s.l2 v0 v1 v2=some b):xl0s.l2 v0 v1 v2=some b:=eqL xl0s.u (xl0s.t2 (rR xl0s.mk) xl0s.q2 v0 v1 v2) (by kernel_rfl) (by unfold xl0s.t2; repeat' first | exact sR | exact sN | exact sL | apply sC | (apply sB; intro _)) h
def xl0x.s2 (v0:List Int) (v1:Int) (v2:Int):List Cell:=vc (.d .fro (.sl (.int .i64)) v0)::vc (iL v1)::nn 3 (vc (iL v2)::nn 15 ([]))
def xl0x.q2:=fun v0 v1 v2 => loopAtL E (callT E tab) 84 Try.f84 2 [.r,.l,.r,.b] (xl0x.s2 v0 v1 v2)
def xl0x.l2:=fun v0 v1 v2 => tOf xl0x.mk (xl0x.q2 v0 v1 v2)
def xl0x.t {γ:Type} (ret:(Int)→Option γ) (lp2:(List Int)→Int→Int→Option γ) (v0:List Int) (v1:Int):Option γ :=
 lp2 (v0) (v1) ((0:Int))
def xl0x.t2 {γ:Type} (ret:(Int)→Option γ) (lp2:(List Int)→Int→Int→Option γ) (v0:List Int) (v1:Int) (v2:Int):Option γ :=
 bif decide (v2<(↑v0.length:Int)) then
 bif decide ((0:Int)≤v2) then
 bif decide (v2.toNat<v0.length) then
 bif v0.getD v2.toNat (0:Int) != v1 then
 ret ((-1:Int))
 else
 lp2 (v0) (IntKind.i64.wrap (v1+(1:Int))) (IntKind.i64.wrap (v2+(1:Int)))
 else
 none
 else
 none
 else
 ret (v1)
theorem xl0x.u:∀ b,xl0x.un (xl0x.mk b)=b:=fun _ => by kernel_rfl
theorem xl0x.eq (v0 v1) {b} (h:xl0x.t some xl0x.l2 v0 v1=some b):xl0x v0 v1=some b:=eqF xl0x.u Try.f84 (callT_le E tab) rfl rfl rfl (xl0x.t (rR xl0x.mk) xl0x.q2 v0 v1) (by kernel_rfl) (by unfold xl0x.t; repeat' first | exact sR | exact sN | exact sL | apply sC | (apply sB; intro _)) h
theorem xl0x.eq2 (v0 v1 v2) {b} (h:xl0x.t2 some xl0x.l2 v0 v1 v2=some b):xl0x.l2 v0 v1 v2=some b:=eqL xl0x.u (xl0x.t2 (rR xl0x.mk) xl0x.q2 v0 v1 v2) (by kernel_rfl) (by unfold xl0x.t2; repeat' first | exact sR | exact sN | exact sL | apply sC | (apply sB; intro _)) h
end
end GoV
