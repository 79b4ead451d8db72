/- A part of the proof of FnExactFinishSnap: an interpreter of the model over plain data, its soundness, and what it makes of the functions that the statement reaches. Conditions: none beyond what the given statement itself says. -/
import Derived.Test.YtbimgkhikmmhoaaTJ
set_option linter.unusedVariables false
set_option linter.unusedSimpArgs false
set_option linter.unnecessarySimpa false
set_option linter.unusedSectionVars false
/- The functions of the program, each told by what it answers in the end (printed by wip/tools/emit.py). -/
/-! Names of functions here: xs00 = slices_ContainsFunc_int_int_impl_areAll_int_1_impl_Wire_isWire_1, xs01 = slices_ContainsFunc_int_int_impl_areAll_int_1_impl_isAmountWord, xs02 = slices_IndexFunc_int_int_impl_areAll_int_1_impl_Wire_isWire_1, xs03 = slices_IndexFunc_int_int_impl_areAll_int_1_impl_isAmountWord, xs04 = slices_ContainsFunc_impl_Proc_impl_Proc_impl_FinishSnap_1, xs05 = slices_IndexFunc_impl_Proc_impl_Proc_impl_FinishSnap_1, xs06 = slices_IndexFunc_impl_Wire_impl_Wire_impl_FinishSnap_2, xi07 = impl_areAll_int_1_impl_Wire_isWire_1, xi08 = impl_areAll_int_1_impl_isAmountWord, xi09 = impl_areAll_int_impl_Wire_isWire_1, xi0a = impl_areAll_int_impl_isAmountWord, xs0b = slices_Clone_impl_Proc_impl_Proc, xl0c = laws_FnExactFinishSnap, xs0d = slices_Clone_int_int, xi0e = impl_Snap_save_f06, xi0f = impl_Snap_send_c40, xi0g = impl_Snap_step_c40, xi0h = impl_Snap_take_f06, xi0i = impl_Wire_isWire_1, xl0j = laws_markProcS_c1d, xl0k = laws_markWireS_ac8, xi0l = impl_FinishSnap_1, xi0m = impl_FinishSnap_2, xi0n = impl_Snap_picture, xi0o = impl_Snap_stepped, xi0p = impl_isAmountWord, xl0q = laws_markIntS_83f, xl0r = laws_markSnap_1a6, xi0s = impl_Wire_isNone, xi0t = impl_Wire_isWire, xs0u = spec_l15Save_6da, xs0v = spec_l15Step_967, xi0w = impl_FinishSnap, xs0x = spec_FinishSnap, xl0y = laws_heldProcS, xl0z = laws_heldWireS, xs10 = spec_PictureOf, xs11 = spec_l15Amount, xi12 = impl_GoodSnap, xi13 = impl_Snap_own, xl14 = laws_heldIntS, xl15 = laws_heldSnap, xs16 = spec_GoodSnap, xs17 = spec_StepSnap, xl18 = laws_eqProcS, xl19 = laws_eqWireS, xl1a = laws_szProcS, xl1b = laws_szWireS, xl1c = laws_toProcS, xl1d = laws_toWireS, xi1e = impl_within, xl1f = laws_eqIntS, xl1g = laws_eqProc, xl1h = laws_eqSnap, xl1i = laws_eqWire, xl1j = laws_szIntS, xl1k = laws_szSnap, xl1l = laws_szWire, xl1m = laws_toIntS, xl1n = laws_toProc, xl1o = laws_toSnap, xl1p = laws_toWire, xs1q = spec_l15Own, xi1r = impl_sumOf, xs1s = spec_l1In -/
namespace GoV
abbrev Ya:Ty:=.sl (.pair (.sl (.int .i64)) (.pair (.sl (.int .i64)) .bool))
abbrev Yb:Ty:=.sl (.pair (.int .i64) (.pair (.int .i64) .bool))
open Go Go.Proofs
set_option maxRecDepth 100000
noncomputable section

def xl0c.c (v0:List (Int × Int × Bool)) (v1:List (List Int × List Int × Bool)):List Cell:=ac [.d .fro Yb v0,.d .fro Ya v1]::[]
def xl0c.mk (b:Bool):R:=(⟨.one,[bL b]⟩,nn 1 ([]))
def xl0c.un (r:R):Bool:=((leafR r 0).dat .bool)
def xl0c (v0:List (Int × Int × Bool)) (v1:List (List Int × List Int × Bool)):Option (Bool):=tOf xl0c.mk (vlim E 4 (xl0c.c v0 v1))
def xl1k.c (v0:List (Int × Int × Bool)) (v1:List (List Int × List Int × Bool)) (v2:Int):List Cell:=ac [.d .fro Yb v0,.d .fro Ya v1]::vc (iL v2)::[]
def xl1k.mk (b:Int):R:=(⟨.one,[iL b]⟩,nn 2 ([]))
def xl1k.un (r:R):Int:=((leafR r 0).dat (.int .i64))
def xl1k (v0:List (Int × Int × Bool)) (v1:List (List Int × List Int × Bool)) (v2:Int):Option (Int):=tOf xl1k.mk (vlim E 8 (xl1k.c v0 v1 v2))
def xl1a.c (v0:List (Int × Int × Bool)) (v1:Int):List Cell:=vc (.d .fro Yb v0)::vc (iL v1)::[]
def xl1a.mk (b:Int):R:=(⟨.one,[iL b]⟩,nn 2 ([]))
def xl1a.un (r:R):Int:=((leafR r 0).dat (.int .i64))
def xl1a (v0:List (Int × Int × Bool)) (v1:Int):Option (Int):=tOf xl1a.mk (vlim E 41 (xl1a.c v0 v1))
def xl1b.c (v0:List (List Int × List Int × Bool)) (v1:Int):List Cell:=vc (.d .fro Ya v0)::vc (iL v1)::[]
def xl1b.mk (b:Int):R:=(⟨.one,[iL b]⟩,nn 2 ([]))
def xl1b.un (r:R):Int:=((leafR r 0).dat (.int .i64))
def xl1b (v0:List (List Int × List Int × Bool)) (v1:Int):Option (Int):=tOf xl1b.mk (vlim E 42 (xl1b.c v0 v1))
def xl1l.c (v0:List Int) (v1:List Int) (v2:Bool) (v3:Int):List Cell:=ac [.d .fro (.sl (.int .i64)) v0,.d .fro (.sl (.int .i64)) v1,bL v2]::vc (iL v3)::[]
def xl1l.mk (b:Int):R:=(⟨.one,[iL b]⟩,nn 2 ([]))
def xl1l.un (r:R):Int:=((leafR r 0).dat (.int .i64))
def xl1l (v0:List Int) (v1:List Int) (v2:Bool) (v3:Int):Option (Int):=tOf xl1l.mk (vlim E 75 (xl1l.c v0 v1 v2 v3))
def xl1j.c (v0:List Int) (v1:Int):List Cell:=vc (.d .fro (.sl (.int .i64)) v0)::vc (iL v1)::[]
def xl1j.mk (b:Int):R:=(⟨.one,[iL b]⟩,nn 2 ([]))
def xl1j.un (r:R):Int:=((leafR r 0).dat (.int .i64))
def xl1j (v0:List Int) (v1:Int):Option (Int):=tOf xl1j.mk (vlim E 94 (xl1j.c v0 v1))
def xl1o.c (v0:List (Int × Int × Bool)) (v1:List (List Int × List Int × Bool)):List Cell:=ac [.d .fro Yb v0,.d .fro Ya v1]::[]
def xl1o.mk (b:(List (Int × Int × Bool)) × (List (List Int × List Int × Bool))):R:=(⟨.agg,[.d .deep Yb b.1,.d .deep Ya b.2]⟩,nn 1 ([]))
def xl1o.un (r:R):(List (Int × Int × Bool)) × (List (List Int × List Int × Bool)):=((leafR r 0).dat Yb,(leafR r 1).dat Ya)
def xl1o (v0:List (Int × Int × Bool)) (v1:List (List Int × List Int × Bool)):Option ((List (Int × Int × Bool)) × (List (List Int × List Int × Bool))):=tOf xl1o.mk (vlim E 10 (xl1o.c v0 v1))
def xl1c.c (v0:List (Int × Int × Bool)):List Cell:=vc (.d .fro Yb v0)::[]
def xl1c.mk (b:(List (Int × Int × Bool))):R:=(⟨.one,[.d .deep Yb b]⟩,nn 1 ([]))
def xl1c.un (r:R):(List (Int × Int × Bool)):=((leafR r 0).dat Yb)
def xl1c (v0:List (Int × Int × Bool)):Option ((List (Int × Int × Bool))):=tOf xl1c.mk (vlim E 46 (xl1c.c v0))
def xl1n.c (v0:Int) (v1:Int) (v2:Bool):List Cell:=ac [iL v0,iL v1,bL v2]::[]
def xl1n.mk (b:Int × Int × Bool):R:=(⟨.agg,[iL b.1,iL b.2.1,bL b.2.2]⟩,nn 1 ([]))
def xl1n.un (r:R):Int × Int × Bool:=((leafR r 0).dat (.int .i64),(leafR r 1).dat (.int .i64),(leafR r 2).dat .bool)
def xl1n (v0:Int) (v1:Int) (v2:Bool):Option (Int × Int × Bool):=tOf xl1n.mk (vlim E 79 (xl1n.c v0 v1 v2))
def xl1d.c (v0:List (List Int × List Int × Bool)):List Cell:=vc (.d .fro Ya v0)::[]
def xl1d.mk (b:(List (List Int × List Int × Bool))):R:=(⟨.one,[.d .deep Ya b]⟩,nn 1 ([]))
def xl1d.un (r:R):(List (List Int × List Int × Bool)):=((leafR r 0).dat Ya)
def xl1d (v0:List (List Int × List Int × Bool)):Option ((List (List Int × List Int × Bool))):=tOf xl1d.mk (vlim E 47 (xl1d.c v0))
def xl1p.c (v0:List Int) (v1:List Int) (v2:Bool):List Cell:=ac [.d .fro (.sl (.int .i64)) v0,.d .fro (.sl (.int .i64)) v1,bL v2]::[]
def xl1p.mk (b:(List Int) × (List Int) × Bool):R:=(⟨.agg,[.d .deep (.sl (.int .i64)) b.1,.d .deep (.sl (.int .i64)) b.2.1,bL b.2.2]⟩,nn 1 ([]))
def xl1p.un (r:R):(List Int) × (List Int) × Bool:=((leafR r 0).dat (.sl (.int .i64)),(leafR r 1).dat (.sl (.int .i64)),(leafR r 2).dat .bool)
def xl1p (v0:List Int) (v1:List Int) (v2:Bool):Option ((List Int) × (List Int) × Bool):=tOf xl1p.mk (vlim E 80 (xl1p.c v0 v1 v2))
def xl1m.c (v0:List Int):List Cell:=vc (.d .fro (.sl (.int .i64)) v0)::[]
def xl1m.mk (b:(List Int)):R:=(⟨.one,[.d .deep (.sl (.int .i64)) b]⟩,nn 1 ([]))
def xl1m.un (r:R):(List Int):=((leafR r 0).dat (.sl (.int .i64)))
def xl1m (v0:List Int):Option ((List Int)):=tOf xl1m.mk (vlim E 20 (xl1m.c v0))
def xs0x.c (v0:List (Int × Int × Bool)) (v1:List (List Int × List Int × Bool)):List Cell:=ac [.d .fro Yb v0,.d .fro Ya v1]::[]
def xs0x.mk (b:(List (Int × Int × Bool)) × (List (List Int × List Int × Bool)) × Int × Bool):R:=(⟨(.tup [some 2,none,none]),[.d .deep Yb b.1,.d .deep Ya b.2.1,iL b.2.2.1,bL b.2.2.2]⟩,nn 1 ([]))
def xs0x.un (r:R):(List (Int × Int × Bool)) × (List (List Int × List Int × Bool)) × Int × Bool:=((leafR r 0).dat Yb,(leafR r 1).dat Ya,(leafR r 2).dat (.int .i64),(leafR r 3).dat .bool)
def xs0x (v0:List (Int × Int × Bool)) (v1:List (List Int × List Int × Bool)):Option ((List (Int × Int × Bool)) × (List (List Int × List Int × Bool)) × Int × Bool):=tOf xs0x.mk (vlim E 16 (xs0x.c v0 v1))
def xs16.c (v0:List (Int × Int × Bool)) (v1:List (List Int × List Int × Bool)):List Cell:=ac [.d .fro Yb v0,.d .fro Ya v1]::[]
def xs16.mk (b:Bool):R:=(⟨.one,[bL b]⟩,nn 1 ([]))
def xs16.un (r:R):Bool:=((leafR r 0).dat .bool)
def xs16 (v0:List (Int × Int × Bool)) (v1:List (List Int × List Int × Bool)):Option (Bool):=tOf xs16.mk (vlim E 43 (xs16.c v0 v1))
def xs1s.c (v0:Int) (v1:Int) (v2:Int):List Cell:=vc (iL v0)::vc (iL v1)::vc (iL v2)::[]
def xs1s.mk (b:Bool):R:=(⟨.one,[bL b]⟩,nn 3 ([]))
def xs1s.un (r:R):Bool:=((leafR r 0).dat .bool)
def xs1s (v0:Int) (v1:Int) (v2:Int):Option (Bool):=tOf xs1s.mk (vlim E 76 (xs1s.c v0 v1 v2))
def xs11.c (v0:Int):List Cell:=vc (iL v0)::[]
def xs11.mk (b:Bool):R:=(⟨.one,[bL b]⟩,nn 1 ([]))
def xs11.un (r:R):Bool:=((leafR r 0).dat .bool)
def xs11 (v0:Int):Option (Bool):=tOf xs11.mk (vlim E 77 (xs11.c v0))
def xs1q.c (v0:List (Int × Int × Bool)) (v1:List (List Int × List Int × Bool)):List Cell:=ac [.d .fro Yb v0,.d .fro Ya v1]::[]
def xs1q.mk (b:(List (Int × Int × Bool)) × (List (List Int × List Int × Bool))):R:=(⟨.agg,[.d .deep Yb b.1,.d .deep Ya b.2]⟩,nn 1 ([]))
def xs1q.un (r:R):(List (Int × Int × Bool)) × (List (List Int × List Int × Bool)):=((leafR r 0).dat Yb,(leafR r 1).dat Ya)
def xs1q (v0:List (Int × Int × Bool)) (v1:List (List Int × List Int × Bool)):Option ((List (Int × Int × Bool)) × (List (List Int × List Int × Bool))):=tOf xs1q.mk (vlim E 45 (xs1q.c v0 v1))
def xs10.c (v0:List (Int × Int × Bool)) (v1:List (List Int × List Int × Bool)):List Cell:=ac [.d .fro Yb v0,.d .fro Ya v1]::[]
def xs10.mk (b:Int × Bool):R:=(⟨(.tup [none,none]),[iL b.1,bL b.2]⟩,nn 1 ([]))
def xs10.un (r:R):Int × Bool:=((leafR r 0).dat (.int .i64),(leafR r 1).dat .bool)
def xs10 (v0:List (Int × Int × Bool)) (v1:List (List Int × List Int × Bool)):Option (Int × Bool):=tOf xs10.mk (vlim E 39 (xs10.c v0 v1))
def xs17.c (v0:List (Int × Int × Bool)) (v1:List (List Int × List Int × Bool)) (v2:Int) (v3:Int) (v4:Int) (v5:Int):List Cell:=ac [.d .fro Yb v0,.d .fro Ya v1]::ac [iL v2,iL v3,iL v4,iL v5]::[]
def xs17.mk (b:(List (Int × Int × Bool)) × (List (List Int × List Int × Bool)) × Bool):R:=(⟨(.tup [some 2,none]),[.d .deep Yb b.1,.d .deep Ya b.2.1,bL b.2.2]⟩,nn 2 ([]))
def xs17.un (r:R):(List (Int × Int × Bool)) × (List (List Int × List Int × Bool)) × Bool:=((leafR r 0).dat Yb,(leafR r 1).dat Ya,(leafR r 2).dat .bool)
def xs17 (v0:List (Int × Int × Bool)) (v1:List (List Int × List Int × Bool)) (v2:Int) (v3:Int) (v4:Int) (v5:Int):Option ((List (Int × Int × Bool)) × (List (List Int × List Int × Bool)) × Bool):=tOf xs17.mk (vlim E 9 (xs17.c v0 v1 v2 v3 v4 v5))
def xs0v.c (v0:List (Int × Int × Bool)) (v1:List (List Int × List Int × Bool)) (v2:Int) (v3:Int) (v4:Int) (v5:Int):List Cell:=ac [.d .deep Yb v0,.d .deep Ya v1]::ac [iL v2,iL v3,iL v4,iL v5]::[]
def xs0v.mk (b:(List (Int × Int × Bool)) × (List (List Int × List Int × Bool)) × Bool):R:=(⟨(.tup [some 2,none]),[.d .deep Yb b.1,.d .deep Ya b.2.1,bL b.2.2]⟩,nn 2 ([]))
def xs0v.un (r:R):(List (Int × Int × Bool)) × (List (List Int × List Int × Bool)) × Bool:=((leafR r 0).dat Yb,(leafR r 1).dat Ya,(leafR r 2).dat .bool)
def xs0v (v0:List (Int × Int × Bool)) (v1:List (List Int × List Int × Bool)) (v2:Int) (v3:Int) (v4:Int) (v5:Int):Option ((List (Int × Int × Bool)) × (List (List Int × List Int × Bool)) × Bool):=tOf xs0v.mk (vlim E 44 (xs0v.c v0 v1 v2 v3 v4 v5))
def xs0u.c (v0:List (Int × Int × Bool)) (v1:List (List Int × List Int × Bool)) (v2:Int) (v3:Int):List Cell:=ac [.d .deep Yb v0,.d .deep Ya v1]::vc (iL v2)::vc (iL v3)::[]
def xs0u.mk (b:(List (Int × Int × Bool)) × (List (List Int × List Int × Bool)) × Bool):R:=(⟨(.tup [some 2,none]),[.d .deep Yb b.1,.d .deep Ya b.2.1,bL b.2.2]⟩,nn 3 ([]))
def xs0u.un (r:R):(List (Int × Int × Bool)) × (List (List Int × List Int × Bool)) × Bool:=((leafR r 0).dat Yb,(leafR r 1).dat Ya,(leafR r 2).dat .bool)
def xs0u (v0:List (Int × Int × Bool)) (v1:List (List Int × List Int × Bool)) (v2:Int) (v3:Int):Option ((List (Int × Int × Bool)) × (List (List Int × List Int × Bool)) × Bool):=tOf xs0u.mk (vlim E 78 (xs0u.c v0 v1 v2 v3))
def xi0w.c (v0:List (Int × Int × Bool)) (v1:List (List Int × List Int × Bool)):List Cell:=ac [.d .fro Yb v0,.d .fro Ya v1]::[]
def xi0w.mk (b:(List (Int × Int × Bool)) × (List (List Int × List Int × Bool)) × Int × Bool):R:=(⟨(.tup [some 2,none,none]),[.d .deep Yb b.1,.d .deep Ya b.2.1,iL b.2.2.1,bL b.2.2.2]⟩,nn 1 ([]))
def xi0w.un (r:R):(List (Int × Int × Bool)) × (List (List Int × List Int × Bool)) × Int × Bool:=((leafR r 0).dat Yb,(leafR r 1).dat Ya,(leafR r 2).dat (.int .i64),(leafR r 3).dat .bool)
def xi0w (v0:List (Int × Int × Bool)) (v1:List (List Int × List Int × Bool)):Option ((List (Int × Int × Bool)) × (List (List Int × List Int × Bool)) × Int × Bool):=tOf xi0w.mk (vlim E 17 (xi0w.c v0 v1))
def xi12.c (v0:List (Int × Int × Bool)) (v1:List (List Int × List Int × Bool)):List Cell:=ac [.d .fro Yb v0,.d .fro Ya v1]::[]
def xi12.mk (b:Bool):R:=(⟨.one,[bL b]⟩,nn 1 ([]))
def xi12.un (r:R):Bool:=((leafR r 0).dat .bool)
def xi12 (v0:List (Int × Int × Bool)) (v1:List (List Int × List Int × Bool)):Option (Bool):=tOf xi12.mk (vlim E 34 (xi12.c v0 v1))
def xi1e.c (v0:Int) (v1:Int) (v2:Int):List Cell:=vc (iL v0)::vc (iL v1)::vc (iL v2)::[]
def xi1e.mk (b:Bool):R:=(⟨.one,[bL b]⟩,nn 3 ([]))
def xi1e.un (r:R):Bool:=((leafR r 0).dat .bool)
def xi1e (v0:Int) (v1:Int) (v2:Int):Option (Bool):=tOf xi1e.mk (vlim E 68 (xi1e.c v0 v1 v2))
def xi0t.c (v0:List Int) (v1:List Int) (v2:Bool) (v3:Int) (v4:Int) (v5:Bool):List Cell:=ac [.d .fro (.sl (.int .i64)) v0,.d .fro (.sl (.int .i64)) v1,bL v2]::ac [iL v3,iL v4,bL v5]::[]
def xi0t.mk (b:Bool):R:=(⟨.one,[bL b]⟩,nn 2 ([]))
def xi0t.un (r:R):Bool:=((leafR r 0).dat .bool)
def xi0t (v0:List Int) (v1:List Int) (v2:Bool) (v3:Int) (v4:Int) (v5:Bool):Option (Bool):=tOf xi0t.mk (vlim E 69 (xi0t.c v0 v1 v2 v3 v4 v5))
def xi09.c (v0:List Int):List Cell:=vc (.d .fro (.sl (.int .i64)) v0)::vc (.fn 91 [])::[]
def xi09.mk (b:Bool):R:=(⟨.one,[bL b]⟩,nn 2 ([]))
def xi09.un (r:R):Bool:=((leafR r 0).dat .bool)
def xi09 (v0:List Int):Option (Bool):=tOf xi09.mk (vlim E 90 (xi09.c v0))
def xs00.c (v0:List Int):List Cell:=vc (.d .fro (.sl (.int .i64)) v0)::vc (.fn 99 [.rp [.fn 91 []] 0])::[]
def xs00.mk (b:Bool):R:=(⟨.one,[bL b]⟩,nn 2 ([]))
def xs00.un (r:R):Bool:=((leafR r 0).dat .bool)
def xs00 (v0:List Int):Option (Bool):=tOf xs00.mk (vlim E 98 (xs00.c v0))
def xs02.c (v0:List Int):List Cell:=vc (.d .fro (.sl (.int .i64)) v0)::vc (.fn 99 [.rp [.fn 91 []] 0])::[]
def xs02.mk (b:Int):R:=(⟨.one,[iL b]⟩,nn 2 ([]))
def xs02.un (r:R):Int:=((leafR r 0).dat (.int .i64))
def xs02 (v0:List Int):Option (Int):=tOf xs02.mk (vlim E 101 (xs02.c v0))
def xi07.c (v0:Int):List Cell:=vc (iL v0)::vc (.rp [.fn 91 []] 0)::[]
def xi07.mk (b:Bool):R:=(⟨.one,[bL b]⟩,nn 2 ([]))
def xi07.un (r:R):Bool:=((leafR r 0).dat .bool)
def xi07 (v0:Int):Option (Bool):=tOf xi07.mk (vlim E 99 (xi07.c v0))
def xi0i.c (v0:Int):List Cell:=vc (iL v0)::[]
def xi0i.mk (b:Bool):R:=(⟨.one,[bL b]⟩,nn 1 ([]))
def xi0i.un (r:R):Bool:=((leafR r 0).dat .bool)
def xi0i (v0:Int):Option (Bool):=tOf xi0i.mk (vlim E 91 (xi0i.c v0))
def xi0p.c (v0:Int):List Cell:=vc (iL v0)::[]
def xi0p.mk (b:Bool):R:=(⟨.one,[bL b]⟩,nn 1 ([]))
def xi0p.un (r:R):Bool:=((leafR r 0).dat .bool)
def xi0p (v0:Int):Option (Bool):=tOf xi0p.mk (vlim E 92 (xi0p.c v0))
def xi0a.c (v0:List Int):List Cell:=vc (.d .fro (.sl (.int .i64)) v0)::vc (.fn 92 [])::[]
def xi0a.mk (b:Bool):R:=(⟨.one,[bL b]⟩,nn 2 ([]))
def xi0a.un (r:R):Bool:=((leafR r 0).dat .bool)
def xi0a (v0:List Int):Option (Bool):=tOf xi0a.mk (vlim E 90 (xi0a.c v0))
def xs01.c (v0:List Int):List Cell:=vc (.d .fro (.sl (.int .i64)) v0)::vc (.fn 99 [.rp [.fn 92 []] 0])::[]
def xs01.mk (b:Bool):R:=(⟨.one,[bL b]⟩,nn 2 ([]))
def xs01.un (r:R):Bool:=((leafR r 0).dat .bool)
def xs01 (v0:List Int):Option (Bool):=tOf xs01.mk (vlim E 98 (xs01.c v0))
def xs03.c (v0:List Int):List Cell:=vc (.d .fro (.sl (.int .i64)) v0)::vc (.fn 99 [.rp [.fn 92 []] 0])::[]
def xs03.mk (b:Int):R:=(⟨.one,[iL b]⟩,nn 2 ([]))
def xs03.un (r:R):Int:=((leafR r 0).dat (.int .i64))
def xs03 (v0:List Int):Option (Int):=tOf xs03.mk (vlim E 101 (xs03.c v0))
def xi08.c (v0:Int):List Cell:=vc (iL v0)::vc (.rp [.fn 92 []] 0)::[]
def xi08.mk (b:Bool):R:=(⟨.one,[bL b]⟩,nn 2 ([]))
def xi08.un (r:R):Bool:=((leafR r 0).dat .bool)
def xi08 (v0:Int):Option (Bool):=tOf xi08.mk (vlim E 99 (xi08.c v0))
def xi0s.c (v0:List Int) (v1:List Int) (v2:Bool):List Cell:=ac [.d .fro (.sl (.int .i64)) v0,.d .fro (.sl (.int .i64)) v1,bL v2]::[]
def xi0s.mk (b:Bool):R:=(⟨.one,[bL b]⟩,nn 1 ([]))
def xi0s.un (r:R):Bool:=((leafR r 0).dat .bool)
def xi0s (v0:List Int) (v1:List Int) (v2:Bool):Option (Bool):=tOf xi0s.mk (vlim E 70 (xi0s.c v0 v1 v2))
def xi1r.c (v0:List Int):List Cell:=vc (.d .fro (.sl (.int .i64)) v0)::[]
def xi1r.mk (b:Int):R:=(⟨.one,[iL b]⟩,nn 1 ([]))
def xi1r.un (r:R):Int:=((leafR r 0).dat (.int .i64))
def xi1r (v0:List Int):Option (Int):=tOf xi1r.mk (vlim E 67 (xi1r.c v0))
def xs04.c (v0:List (Int × Int × Bool)):List Cell:=vc (.d .fro Yb v0)::vc (.fn 56 [])::[]
def xs04.mk (b:Bool):R:=(⟨.one,[bL b]⟩,nn 2 ([]))
def xs04.un (r:R):Bool:=((leafR r 0).dat .bool)
def xs04 (v0:List (Int × Int × Bool)):Option (Bool):=tOf xs04.mk (vlim E 55 (xs04.c v0))
def xs05.c (v0:List (Int × Int × Bool)):List Cell:=vc (.d .fro Yb v0)::vc (.fn 56 [])::[]
def xs05.mk (b:Int):R:=(⟨.one,[iL b]⟩,nn 2 ([]))
def xs05.un (r:R):Int:=((leafR r 0).dat (.int .i64))
def xs05 (v0:List (Int × Int × Bool)):Option (Int):=tOf xs05.mk (vlim E 85 (xs05.c v0))
def xi0l.c (v0:Int) (v1:Int) (v2:Bool):List Cell:=ac [iL v0,iL v1,bL v2]::[]
def xi0l.mk (b:Bool):R:=(⟨.one,[bL b]⟩,nn 1 ([]))
def xi0l.un (r:R):Bool:=((leafR r 0).dat .bool)
def xi0l (v0:Int) (v1:Int) (v2:Bool):Option (Bool):=tOf xi0l.mk (vlim E 56 (xi0l.c v0 v1 v2))
def xi13.c (v0:List (Int × Int × Bool)) (v1:List (List Int × List Int × Bool)):List Cell:=ac [.d .fro Yb v0,.d .fro Ya v1]::[]
def xi13.mk (b:(List (Int × Int × Bool)) × (List (List Int × List Int × Bool))):R:=(⟨.agg,[.d .deep Yb b.1,.d .deep Ya b.2]⟩,nn 1 ([]))
def xi13.un (r:R):(List (Int × Int × Bool)) × (List (List Int × List Int × Bool)):=((leafR r 0).dat Yb,(leafR r 1).dat Ya)
def xi13 (v0:List (Int × Int × Bool)) (v1:List (List Int × List Int × Bool)):Option ((List (Int × Int × Bool)) × (List (List Int × List Int × Bool))):=tOf xi13.mk (vlim E 57 (xi13.c v0 v1))
def xs0b.c (v0:List (Int × Int × Bool)):List Cell:=vc (.d .fro Yb v0)::[]
def xs0b.mk (b:(List (Int × Int × Bool))):R:=(⟨.one,[.d .deep Yb b]⟩,nn 1 ([]))
def xs0b.un (r:R):(List (Int × Int × Bool)):=((leafR r 0).dat Yb)
def xs0b (v0:List (Int × Int × Bool)):Option ((List (Int × Int × Bool))):=tOf xs0b.mk (vlim E 86 (xs0b.c v0))
def xs0d.c (v0:List Int):List Cell:=vc (.d .fro (.sl (.int .i64)) v0)::[]
def xs0d.mk (b:(List Int)):R:=(⟨.one,[.d .deep (.sl (.int .i64)) b]⟩,nn 1 ([]))
def xs0d.un (r:R):(List Int):=((leafR r 0).dat (.sl (.int .i64)))
def xs0d (v0:List Int):Option ((List Int)):=tOf xs0d.mk (vlim E 87 (xs0d.c v0))
def xs06.c (v0:List (List Int × List Int × Bool)):List Cell:=vc (.d .fro Ya v0)::vc (.fn 59 [])::[]
def xs06.mk (b:Int):R:=(⟨.one,[iL b]⟩,nn 2 ([]))
def xs06.un (r:R):Int:=((leafR r 0).dat (.int .i64))
def xs06 (v0:List (List Int × List Int × Bool)):Option (Int):=tOf xs06.mk (vlim E 58 (xs06.c v0))
def xi0m.c (v0:List Int) (v1:List Int) (v2:Bool):List Cell:=ac [.d .fro (.sl (.int .i64)) v0,.d .fro (.sl (.int .i64)) v1,bL v2]::[]
def xi0m.mk (b:Bool):R:=(⟨.one,[bL b]⟩,nn 1 ([]))
def xi0m.un (r:R):Bool:=((leafR r 0).dat .bool)
def xi0m (v0:List Int) (v1:List Int) (v2:Bool):Option (Bool):=tOf xi0m.mk (vlim E 59 (xi0m.c v0 v1 v2))
def xi0n.c (v0:List (Int × Int × Bool)) (v1:List (List Int × List Int × Bool)):List Cell:=ac [.d .fro Yb v0,.d .fro Ya v1]::[]
def xi0n.mk (b:Int × Bool):R:=(⟨(.tup [none,none]),[iL b.1,bL b.2]⟩,nn 1 ([]))
def xi0n.un (r:R):Int × Bool:=((leafR r 0).dat (.int .i64),(leafR r 1).dat .bool)
def xi0n (v0:List (Int × Int × Bool)) (v1:List (List Int × List Int × Bool)):Option (Int × Bool):=tOf xi0n.mk (vlim E 60 (xi0n.c v0 v1))
def xi0o.c (v0:List (Int × Int × Bool)) (v1:List (List Int × List Int × Bool)) (v2:Int) (v3:Int) (v4:Int) (v5:Int):List Cell:=ac [.d .fro Yb v0,.d .fro Ya v1]::ac [iL v2,iL v3,iL v4,iL v5]::[]
def xi0o.mk (b:(List (Int × Int × Bool)) × (List (List Int × List Int × Bool)) × Bool):R:=(⟨(.tup [some 2,none]),[.d .deep Yb b.1,.d .deep Ya b.2.1,bL b.2.2]⟩,nn 2 ([]))
def xi0o.un (r:R):(List (Int × Int × Bool)) × (List (List Int × List Int × Bool)) × Bool:=((leafR r 0).dat Yb,(leafR r 1).dat Ya,(leafR r 2).dat .bool)
def xi0o (v0:List (Int × Int × Bool)) (v1:List (List Int × List Int × Bool)) (v2:Int) (v3:Int) (v4:Int) (v5:Int):Option ((List (Int × Int × Bool)) × (List (List Int × List Int × Bool)) × Bool):=tOf xi0o.mk (vlim E 48 (xi0o.c v0 v1 v2 v3 v4 v5))
def xi0g.c (v0:List (Int × Int × Bool)) (v1:List (List Int × List Int × Bool)) (v2:Int) (v3:Int) (v4:Int) (v5:Int):List Cell:=⟨(.val .agg),[.d .deep Yb v0,.d .deep Ya v1],true,false,false,0,0⟩::ac [iL v2,iL v3,iL v4,iL v5]::[]
def xi0g.mk (b:Bool × (List (Int × Int × Bool)) × (List (List Int × List Int × Bool))):R:=(⟨.one,[bL b.1]⟩,⟨(.val .agg),[.d .deep Yb b.2.1,.d .deep Ya b.2.2],true,false,false,0,0⟩::nn 1 ([]))
def xi0g.un (r:R):Bool × (List (Int × Int × Bool)) × (List (List Int × List Int × Bool)):=((leafR r 0).dat .bool,(leafF r 0 0).dat Yb,(leafF r 0 1).dat Ya)
def xi0g (v0:List (Int × Int × Bool)) (v1:List (List Int × List Int × Bool)) (v2:Int) (v3:Int) (v4:Int) (v5:Int):Option (Bool × (List (Int × Int × Bool)) × (List (List Int × List Int × Bool))):=tOf xi0g.mk (vlim E 81 (xi0g.c v0 v1 v2 v3 v4 v5))
def xi0e.c (v0:List (Int × Int × Bool)) (v1:List (List Int × List Int × Bool)) (v2:Int) (v3:Int):List Cell:=⟨(.val .agg),[.d .deep Yb v0,.d .deep Ya v1],true,false,false,0,0⟩::vc (iL v2)::vc (iL v3)::[]
def xi0e.mk (b:Bool × (List (Int × Int × Bool)) × (List (List Int × List Int × Bool))):R:=(⟨.one,[bL b.1]⟩,⟨(.val .agg),[.d .deep Yb b.2.1,.d .deep Ya b.2.2],true,false,false,0,0⟩::nn 2 ([]))
def xi0e.un (r:R):Bool × (List (Int × Int × Bool)) × (List (List Int × List Int × Bool)):=((leafR r 0).dat .bool,(leafF r 0 0).dat Yb,(leafF r 0 1).dat Ya)
def xi0e (v0:List (Int × Int × Bool)) (v1:List (List Int × List Int × Bool)) (v2:Int) (v3:Int):Option (Bool × (List (Int × Int × Bool)) × (List (List Int × List Int × Bool))):=tOf xi0e.mk (vlim E 95 (xi0e.c v0 v1 v2 v3))
def xi0f.c (v0:List (Int × Int × Bool)) (v1:List (List Int × List Int × Bool)) (v2:Int) (v3:Int) (v4:Int) (v5:Int):List Cell:=⟨(.val .agg),[.d .deep Yb v0,.d .deep Ya v1],true,false,false,0,0⟩::ac [iL v2,iL v3,iL v4,iL v5]::[]
def xi0f.mk (b:Bool × (List (Int × Int × Bool)) × (List (List Int × List Int × Bool))):R:=(⟨.one,[bL b.1]⟩,⟨(.val .agg),[.d .deep Yb b.2.1,.d .deep Ya b.2.2],true,false,false,0,0⟩::nn 1 ([]))
def xi0f.un (r:R):Bool × (List (Int × Int × Bool)) × (List (List Int × List Int × Bool)):=((leafR r 0).dat .bool,(leafF r 0 0).dat Yb,(leafF r 0 1).dat Ya)
def xi0f (v0:List (Int × Int × Bool)) (v1:List (List Int × List Int × Bool)) (v2:Int) (v3:Int) (v4:Int) (v5:Int):Option (Bool × (List (Int × Int × Bool)) × (List (List Int × List Int × Bool))):=tOf xi0f.mk (vlim E 96 (xi0f.c v0 v1 v2 v3 v4 v5))
def xi0h.c (v0:List (Int × Int × Bool)) (v1:List (List Int × List Int × Bool)) (v2:Int) (v3:Int):List Cell:=⟨(.val .agg),[.d .deep Yb v0,.d .deep Ya v1],true,false,false,0,0⟩::vc (iL v2)::vc (iL v3)::[]
def xi0h.mk (b:Bool × (List (Int × Int × Bool)) × (List (List Int × List Int × Bool))):R:=(⟨.one,[bL b.1]⟩,⟨(.val .agg),[.d .deep Yb b.2.1,.d .deep Ya b.2.2],true,false,false,0,0⟩::nn 2 ([]))
def xi0h.un (r:R):Bool × (List (Int × Int × Bool)) × (List (List Int × List Int × Bool)):=((leafR r 0).dat .bool,(leafF r 0 0).dat Yb,(leafF r 0 1).dat Ya)
def xi0h (v0:List (Int × Int × Bool)) (v1:List (List Int × List Int × Bool)) (v2:Int) (v3:Int):Option (Bool × (List (Int × Int × Bool)) × (List (List Int × List Int × Bool))):=tOf xi0h.mk (vlim E 97 (xi0h.c v0 v1 v2 v3))
def xl1h.c (v0:List (Int × Int × Bool)) (v1:List (List Int × List Int × Bool)) (v2:List (Int × Int × Bool)) (v3:List (List Int × List Int × Bool)):List Cell:=ac [.d .fro Yb v0,.d .fro Ya v1]::ac [.d .fro Yb v2,.d .fro Ya v3]::[]
def xl1h.mk (b:Bool):R:=(⟨.one,[bL b]⟩,nn 2 ([]))
def xl1h.un (r:R):Bool:=((leafR r 0).dat .bool)
def xl1h (v0:List (Int × Int × Bool)) (v1:List (List Int × List Int × Bool)) (v2:List (Int × Int × Bool)) (v3:List (List Int × List Int × Bool)):Option (Bool):=tOf xl1h.mk (vlim E 13 (xl1h.c v0 v1 v2 v3))
def xl18.c (v0:List (Int × Int × Bool)) (v1:List (Int × Int × Bool)):List Cell:=vc (.d .fro Yb v0)::vc (.d .fro Yb v1)::[]
def xl18.mk (b:Bool):R:=(⟨.one,[bL b]⟩,nn 2 ([]))
def xl18.un (r:R):Bool:=((leafR r 0).dat .bool)
def xl18 (v0:List (Int × Int × Bool)) (v1:List (Int × Int × Bool)):Option (Bool):=tOf xl18.mk (vlim E 49 (xl18.c v0 v1))
def xl1g.c (v0:Int) (v1:Int) (v2:Bool) (v3:Int) (v4:Int) (v5:Bool):List Cell:=ac [iL v0,iL v1,bL v2]::ac [iL v3,iL v4,bL v5]::[]
def xl1g.mk (b:Bool):R:=(⟨.one,[bL b]⟩,nn 2 ([]))
def xl1g.un (r:R):Bool:=((leafR r 0).dat .bool)
def xl1g (v0:Int) (v1:Int) (v2:Bool) (v3:Int) (v4:Int) (v5:Bool):Option (Bool):=tOf xl1g.mk (vlim E 82 (xl1g.c v0 v1 v2 v3 v4 v5))
def xl19.c (v0:List (List Int × List Int × Bool)) (v1:List (List Int × List Int × Bool)):List Cell:=vc (.d .fro Ya v0)::vc (.d .fro Ya v1)::[]
def xl19.mk (b:Bool):R:=(⟨.one,[bL b]⟩,nn 2 ([]))
def xl19.un (r:R):Bool:=((leafR r 0).dat .bool)
def xl19 (v0:List (List Int × List Int × Bool)) (v1:List (List Int × List Int × Bool)):Option (Bool):=tOf xl19.mk (vlim E 50 (xl19.c v0 v1))
def xl1i.c (v0:List Int) (v1:List Int) (v2:Bool) (v3:List Int) (v4:List Int) (v5:Bool):List Cell:=ac [.d .fro (.sl (.int .i64)) v0,.d .fro (.sl (.int .i64)) v1,bL v2]::ac [.d .fro (.sl (.int .i64)) v3,.d .fro (.sl (.int .i64)) v4,bL v5]::[]
def xl1i.mk (b:Bool):R:=(⟨.one,[bL b]⟩,nn 2 ([]))
def xl1i.un (r:R):Bool:=((leafR r 0).dat .bool)
def xl1i (v0:List Int) (v1:List Int) (v2:Bool) (v3:List Int) (v4:List Int) (v5:Bool):Option (Bool):=tOf xl1i.mk (vlim E 83 (xl1i.c v0 v1 v2 v3 v4 v5))
def xl1f.c (v0:List Int) (v1:List Int):List Cell:=vc (.d .fro (.sl (.int .i64)) v0)::vc (.d .fro (.sl (.int .i64)) v1)::[]
def xl1f.mk (b:Bool):R:=(⟨.one,[bL b]⟩,nn 2 ([]))
def xl1f.un (r:R):Bool:=((leafR r 0).dat .bool)
def xl1f (v0:List Int) (v1:List Int):Option (Bool):=tOf xl1f.mk (vlim E 24 (xl1f.c v0 v1))
def xl0r.c (v0:List (Int × Int × Bool)) (v1:List (List Int × List Int × Bool)) (v2:Int):List Cell:=⟨(.val .agg),[.d .deep Yb v0,.d .deep Ya v1],true,false,false,0,0⟩::vc (iL v2)::[]
def xl0r.mk (b:Int × (List (Int × Int × Bool)) × (List (List Int × List Int × Bool))):R:=(⟨.one,[iL b.1]⟩,⟨(.val .agg),[.d .deep Yb b.2.1,.d .deep Ya b.2.2],true,false,false,0,0⟩::nn 1 ([]))
def xl0r.un (r:R):Int × (List (Int × Int × Bool)) × (List (List Int × List Int × Bool)):=((leafR r 0).dat (.int .i64),(leafF r 0 0).dat Yb,(leafF r 0 1).dat Ya)
def xl0r (v0:List (Int × Int × Bool)) (v1:List (List Int × List Int × Bool)) (v2:Int):Option (Int × (List (Int × Int × Bool)) × (List (List Int × List Int × Bool))):=tOf xl0r.mk (vlim E 14 (xl0r.c v0 v1 v2))
def xl0j.c (v0:List (Int × Int × Bool)) (v1:Int):List Cell:=⟨(.val .one),[.d .deep Yb v0],true,false,false,0,0⟩::vc (iL v1)::[]
def xl0j.mk (b:Int × (List (Int × Int × Bool))):R:=(⟨.one,[iL b.1]⟩,⟨(.val .one),[.d .deep Yb b.2],true,false,false,0,0⟩::nn 1 ([]))
def xl0j.un (r:R):Int × (List (Int × Int × Bool)):=((leafR r 0).dat (.int .i64),(leafF r 0 0).dat Yb)
def xl0j (v0:List (Int × Int × Bool)) (v1:Int):Option (Int × (List (Int × Int × Bool))):=tOf xl0j.mk (vlim E 51 (xl0j.c v0 v1))
def xl0k.c (v0:List (List Int × List Int × Bool)) (v1:Int):List Cell:=⟨(.val .one),[.d .deep Ya v0],true,false,false,0,0⟩::vc (iL v1)::[]
def xl0k.mk (b:Int × (List (List Int × List Int × Bool))):R:=(⟨.one,[iL b.1]⟩,⟨(.val .one),[.d .deep Ya b.2],true,false,false,0,0⟩::nn 1 ([]))
def xl0k.un (r:R):Int × (List (List Int × List Int × Bool)):=((leafR r 0).dat (.int .i64),(leafF r 0 0).dat Ya)
def xl0k (v0:List (List Int × List Int × Bool)) (v1:Int):Option (Int × (List (List Int × List Int × Bool))):=tOf xl0k.mk (vlim E 52 (xl0k.c v0 v1))
def xl0q.c (v0:List Int) (v1:Int):List Cell:=⟨(.val .one),[.d .deep (.sl (.int .i64)) v0],true,false,false,0,0⟩::vc (iL v1)::[]
def xl0q.mk (b:Int × (List Int)):R:=(⟨.one,[iL b.1]⟩,⟨(.val .one),[.d .deep (.sl (.int .i64)) b.2],true,false,false,0,0⟩::nn 1 ([]))
def xl0q.un (r:R):Int × (List Int):=((leafR r 0).dat (.int .i64),(leafF r 0 0).dat (.sl (.int .i64)))
def xl0q (v0:List Int) (v1:Int):Option (Int × (List Int)):=tOf xl0q.mk (vlim E 26 (xl0q.c v0 v1))
def xl15.c (v0:List (Int × Int × Bool)) (v1:List (List Int × List Int × Bool)) (v2:Int):List Cell:=ac [.d .fro Yb v0,.d .fro Ya v1]::vc (iL v2)::[]
def xl15.mk (b:Int):R:=(⟨.one,[iL b]⟩,nn 2 ([]))
def xl15.un (r:R):Int:=((leafR r 0).dat (.int .i64))
def xl15 (v0:List (Int × Int × Bool)) (v1:List (List Int × List Int × Bool)) (v2:Int):Option (Int):=tOf xl15.mk (vlim E 15 (xl15.c v0 v1 v2))
def xl0y.c (v0:List (Int × Int × Bool)) (v1:Int):List Cell:=vc (.d .fro Yb v0)::vc (iL v1)::[]
def xl0y.mk (b:Int):R:=(⟨.one,[iL b]⟩,nn 2 ([]))
def xl0y.un (r:R):Int:=((leafR r 0).dat (.int .i64))
def xl0y (v0:List (Int × Int × Bool)) (v1:Int):Option (Int):=tOf xl0y.mk (vlim E 53 (xl0y.c v0 v1))
def xl0z.c (v0:List (List Int × List Int × Bool)) (v1:Int):List Cell:=vc (.d .fro Ya v0)::vc (iL v1)::[]
def xl0z.mk (b:Int):R:=(⟨.one,[iL b]⟩,nn 2 ([]))
def xl0z.un (r:R):Int:=((leafR r 0).dat (.int .i64))
def xl0z (v0:List (List Int × List Int × Bool)) (v1:Int):Option (Int):=tOf xl0z.mk (vlim E 54 (xl0z.c v0 v1))
def xl14.c (v0:List Int) (v1:Int):List Cell:=vc (.d .fro (.sl (.int .i64)) v0)::vc (iL v1)::[]
def xl14.mk (b:Int):R:=(⟨.one,[iL b]⟩,nn 2 ([]))
def xl14.un (r:R):Int:=((leafR r 0).dat (.int .i64))
def xl14 (v0:List Int) (v1:Int):Option (Int):=tOf xl14.mk (vlim E 84 (xl14.c v0 v1))
def tabT : List (Nat × List (List Cell × Tb)) := [
 (4,[(xl0c.c [] [],.one (Bool) xl0c.mk)]),
 (8,[(xl1k.c [] [] 0,.one (Int) xl1k.mk)]),
 (9,[(xs17.c [] [] 0 0 0 0,.one ((List (Int × Int × Bool)) × (List (List Int × List Int × Bool)) × Bool) xs17.mk)]),
 (10,[(xl1o.c [] [],.one ((List (Int × Int × Bool)) × (List (List Int × List Int × Bool))) xl1o.mk)]),
 (13,[(xl1h.c [] [] [] [],.one (Bool) xl1h.mk)]),
 (14,[(xl0r.c [] [] 0,.one (Int × (List (Int × Int × Bool)) × (List (List Int × List Int × Bool))) xl0r.mk)]),
 (15,[(xl15.c [] [] 0,.one (Int) xl15.mk)]),
 (16,[(xs0x.c [] [],.one ((List (Int × Int × Bool)) × (List (List Int × List Int × Bool)) × Int × Bool) xs0x.mk)]),
 (17,[(xi0w.c [] [],.one ((List (Int × Int × Bool)) × (List (List Int × List Int × Bool)) × Int × Bool) xi0w.mk)]),
 (20,[(xl1m.c [],.one ((List Int)) xl1m.mk)]),
 (24,[(xl1f.c [] [],.one (Bool) xl1f.mk)]),
 (26,[(xl0q.c [] 0,.one (Int × (List Int)) xl0q.mk)]),
 (34,[(xi12.c [] [],.one (Bool) xi12.mk)]),
 (39,[(xs10.c [] [],.one (Int × Bool) xs10.mk)]),
 (41,[(xl1a.c [] 0,.one (Int) xl1a.mk)]),
 (42,[(xl1b.c [] 0,.one (Int) xl1b.mk)]),
 (43,[(xs16.c [] [],.one (Bool) xs16.mk)]),
 (44,[(xs0v.c [] [] 0 0 0 0,.one ((List (Int × Int × Bool)) × (List (List Int × List Int × Bool)) × Bool) xs0v.mk)]),
 (45,[(xs1q.c [] [],.one ((List (Int × Int × Bool)) × (List (List Int × List Int × Bool))) xs1q.mk)]),
 (46,[(xl1c.c [],.one ((List (Int × Int × Bool))) xl1c.mk)]),
 (47,[(xl1d.c [],.one ((List (List Int × List Int × Bool))) xl1d.mk)]),
 (48,[(xi0o.c [] [] 0 0 0 0,.one ((List (Int × Int × Bool)) × (List (List Int × List Int × Bool)) × Bool) xi0o.mk)]),
 (49,[(xl18.c [] [],.one (Bool) xl18.mk)]),
 (50,[(xl19.c [] [],.one (Bool) xl19.mk)]),
 (51,[(xl0j.c [] 0,.one (Int × (List (Int × Int × Bool))) xl0j.mk)]),
 (52,[(xl0k.c [] 0,.one (Int × (List (List Int × List Int × Bool))) xl0k.mk)]),
 (53,[(xl0y.c [] 0,.one (Int) xl0y.mk)]),
 (54,[(xl0z.c [] 0,.one (Int) xl0z.mk)]),
 (55,[(xs04.c [],.one (Bool) xs04.mk)]),
 (56,[(xi0l.c 0 0 false,.one (Bool) xi0l.mk)]),
 (57,[(xi13.c [] [],.one ((List (Int × Int × Bool)) × (List (List Int × List Int × Bool))) xi13.mk)]),
 (58,[(xs06.c [],.one (Int) xs06.mk)]),
 (59,[(xi0m.c [] [] false,.one (Bool) xi0m.mk)]),
 (60,[(xi0n.c [] [],.one (Int × Bool) xi0n.mk)]),
 (67,[(xi1r.c [],.one (Int) xi1r.mk)]),
 (68,[(xi1e.c 0 0 0,.one (Bool) xi1e.mk)]),
 (69,[(xi0t.c [] [] false 0 0 false,.one (Bool) xi0t.mk)]),
 (70,[(xi0s.c [] [] false,.one (Bool) xi0s.mk)]),
 (75,[(xl1l.c [] [] false 0,.one (Int) xl1l.mk)]),
 (76,[(xs1s.c 0 0 0,.one (Bool) xs1s.mk)]),
 (77,[(xs11.c 0,.one (Bool) xs11.mk)]),
 (78,[(xs0u.c [] [] 0 0,.one ((List (Int × Int × Bool)) × (List (List Int × List Int × Bool)) × Bool) xs0u.mk)]),
 (79,[(xl1n.c 0 0 false,.one (Int × Int × Bool) xl1n.mk)]),
 (80,[(xl1p.c [] [] false,.one ((List Int) × (List Int) × Bool) xl1p.mk)]),
 (81,[(xi0g.c [] [] 0 0 0 0,.one (Bool × (List (Int × Int × Bool)) × (List (List Int × List Int × Bool))) xi0g.mk)]),
 (82,[(xl1g.c 0 0 false 0 0 false,.one (Bool) xl1g.mk)]),
 (83,[(xl1i.c [] [] false [] [] false,.one (Bool) xl1i.mk)]),
 (84,[(xl14.c [] 0,.one (Int) xl14.mk)]),
 (85,[(xs05.c [],.one (Int) xs05.mk)]),
 (86,[(xs0b.c [],.one ((List (Int × Int × Bool))) xs0b.mk)]),
 (87,[(xs0d.c [],.one ((List Int)) xs0d.mk)]),
 (90,[(xi09.c [],.one (Bool) xi09.mk),(xi0a.c [],.one (Bool) xi0a.mk)]),
 (91,[(xi0i.c 0,.one (Bool) xi0i.mk)]),
 (92,[(xi0p.c 0,.one (Bool) xi0p.mk)]),
 (94,[(xl1j.c [] 0,.one (Int) xl1j.mk)]),
 (95,[(xi0e.c [] [] 0 0,.one (Bool × (List (Int × Int × Bool)) × (List (List Int × List Int × Bool))) xi0e.mk)]),
 (96,[(xi0f.c [] [] 0 0 0 0,.one (Bool × (List (Int × Int × Bool)) × (List (List Int × List Int × Bool))) xi0f.mk)]),
 (97,[(xi0h.c [] [] 0 0,.one (Bool × (List (Int × Int × Bool)) × (List (List Int × List Int × Bool))) xi0h.mk)]),
 (98,[(xs00.c [],.one (Bool) xs00.mk),(xs01.c [],.one (Bool) xs01.mk)]),
 (99,[(xi07.c 0,.one (Bool) xi07.mk),(xi08.c 0,.one (Bool) xi08.mk)]),
 (101,[(xs02.c [],.one (Int) xs02.mk),(xs03.c [],.one (Int) xs03.mk)])]
def tab:FuncId→List Cell→Tb:=fun g cs => match assoc tabT g with | some l => pickT l cs | none => .no
end
end GoV

/- Equations of the program's functions (printed by wip/tools/emit.py). -/
namespace GoV
open Go Go.Proofs
set_option maxRecDepth 100000
noncomputable section

def xl0c.t {γ:Type} (ret:(Bool)→Option γ) (v0:List (Int × Int × Bool)) (v1:List (List Int × List Int × Bool)):Option γ :=
 (xl1k (v0) (v1) ((1048576:Int))).bind fun (r0:Int) =>
 bif decide (r0<(0:Int)) then
 ret (Bool.true)
 else
 (xl1o (v0) (v1)).bind fun (r1:(List (Int × Int × Bool)) × (List (List Int × List Int × Bool))) =>
 (xs0x (r1.fst) (r1.snd)).bind fun (r2:(List (Int × Int × Bool)) × (List (List Int × List Int × Bool)) × Int × Bool) =>
 (xl1o (v0) (v1)).bind fun (r3:(List (Int × Int × Bool)) × (List (List Int × List Int × Bool))) =>
 (xi0w (r3.fst) (r3.snd)).bind fun (r4:(List (Int × Int × Bool)) × (List (List Int × List Int × Bool)) × Int × Bool) =>
 (xl1h (r4.fst) (r4.snd.fst) (r2.fst) (r2.snd.fst)).bind fun (r5:Bool) =>
 bif !r5 then
 ret (Bool.false)
 else
 bif r4.snd.snd.fst != r2.snd.snd.fst then
 ret (Bool.false)
 else
 bif !r4.snd.snd.snd == r2.snd.snd.snd then
 ret (Bool.false)
 else
 (xl1o (v0) (v1)).bind fun (r6:(List (Int × Int × Bool)) × (List (List Int × List Int × Bool))) =>
 (xl1h (r3.fst) (r3.snd) (r6.fst) (r6.snd)).bind fun (r7:Bool) =>
 bif !r7 then
 ret (Bool.false)
 else
 (xl0r (r3.fst) (r3.snd) ((1:Int))).bind fun (r8:Int × (List (Int × Int × Bool)) × (List (List Int × List Int × Bool))) =>
 bif decide (r8.fst<(0:Int)) then
 ret (Bool.false)
 else
 (xl1h (r4.fst) (r4.snd.fst) (r2.fst) (r2.snd.fst)).bind fun (r9:Bool) =>
 bif !r9 then
 ret (Bool.false)
 else
 bif r4.snd.snd.fst != r2.snd.snd.fst then
 ret (Bool.false)
 else
 bif !r4.snd.snd.snd == r2.snd.snd.snd then
 ret (Bool.false)
 else
 (xl0r (r4.fst) (r4.snd.fst) ((1:Int))).bind fun (r10:Int × (List (Int × Int × Bool)) × (List (List Int × List Int × Bool))) =>
 (xl15 (r10.snd.fst) (r10.snd.snd) ((1:Int))).bind fun (r11:Int) =>
 bif decide (r11<(0:Int)) then
 ret (Bool.false)
 else
 bif r11 != r10.fst then
 ret (Bool.false)
 else
 (xl1o (v0) (v1)).bind fun (r12:(List (Int × Int × Bool)) × (List (List Int × List Int × Bool))) =>
 (xi0w (r12.fst) (r12.snd)).bind fun (r13:(List (Int × Int × Bool)) × (List (List Int × List Int × Bool)) × Int × Bool) =>
 (xl1h (r13.fst) (r13.snd.fst) (r2.fst) (r2.snd.fst)).bind fun (r14:Bool) =>
 bif !r14 then
 ret (Bool.false)
 else
 bif r13.snd.snd.fst != r2.snd.snd.fst then
 ret (Bool.false)
 else
 bif !r13.snd.snd.snd == r2.snd.snd.snd then
 ret (Bool.false)
 else
 (xl15 (r10.snd.fst) (r10.snd.snd) ((1:Int))).bind fun (r15:Int) =>
 bif decide (r15<(0:Int)) then
 ret (Bool.false)
 else
 bif r15 != r10.fst then
 ret (Bool.false)
 else
 ret (Bool.true)
theorem xl0c.u:∀ b,xl0c.un (xl0c.mk b)=b:=fun _ => by kernel_rfl
theorem xl0c.eq (v0 v1) {b} (h:xl0c.t some v0 v1=some b):xl0c v0 v1=some b:=eqF xl0c.u Try.f4 (callT_le E tab) rfl rfl rfl (xl0c.t (rR xl0c.mk) v0 v1) (by kernel_rfl) (by unfold xl0c.t; repeat' first | exact sR | exact sN | exact sL | apply sC | (apply sB; intro _)) h
def xl1k.t {γ:Type} (ret:(Int)→Option γ) (v0:List (Int × Int × Bool)) (v1:List (List Int × List Int × Bool)) (v2:Int):Option γ :=
 (xl1a (v0) (v2)).bind fun (r0:Int) =>
 bif decide (r0<(0:Int)) then
 ret ((-1:Int))
 else
 (xl1b (v1) (r0)).bind fun (r1:Int) =>
 bif decide (r1<(0:Int)) then
 ret ((-1:Int))
 else
 ret (r1)
theorem xl1k.u:∀ b,xl1k.un (xl1k.mk b)=b:=fun _ => by kernel_rfl
theorem xl1k.eq (v0 v1 v2) {b} (h:xl1k.t some v0 v1 v2=some b):xl1k v0 v1 v2=some b:=eqF xl1k.u Try.f8 (callT_le E tab) rfl rfl rfl (xl1k.t (rR xl1k.mk) v0 v1 v2) (by kernel_rfl) (by unfold xl1k.t; repeat' first | exact sR | exact sN | exact sL | apply sC | (apply sB; intro _)) h
def xl1a.t {γ:Type} (ret:(Int)→Option γ) (v0:List (Int × Int × Bool)) (v1:Int):Option γ :=
 bif decide (IntKind.i64.wrap (v1 - (↑v0.length:Int))<(0:Int)) then
 ret ((-1:Int))
 else
 ret (IntKind.i64.wrap (v1 - (↑v0.length:Int)))
theorem xl1a.u:∀ b,xl1a.un (xl1a.mk b)=b:=fun _ => by kernel_rfl
theorem xl1a.eq (v0 v1) {b} (h:xl1a.t some v0 v1=some b):xl1a v0 v1=some b:=eqF xl1a.u Try.f41 (callT_le E tab) rfl rfl rfl (xl1a.t (rR xl1a.mk) v0 v1) (by kernel_rfl) (by unfold xl1a.t; repeat' first | exact sR | exact sN | exact sL | apply sC | (apply sB; intro _)) h
def xl1b.s5 (v0:List (List Int × List Int × Bool)) (v1:Int) (v2:Int):List Cell:=vc (.d .fro Ya v0)::vc (iL v1)::nn 3 (vc (iL v2)::nn 21 ([]))
def xl1b.q5:=fun v0 v1 v2 => loopAtL E (callT E tab) 42 Try.f42 2 [.r,.r,.r,.l,.r,.b] (xl1b.s5 v0 v1 v2)
def xl1b.l5:=fun v0 v1 v2 => tOf xl1b.mk (xl1b.q5 v0 v1 v2)
def xl1b.t {γ:Type} (ret:(Int)→Option γ) (lp5:(List (List Int × List Int × Bool))→Int→Int→Option γ) (v0:List (List Int × List Int × Bool)) (v1:Int):Option γ :=
 bif decide (IntKind.i64.wrap (v1 - (↑v0.length:Int))<(0:Int)) then
 ret ((-1:Int))
 else
 lp5 (v0) (IntKind.i64.wrap (v1 - (↑v0.length:Int))) ((0:Int))
def xl1b.t5 {γ:Type} (ret:(Int)→Option γ) (lp5:(List (List Int × List Int × Bool))→Int→Int→Option γ) (v0:List (List Int × List Int × Bool)) (v1:Int) (v2:Int):Option γ :=
 bif decide (v2<(↑v0.length:Int)) then
 bif decide ((0:Int)≤v2) then
 bif decide (v2.toNat<v0.length) then
 (xl1l ((v0.getD v2.toNat ([],[],Bool.false)).fst) ((v0.getD v2.toNat ([],[],Bool.false)).snd.fst) ((v0.getD v2.toNat ([],[],Bool.false)).snd.snd) (v1)).bind fun (r0:Int) =>
 bif decide (r0<(0:Int)) then
 ret ((-1:Int))
 else
 lp5 (v0) (r0) (IntKind.i64.wrap (v2+(1:Int)))
 else
 none
 else
 none
 else
 ret (v1)
theorem xl1b.u:∀ b,xl1b.un (xl1b.mk b)=b:=fun _ => by kernel_rfl
theorem xl1b.eq (v0 v1) {b} (h:xl1b.t some xl1b.l5 v0 v1=some b):xl1b v0 v1=some b:=eqF xl1b.u Try.f42 (callT_le E tab) rfl rfl rfl (xl1b.t (rR xl1b.mk) xl1b.q5 v0 v1) (by kernel_rfl) (by unfold xl1b.t; repeat' first | exact sR | exact sN | exact sL | apply sC | (apply sB; intro _)) h
theorem xl1b.eq5 (v0 v1 v2) {b} (h:xl1b.t5 some xl1b.l5 v0 v1 v2=some b):xl1b.l5 v0 v1 v2=some b:=eqL xl1b.u (xl1b.t5 (rR xl1b.mk) xl1b.q5 v0 v1 v2) (by kernel_rfl) (by unfold xl1b.t5; repeat' first | exact sR | exact sN | exact sL | apply sC | (apply sB; intro _)) h
def xl1l.t {γ:Type} (ret:(Int)→Option γ) (v0:List Int) (v1:List Int) (v2:Bool) (v3:Int):Option γ :=
 (xl1j (v0) (v3)).bind fun (r0:Int) =>
 bif decide (r0<(0:Int)) then
 ret ((-1:Int))
 else
 (xl1j (v1) (r0)).bind fun (r1:Int) =>
 bif decide (r1<(0:Int)) then
 ret ((-1:Int))
 else
 ret (r1)
theorem xl1l.u:∀ b,xl1l.un (xl1l.mk b)=b:=fun _ => by kernel_rfl
theorem xl1l.eq (v0 v1 v2 v3) {b} (h:xl1l.t some v0 v1 v2 v3=some b):xl1l v0 v1 v2 v3=some b:=eqF xl1l.u Try.f75 (callT_le E tab) rfl rfl rfl (xl1l.t (rR xl1l.mk) v0 v1 v2 v3) (by kernel_rfl) (by unfold xl1l.t; repeat' first | exact sR | exact sN | exact sL | apply sC | (apply sB; intro _)) h
def xl1j.t {γ:Type} (ret:(Int)→Option γ) (v0:List Int) (v1:Int):Option γ :=
 bif decide (IntKind.i64.wrap (v1 - (↑v0.length:Int))<(0:Int)) then
 ret ((-1:Int))
 else
 ret (IntKind.i64.wrap (v1 - (↑v0.length:Int)))
theorem xl1j.u:∀ b,xl1j.un (xl1j.mk b)=b:=fun _ => by kernel_rfl
theorem xl1j.eq (v0 v1) {b} (h:xl1j.t some v0 v1=some b):xl1j v0 v1=some b:=eqF xl1j.u Try.f94 (callT_le E tab) rfl rfl rfl (xl1j.t (rR xl1j.mk) v0 v1) (by kernel_rfl) (by unfold xl1j.t; repeat' first | exact sR | exact sN | exact sL | apply sC | (apply sB; intro _)) h
def xl1o.t {γ:Type} (ret:((List (Int × Int × Bool)) × (List (List Int × List Int × Bool)))→Option γ) (v0:List (Int × Int × Bool)) (v1:List (List Int × List Int × Bool)):Option γ :=
 (xl1c (v0)).bind fun (r0:(List (Int × Int × Bool))) =>
 (xl1d (v1)).bind fun (r1:(List (List Int × List Int × Bool))) =>
 ret (r0,r1)
theorem xl1o.u:∀ b,xl1o.un (xl1o.mk b)=b:=fun _ => by kernel_rfl
theorem xl1o.eq (v0 v1) {b} (h:xl1o.t some v0 v1=some b):xl1o v0 v1=some b:=eqF xl1o.u Try.f10 (callT_le E tab) rfl rfl rfl (xl1o.t (rR xl1o.mk) v0 v1) (by kernel_rfl) (by unfold xl1o.t; repeat' first | exact sR | exact sN | exact sL | apply sC | (apply sB; intro _)) h
def xl1c.s3 (v0:List (Int × Int × Bool)) (v1:List (Int × Int × Bool)) (v2:Int):List Cell:=vc (.d .fro Yb v0)::nn 2 (vc (.d .deep Yb v1)::vc (iL v2)::nn 18 ([]))
def xl1c.q3:=fun v0 v1 v2 => loopAtL E (callT E tab) 46 Try.f46 1 [.r,.r,.l,.r,.b] (xl1c.s3 v0 v1 v2)
def xl1c.l3:=fun v0 v1 v2 => tOf xl1c.mk (xl1c.q3 v0 v1 v2)
def xl1c.t {γ:Type} (ret:((List (Int × Int × Bool)))→Option γ) (lp3:(List (Int × Int × Bool))→(List (Int × Int × Bool))→Int→Option γ) (v0:List (Int × Int × Bool)):Option γ :=
 bif decide ((↑v0.length:Int)=(↑v0.length:Int)) then
 bif decide ((↑v0.length:Int) * (↑((1:Nat)+((1:Nat)+(1:Nat))):Int)≤(4398046511104:Int)) then
 lp3 (v0) (List.replicate (↑v0.length:Int).toNat ((0:Int),(0:Int),Bool.false)) ((0:Int))
 else
 none
 else
 none
def xl1c.t3 {γ:Type} (ret:((List (Int × Int × Bool)))→Option γ) (lp3:(List (Int × Int × Bool))→(List (Int × Int × Bool))→Int→Option γ) (v0:List (Int × Int × Bool)) (v1:List (Int × Int × Bool)) (v2:Int):Option γ :=
 bif decide (v2<(↑v0.length:Int)) then
 bif decide ((0:Int)≤v2) then
 bif decide (v2.toNat<v0.length) then
 (xl1n ((v0.getD v2.toNat ((0:Int),(0:Int),Bool.false)).fst) ((v0.getD v2.toNat ((0:Int),(0:Int),Bool.false)).snd.fst) ((v0.getD v2.toNat ((0:Int),(0:Int),Bool.false)).snd.snd)).bind fun (r0:Int × Int × Bool) =>
 bif decide ((0:Int)≤v2) then
 bif decide (v2.toNat<v1.length) then
 bif decide (v2.toNat<v1.length) then
 lp3 (v0) (v1.set v2.toNat (r0.fst,r0.snd.fst,r0.snd.snd)) (IntKind.i64.wrap (v2+(1:Int)))
 else
 none
 else
 none
 else
 none
 else
 none
 else
 none
 else
 ret (v1)
theorem xl1c.u:∀ b,xl1c.un (xl1c.mk b)=b:=fun _ => by kernel_rfl
theorem xl1c.eq (v0) {b} (h:xl1c.t some xl1c.l3 v0=some b):xl1c v0=some b:=eqF xl1c.u Try.f46 (callT_le E tab) rfl rfl rfl (xl1c.t (rR xl1c.mk) xl1c.q3 v0) (by kernel_rfl) (by unfold xl1c.t; repeat' first | exact sR | exact sN | exact sL | apply sC | (apply sB; intro _)) h
theorem xl1c.eq3 (v0 v1 v2) {b} (h:xl1c.t3 some xl1c.l3 v0 v1 v2=some b):xl1c.l3 v0 v1 v2=some b:=eqL xl1c.u (xl1c.t3 (rR xl1c.mk) xl1c.q3 v0 v1 v2) (by kernel_rfl) (by unfold xl1c.t3; repeat' first | exact sR | exact sN | exact sL | apply sC | (apply sB; intro _)) h
def xl1n.t {γ:Type} (ret:(Int × Int × Bool)→Option γ) (v0:Int) (v1:Int) (v2:Bool):Option γ :=
 ret (v0,v1,v2)
theorem xl1n.u:∀ b,xl1n.un (xl1n.mk b)=b:=fun _ => by kernel_rfl
theorem xl1n.eq (v0 v1 v2) {b} (h:xl1n.t some v0 v1 v2=some b):xl1n v0 v1 v2=some b:=eqF xl1n.u Try.f79 (callT_le E tab) rfl rfl rfl (xl1n.t (rR xl1n.mk) v0 v1 v2) (by kernel_rfl) (by unfold xl1n.t; repeat' first | exact sR | exact sN | exact sL | apply sC | (apply sB; intro _)) h
def xl1d.s3 (v0:List (List Int × List Int × Bool)) (v1:List (List Int × List Int × Bool)) (v2:Int):List Cell:=vc (.d .fro Ya v0)::nn 2 (vc (.d .deep Ya v1)::vc (iL v2)::nn 18 ([]))
def xl1d.q3:=fun v0 v1 v2 => loopAtL E (callT E tab) 47 Try.f47 1 [.r,.r,.l,.r,.b] (xl1d.s3 v0 v1 v2)
def xl1d.l3:=fun v0 v1 v2 => tOf xl1d.mk (xl1d.q3 v0 v1 v2)
def xl1d.t {γ:Type} (ret:((List (List Int × List Int × Bool)))→Option γ) (lp3:(List (List Int × List Int × Bool))→(List (List Int × List Int × Bool))→Int→Option γ) (v0:List (List Int × List Int × Bool)):Option γ :=
 bif decide ((↑v0.length:Int)=(↑v0.length:Int)) then
 bif decide ((↑v0.length:Int) * (↑((1:Nat)+((1:Nat)+(1:Nat))):Int)≤(4398046511104:Int)) then
 lp3 (v0) (List.replicate (↑v0.length:Int).toNat ([],[],Bool.false)) ((0:Int))
 else
 none
 else
 none
def xl1d.t3 {γ:Type} (ret:((List (List Int × List Int × Bool)))→Option γ) (lp3:(List (List Int × List Int × Bool))→(List (List Int × List Int × Bool))→Int→Option γ) (v0:List (List Int × List Int × Bool)) (v1:List (List Int × List Int × Bool)) (v2:Int):Option γ :=
 bif decide (v2<(↑v0.length:Int)) then
 bif decide ((0:Int)≤v2) then
 bif decide (v2.toNat<v0.length) then
 (xl1p ((v0.getD v2.toNat ([],[],Bool.false)).fst) ((v0.getD v2.toNat ([],[],Bool.false)).snd.fst) ((v0.getD v2.toNat ([],[],Bool.false)).snd.snd)).bind fun (r0:(List Int) × (List Int) × Bool) =>
 bif decide ((0:Int)≤v2) then
 bif decide (v2.toNat<v1.length) then
 bif decide (v2.toNat<v1.length) then
 lp3 (v0) (v1.set v2.toNat (r0.fst,r0.snd.fst,r0.snd.snd)) (IntKind.i64.wrap (v2+(1:Int)))
 else
 none
 else
 none
 else
 none
 else
 none
 else
 none
 else
 ret (v1)
theorem xl1d.u:∀ b,xl1d.un (xl1d.mk b)=b:=fun _ => by kernel_rfl
theorem xl1d.eq (v0) {b} (h:xl1d.t some xl1d.l3 v0=some b):xl1d v0=some b:=eqF xl1d.u Try.f47 (callT_le E tab) rfl rfl rfl (xl1d.t (rR xl1d.mk) xl1d.q3 v0) (by kernel_rfl) (by unfold xl1d.t; repeat' first | exact sR | exact sN | exact sL | apply sC | (apply sB; intro _)) h
theorem xl1d.eq3 (v0 v1 v2) {b} (h:xl1d.t3 some xl1d.l3 v0 v1 v2=some b):xl1d.l3 v0 v1 v2=some b:=eqL xl1d.u (xl1d.t3 (rR xl1d.mk) xl1d.q3 v0 v1 v2) (by kernel_rfl) (by unfold xl1d.t3; repeat' first | exact sR | exact sN | exact sL | apply sC | (apply sB; intro _)) h
def xl1p.t {γ:Type} (ret:((List Int) × (List Int) × Bool)→Option γ) (v0:List Int) (v1:List Int) (v2:Bool):Option γ :=
 (xl1m (v0)).bind fun (r0:(List Int)) =>
 (xl1m (v1)).bind fun (r1:(List Int)) =>
 ret (r0,r1,v2)
theorem xl1p.u:∀ b,xl1p.un (xl1p.mk b)=b:=fun _ => by kernel_rfl
theorem xl1p.eq (v0 v1 v2) {b} (h:xl1p.t some v0 v1 v2=some b):xl1p v0 v1 v2=some b:=eqF xl1p.u Try.f80 (callT_le E tab) rfl rfl rfl (xl1p.t (rR xl1p.mk) v0 v1 v2) (by kernel_rfl) (by unfold xl1p.t; repeat' first | exact sR | exact sN | exact sL | apply sC | (apply sB; intro _)) h
def xl1m.s3 (v0:List Int) (v1:List Int) (v2:Int):List Cell:=vc (.d .fro (.sl (.int .i64)) v0)::nn 2 (vc (.d .deep (.sl (.int .i64)) v1)::vc (iL v2)::nn 17 ([]))
def xl1m.q3:=fun v0 v1 v2 => loopAtL E (callT E tab) 20 Try.f20 1 [.r,.r,.l,.r,.b] (xl1m.s3 v0 v1 v2)
def xl1m.l3:=fun v0 v1 v2 => tOf xl1m.mk (xl1m.q3 v0 v1 v2)
def xl1m.t {γ:Type} (ret:((List Int))→Option γ) (lp3:(List Int)→(List Int)→Int→Option γ) (v0:List Int):Option γ :=
 bif decide ((↑v0.length:Int)=(↑v0.length:Int)) then
 bif decide ((↑v0.length:Int) * (↑(1:Nat):Int)≤(4398046511104:Int)) then
 lp3 (v0) (List.replicate (↑v0.length:Int).toNat (0:Int)) ((0:Int))
 else
 none
 else
 none
def xl1m.t3 {γ:Type} (ret:((List Int))→Option γ) (lp3:(List Int)→(List Int)→Int→Option γ) (v0:List Int) (v1:List Int) (v2:Int):Option γ :=
 bif decide (v2<(↑v0.length:Int)) then
 bif decide ((0:Int)≤v2) then
 bif decide (v2.toNat<v0.length) then
 bif decide ((0:Int)≤v2) then
 bif decide (v2.toNat<v1.length) then
 bif decide (v2.toNat<v1.length) then
 lp3 (v0) (v1.set v2.toNat (v0.getD v2.toNat (0:Int))) (IntKind.i64.wrap (v2+(1:Int)))
 else
 none
 else
 none
 else
 none
 else
 none
 else
 none
 else
 ret (v1)
theorem xl1m.u:∀ b,xl1m.un (xl1m.mk b)=b:=fun _ => by kernel_rfl
theorem xl1m.eq (v0) {b} (h:xl1m.t some xl1m.l3 v0=some b):xl1m v0=some b:=eqF xl1m.u Try.f20 (callT_le E tab) rfl rfl rfl (xl1m.t (rR xl1m.mk) xl1m.q3 v0) (by kernel_rfl) (by unfold xl1m.t; repeat' first | exact sR | exact sN | exact sL | apply sC | (apply sB; intro _)) h
theorem xl1m.eq3 (v0 v1 v2) {b} (h:xl1m.t3 some xl1m.l3 v0 v1 v2=some b):xl1m.l3 v0 v1 v2=some b:=eqL xl1m.u (xl1m.t3 (rR xl1m.mk) xl1m.q3 v0 v1 v2) (by kernel_rfl) (by unfold xl1m.t3; repeat' first | exact sR | exact sN | exact sL | apply sC | (apply sB; intro _)) h
def xs0x.s14 (v0:List (Int × Int × Bool)) (v1:List (List Int × List Int × Bool)) (v2:List (Int × Int × Bool)) (v3:List (List Int × List Int × Bool)) (v4:Bool) (v5:Int) (v6:Int) (v7:Int):List Cell:=nn 1 (⟨(.box false),[.d .deep Yb v0,.d .deep Ya v1],false,false,false,0,0⟩::⟨(.box false),[.d .deep Yb v2,.d .deep Ya v3],false,false,false,0,0⟩::nn 2 (vc (bL v4)::nn 2 (vc (iL v5)::vc (iL v6)::vc (iL v7)::nn 81 ([]))))
def xs0x.q14:=fun v0 v1 v2 v3 v4 v5 v6 v7 => loopAtL E (callT E tab) 16 Try.f16 1 [.r,.r,.r,.r,.r,.r,.r,.l,.b,.o,.r,.b,.r,.l,.b] (xs0x.s14 v0 v1 v2 v3 v4 v5 v6 v7)
def xs0x.l14:=fun v0 v1 v2 v3 v4 v5 v6 v7 => tOf xs0x.mk (xs0x.q14 v0 v1 v2 v3 v4 v5 v6 v7)
def xs0x.s12 (v0:List (Int × Int × Bool)) (v1:List (List Int × List Int × Bool)) (v2:List (Int × Int × Bool)) (v3:List (List Int × List Int × Bool)) (v4:Bool) (v5:Int) (v6:Int):List Cell:=nn 1 (⟨(.box false),[.d .deep Yb v0,.d .deep Ya v1],false,false,false,0,0⟩::⟨(.box false),[.d .deep Yb v2,.d .deep Ya v3],false,false,false,0,0⟩::nn 2 (vc (bL v4)::nn 2 (vc (iL v5)::vc (iL v6)::nn 82 ([]))))
def xs0x.q12:=fun v0 v1 v2 v3 v4 v5 v6 => loopAtL E (callT E tab) 16 Try.f16 1 [.r,.r,.r,.r,.r,.r,.r,.l,.b] (xs0x.s12 v0 v1 v2 v3 v4 v5 v6)
def xs0x.l12:=fun v0 v1 v2 v3 v4 v5 v6 => tOf xs0x.mk (xs0x.q12 v0 v1 v2 v3 v4 v5 v6)
def xs0x.s6 (v0:List (Int × Int × Bool)) (v1:List (List Int × List Int × Bool)) (v2:List (Int × Int × Bool)) (v3:List (List Int × List Int × Bool)) (v4:Bool) (v5:Int) (v6:Int):List Cell:=nn 1 (⟨(.box false),[.d .deep Yb v0,.d .deep Ya v1],false,false,false,0,0⟩::⟨(.box false),[.d .deep Yb v2,.d .deep Ya v3],false,false,false,0,0⟩::nn 2 (vc (bL v4)::nn 16 (vc (.lent ⟨1,0,none⟩ none)::vc (iL v5)::vc (iL v6)::nn 67 ([]))))
def xs0x.q6:=fun v0 v1 v2 v3 v4 v5 v6 => loopAtL E (callT E tab) 16 Try.f16 1 [.r,.r,.r,.r,.l,.r,.b] (xs0x.s6 v0 v1 v2 v3 v4 v5 v6)
def xs0x.l6:=fun v0 v1 v2 v3 v4 v5 v6 => tOf xs0x.mk (xs0x.q6 v0 v1 v2 v3 v4 v5 v6)
def xs0x.t {γ:Type} (ret:((List (Int × Int × Bool)) × (List (List Int × List Int × Bool)) × Int × Bool)→Option γ) (lp6:(List (Int × Int × Bool))→(List (List Int × List Int × Bool))→(List (Int × Int × Bool))→(List (List Int × List Int × Bool))→Bool→Int→Int→Option γ) (v0:List (Int × Int × Bool)) (v1:List (List Int × List Int × Bool)):Option γ :=
 (xs16 (v0) (v1)).bind fun (r0:Bool) =>
 bif !r0 then
 ret ([],[],(0:Int),Bool.false)
 else
 (xs1q (v0) (v1)).bind fun (r1:(List (Int × Int × Bool)) × (List (List Int × List Int × Bool))) =>
 lp6 (r1.fst) (r1.snd) ([]) ([]) (Bool.false) ((↑r1.fst.length:Int)) ((0:Int))
def xs0x.t14 {γ:Type} (ret:((List (Int × Int × Bool)) × (List (List Int × List Int × Bool)) × Int × Bool)→Option γ) (lp14:(List (Int × Int × Bool))→(List (List Int × List Int × Bool))→(List (Int × Int × Bool))→(List (List Int × List Int × Bool))→Bool→Int→Int→Int→Option γ) (lp12:(List (Int × Int × Bool))→(List (List Int × List Int × Bool))→(List (Int × Int × Bool))→(List (List Int × List Int × Bool))→Bool→Int→Int→Option γ) (v0:List (Int × Int × Bool)) (v1:List (List Int × List Int × Bool)) (v2:List (Int × Int × Bool)) (v3:List (List Int × List Int × Bool)) (v4:Bool) (v5:Int) (v6:Int) (v7:Int):Option γ :=
 bif decide (v7<(↑v1.length:Int)) then
 bif decide ((0:Int)≤v7) then
 bif decide (v7.toNat<v1.length) then
 bif decide (v7.toNat<v1.length) then
 bif decide (v7.toNat<v1.length) then
 bif (↑(v1.getD v7.toNat ([],[],Bool.false)).fst.length:Int) == (0:Int) then
 lp14 (v0) (v1) (v2) (v3) (v4) (v5) (v6) (IntKind.i64.wrap (v7+(1:Int)))
 else
 bif v7 == (↑v1.length:Int) then
 (xs10 (v0) (v1)).bind fun (r2:Int × Bool) =>
 bif !r2.snd then
 ret ([],[],(0:Int),Bool.false)
 else
 ret (v0,v1,v5,Bool.true)
 else
 bif decide (v6≠(0:Int)) then
 bif decide (v6≠(0:Int)) then
 (xs17 (v0) (v1) ((2:Int)) (IntKind.i64.wrap (v7.tdiv v6)) (v7.tmod v6) ((0:Int))).bind fun (r3:(List (Int × Int × Bool)) × (List (List Int × List Int × Bool)) × Bool) =>
 bif !r3.snd.snd then
 ret ([],[],(0:Int),Bool.false)
 else
 lp12 (r3.fst) (r3.snd.fst) (v2) (v3) (v4) (IntKind.i64.wrap (v5+(1:Int))) (v6)
 else
 none
 else
 none
 else
 none
 else
 none
 else
 none
 else
 none
 else
 bif v7 == (↑v1.length:Int) then
 (xs10 (v0) (v1)).bind fun (r4:Int × Bool) =>
 bif !r4.snd then
 ret ([],[],(0:Int),Bool.false)
 else
 ret (v0,v1,v5,Bool.true)
 else
 bif decide (v6≠(0:Int)) then
 bif decide (v6≠(0:Int)) then
 (xs17 (v0) (v1) ((2:Int)) (IntKind.i64.wrap (v7.tdiv v6)) (v7.tmod v6) ((0:Int))).bind fun (r5:(List (Int × Int × Bool)) × (List (List Int × List Int × Bool)) × Bool) =>
 bif !r5.snd.snd then
 ret ([],[],(0:Int),Bool.false)
 else
 lp12 (r5.fst) (r5.snd.fst) (v2) (v3) (v4) (IntKind.i64.wrap (v5+(1:Int))) (v6)
 else
 none
 else
 none
def xs0x.t12 {γ:Type} (ret:((List (Int × Int × Bool)) × (List (List Int × List Int × Bool)) × Int × Bool)→Option γ) (lp14:(List (Int × Int × Bool))→(List (List Int × List Int × Bool))→(List (Int × Int × Bool))→(List (List Int × List Int × Bool))→Bool→Int→Int→Int→Option γ) (v0:List (Int × Int × Bool)) (v1:List (List Int × List Int × Bool)) (v2:List (Int × Int × Bool)) (v3:List (List Int × List Int × Bool)) (v4:Bool) (v5:Int) (v6:Int):Option γ :=
 bif decide (v5<(2000:Int)) then
 bif v4 then
 lp14 (v0) (v1) (v2) (v3) (v4) (v5) (v6) ((0:Int))
 else
 (xs10 (v0) (v1)).bind fun (r6:Int × Bool) =>
 bif !r6.snd then
 ret ([],[],(0:Int),Bool.false)
 else
 ret (v0,v1,v5,Bool.true)
 else
 (xs10 (v0) (v1)).bind fun (r7:Int × Bool) =>
 bif !r7.snd then
 ret ([],[],(0:Int),Bool.false)
 else
 ret (v0,v1,v5,Bool.true)
def xs0x.t6 {γ:Type} (ret:((List (Int × Int × Bool)) × (List (List Int × List Int × Bool)) × Int × Bool)→Option γ) (lp12:(List (Int × Int × Bool))→(List (List Int × List Int × Bool))→(List (Int × Int × Bool))→(List (List Int × List Int × Bool))→Bool→Int→Int→Option γ) (lp6:(List (Int × Int × Bool))→(List (List Int × List Int × Bool))→(List (Int × Int × Bool))→(List (List Int × List Int × Bool))→Bool→Int→Int→Option γ) (v0:List (Int × Int × Bool)) (v1:List (List Int × List Int × Bool)) (v2:List (Int × Int × Bool)) (v3:List (List Int × List Int × Bool)) (v4:Bool) (v5:Int) (v6:Int):Option γ :=
 bif decide (v6<v5) then
 bif decide ((0:Int)≤v6) then
 bif decide (v6.toNat<v0.length) then
 bif decide (v6.toNat<v0.length) then
 bif v4 then
 lp6 (v0) (v1) (v2) (v3) (Bool.true) (v5) (IntKind.i64.wrap (v6+(1:Int)))
 else
 lp6 (v0) (v1) (v2) (v3) ((v0.getD v6.toNat ((0:Int),(0:Int),Bool.false)).snd.snd) (v5) (IntKind.i64.wrap (v6+(1:Int)))
 else
 none
 else
 none
 else
 none
 else
 lp12 (v0) (v1) (v2) (v3) (v4) ((0:Int)) ((↑v0.length:Int))
theorem xs0x.u:∀ b,xs0x.un (xs0x.mk b)=b:=fun _ => by kernel_rfl
theorem xs0x.eq (v0 v1) {b} (h:xs0x.t some xs0x.l6 v0 v1=some b):xs0x v0 v1=some b:=eqF xs0x.u Try.f16 (callT_le E tab) rfl rfl rfl (xs0x.t (rR xs0x.mk) xs0x.q6 v0 v1) (by kernel_rfl) (by unfold xs0x.t; repeat' first | exact sR | exact sN | exact sL | apply sC | (apply sB; intro _)) h
theorem xs0x.eq14 (v0 v1 v2 v3 v4 v5 v6 v7) {b} (h:xs0x.t14 some xs0x.l14 xs0x.l12 v0 v1 v2 v3 v4 v5 v6 v7=some b):xs0x.l14 v0 v1 v2 v3 v4 v5 v6 v7=some b:=eqL xs0x.u (xs0x.t14 (rR xs0x.mk) xs0x.q14 xs0x.q12 v0 v1 v2 v3 v4 v5 v6 v7) (by kernel_rfl) (by unfold xs0x.t14; repeat' first | exact sR | exact sN | exact sL | apply sC | (apply sB; intro _)) h
theorem xs0x.eq12 (v0 v1 v2 v3 v4 v5 v6) {b} (h:xs0x.t12 some xs0x.l14 v0 v1 v2 v3 v4 v5 v6=some b):xs0x.l12 v0 v1 v2 v3 v4 v5 v6=some b:=eqL xs0x.u (xs0x.t12 (rR xs0x.mk) xs0x.q14 v0 v1 v2 v3 v4 v5 v6) (by kernel_rfl) (by unfold xs0x.t12; repeat' first | exact sR | exact sN | exact sL | apply sC | (apply sB; intro _)) h
theorem xs0x.eq6 (v0 v1 v2 v3 v4 v5 v6) {b} (h:xs0x.t6 some xs0x.l12 xs0x.l6 v0 v1 v2 v3 v4 v5 v6=some b):xs0x.l6 v0 v1 v2 v3 v4 v5 v6=some b:=eqL xs0x.u (xs0x.t6 (rR xs0x.mk) xs0x.q12 xs0x.q6 v0 v1 v2 v3 v4 v5 v6) (by kernel_rfl) (by unfold xs0x.t6; repeat' first | exact sR | exact sN | exact sL | apply sC | (apply sB; intro _)) h
def xs16.s23 (v0:List (Int × Int × Bool)) (v1:List (List Int × List Int × Bool)) (v2:Int) (v3:Int) (v4:Int) (v5:List Int) (v6:List Int) (v7:Bool) (v8:List (List Int × List Int × Bool)) (v9:Int) (v10:Int) (v11:List Int) (v12:Int) (v13:Int):List Cell:=nn 1 (⟨(.box false),[.d .fro Yb v0,.d .fro Ya v1],false,false,false,0,0⟩::nn 1 (vc (iL v2)::vc (iL v3)::nn 2 (vc (iL v4)::⟨(.box false),[.d .fro (.sl (.int .i64)) v5,.d .fro (.sl (.int .i64)) v6,bL v7],false,false,false,0,0⟩::nn 55 (vc (.d .fro Ya v8)::vc (iL v9)::vc (iL v10)::nn 19 (vc (.d .fro (.sl (.int .i64)) v11)::vc (iL v12)::vc (iL v13)::nn 73 ([]))))))
def xs16.q23:=fun v0 v1 v2 v3 v4 v5 v6 v7 v8 v9 v10 v11 v12 v13 => loopAtL E (callT E tab) 43 Try.f43 1 [.r,.r,.r,.r,.r,.l,.r,.b,.o,.r,.r,.l,.b,.r,.r,.l,.r,.b] (xs16.s23 v0 v1 v2 v3 v4 v5 v6 v7 v8 v9 v10 v11 v12 v13)
def xs16.l23:=fun v0 v1 v2 v3 v4 v5 v6 v7 v8 v9 v10 v11 v12 v13 => tOf xs16.mk (xs16.q23 v0 v1 v2 v3 v4 v5 v6 v7 v8 v9 v10 v11 v12 v13)
def xs16.s16 (v0:List (Int × Int × Bool)) (v1:List (List Int × List Int × Bool)) (v2:Int) (v3:Int) (v4:Int) (v5:List Int) (v6:List Int) (v7:Bool) (v8:List (List Int × List Int × Bool)) (v9:Int) (v10:Int) (v11:List Int) (v12:Int) (v13:Int):List Cell:=nn 1 (⟨(.box false),[.d .fro Yb v0,.d .fro Ya v1],false,false,false,0,0⟩::nn 1 (vc (iL v2)::vc (iL v3)::nn 2 (vc (iL v4)::⟨(.box false),[.d .fro (.sl (.int .i64)) v5,.d .fro (.sl (.int .i64)) v6,bL v7],false,false,false,0,0⟩::nn 55 (vc (.d .fro Ya v8)::vc (iL v9)::vc (iL v10)::nn 5 (vc (.d .fro (.sl (.int .i64)) v11)::vc (iL v12)::vc (iL v13)::nn 87 ([]))))))
def xs16.q16:=fun v0 v1 v2 v3 v4 v5 v6 v7 v8 v9 v10 v11 v12 v13 => loopAtL E (callT E tab) 43 Try.f43 1 [.r,.r,.r,.r,.r,.l,.r,.b,.o,.r,.r,.l,.b,.r,.l,.r,.b] (xs16.s16 v0 v1 v2 v3 v4 v5 v6 v7 v8 v9 v10 v11 v12 v13)
def xs16.l16:=fun v0 v1 v2 v3 v4 v5 v6 v7 v8 v9 v10 v11 v12 v13 => tOf xs16.mk (xs16.q16 v0 v1 v2 v3 v4 v5 v6 v7 v8 v9 v10 v11 v12 v13)
def xs16.s13 (v0:List (Int × Int × Bool)) (v1:List (List Int × List Int × Bool)) (v2:Int) (v3:Int) (v4:List (List Int × List Int × Bool)) (v5:Int) (v6:Int):List Cell:=nn 1 (⟨(.box false),[.d .fro Yb v0,.d .fro Ya v1],false,false,false,0,0⟩::nn 1 (vc (iL v2)::vc (iL v3)::nn 59 (vc (.d .fro Ya v4)::vc (iL v5)::vc (iL v6)::nn 95 ([]))))
def xs16.q13:=fun v0 v1 v2 v3 v4 v5 v6 => loopAtL E (callT E tab) 43 Try.f43 1 [.r,.r,.r,.r,.r,.l,.r,.b] (xs16.s13 v0 v1 v2 v3 v4 v5 v6)
def xs16.l13:=fun v0 v1 v2 v3 v4 v5 v6 => tOf xs16.mk (xs16.q13 v0 v1 v2 v3 v4 v5 v6)
def xs16.s6 (v0:List (Int × Int × Bool)) (v1:List (List Int × List Int × Bool)) (v2:Int) (v3:Int) (v4:List (Int × Int × Bool)) (v5:Int) (v6:Int):List Cell:=nn 1 (⟨(.box false),[.d .fro Yb v0,.d .fro Ya v1],false,false,false,0,0⟩::nn 1 (vc (iL v2)::vc (iL v3)::nn 24 (vc (.d .fro Yb v4)::vc (iL v5)::vc (iL v6)::nn 130 ([]))))
def xs16.q6:=fun v0 v1 v2 v3 v4 v5 v6 => loopAtL E (callT E tab) 43 Try.f43 1 [.r,.r,.r,.r,.l,.r,.b] (xs16.s6 v0 v1 v2 v3 v4 v5 v6)
def xs16.l6:=fun v0 v1 v2 v3 v4 v5 v6 => tOf xs16.mk (xs16.q6 v0 v1 v2 v3 v4 v5 v6)
def xs16.t {γ:Type} (ret:(Bool)→Option γ) (lp6:(List (Int × Int × Bool))→(List (List Int × List Int × Bool))→Int→Int→(List (Int × Int × Bool))→Int→Int→Option γ) (v0:List (Int × Int × Bool)) (v1:List (List Int × List Int × Bool)):Option γ :=
 (xs1s ((↑v0.length:Int)) ((2:Int)) ((4:Int))).bind fun (r0:Bool) =>
 bif !r0 then
 ret (Bool.false)
 else
 bif (↑v1.length:Int) != IntKind.i64.wrap ((↑v0.length:Int) * (↑v0.length:Int)) then
 ret (Bool.false)
 else
 lp6 (v0) (v1) ((↑v0.length:Int)) ((0:Int)) (v0) ((↑v0.length:Int)) ((0:Int))
def xs16.t23 {γ:Type} (ret:(Bool)→Option γ) (lp23:(List (Int × Int × Bool))→(List (List Int × List Int × Bool))→Int→Int→Int→(List Int)→(List Int)→Bool→(List (List Int × List Int × Bool))→Int→Int→(List Int)→Int→Int→Option γ) (lp13:(List (Int × Int × Bool))→(List (List Int × List Int × Bool))→Int→Int→(List (List Int × List Int × Bool))→Int→Int→Option γ) (v0:List (Int × Int × Bool)) (v1:List (List Int × List Int × Bool)) (v2:Int) (v3:Int) (v4:Int) (v5:List Int) (v6:List Int) (v7:Bool) (v8:List (List Int × List Int × Bool)) (v9:Int) (v10:Int) (v11:List Int) (v12:Int) (v13:Int):Option γ :=
 bif decide (v13<v12) then
 bif decide ((0:Int)≤v13) then
 bif decide (v13.toNat<v11.length) then
 bif v11.getD v13.toNat (0:Int) == (0:Int) then
 ret (Bool.false)
 else
 (xs11 (v11.getD v13.toNat (0:Int))).bind fun (r4:Bool) =>
 bif !r4 then
 ret (Bool.false)
 else
 lp23 (v0) (v1) (v2) (IntKind.i64.wrap (v3+v11.getD v13.toNat (0:Int))) (v4) (v5) (v6) (v7) (v8) (v9) (v10) (v11) (v12) (IntKind.i64.wrap (v13+(1:Int)))
 else
 none
 else
 none
 else
 bif decide ((↑v5.length:Int) > (12:Int)) then
 ret (Bool.false)
 else
 bif decide ((↑v6.length:Int) > (200:Int)) then
 ret (Bool.false)
 else
 bif decide (v2≠(0:Int)) then
 bif decide (v2≠(0:Int)) then
 bif IntKind.i64.wrap (v4.tdiv v2) == v4.tmod v2 then
 bif decide ((↑v5.length:Int) > (0:Int)) then
 ret (Bool.false)
 else
 bif decide ((↑v6.length:Int) > (0:Int)) then
 ret (Bool.false)
 else
 bif v7 then
 ret (Bool.false)
 else
 bif decide (v2≠(0:Int)) then
 bif decide ((0:Int)≤v4.tmod v2) then
 bif decide ((v4.tmod v2).toNat<v0.length) then
 bif !(v0.getD (v4.tmod v2).toNat ((0:Int),(0:Int),Bool.false)).snd.snd then
 bif v7 then
 ret (Bool.false)
 else
 bif decide ((↑v6.length:Int) > (0:Int)) then
 ret (Bool.false)
 else
 lp13 (v0) (v1) (v2) (v3) (v8) (v9) (IntKind.i64.wrap (v10+(1:Int)))
 else
 lp13 (v0) (v1) (v2) (v3) (v8) (v9) (IntKind.i64.wrap (v10+(1:Int)))
 else
 none
 else
 none
 else
 none
 else
 bif decide (v2≠(0:Int)) then
 bif decide ((0:Int)≤v4.tmod v2) then
 bif decide ((v4.tmod v2).toNat<v0.length) then
 bif !(v0.getD (v4.tmod v2).toNat ((0:Int),(0:Int),Bool.false)).snd.snd then
 bif v7 then
 ret (Bool.false)
 else
 bif decide ((↑v6.length:Int) > (0:Int)) then
 ret (Bool.false)
 else
 lp13 (v0) (v1) (v2) (v3) (v8) (v9) (IntKind.i64.wrap (v10+(1:Int)))
 else
 lp13 (v0) (v1) (v2) (v3) (v8) (v9) (IntKind.i64.wrap (v10+(1:Int)))
 else
 none
 else
 none
 else
 none
 else
 none
 else
 none
def xs16.t16 {γ:Type} (ret:(Bool)→Option γ) (lp23:(List (Int × Int × Bool))→(List (List Int × List Int × Bool))→Int→Int→Int→(List Int)→(List Int)→Bool→(List (List Int × List Int × Bool))→Int→Int→(List Int)→Int→Int→Option γ) (lp16:(List (Int × Int × Bool))→(List (List Int × List Int × Bool))→Int→Int→Int→(List Int)→(List Int)→Bool→(List (List Int × List Int × Bool))→Int→Int→(List Int)→Int→Int→Option γ) (v0:List (Int × Int × Bool)) (v1:List (List Int × List Int × Bool)) (v2:Int) (v3:Int) (v4:Int) (v5:List Int) (v6:List Int) (v7:Bool) (v8:List (List Int × List Int × Bool)) (v9:Int) (v10:Int) (v11:List Int) (v12:Int) (v13:Int):Option γ :=
 bif decide (v13<v12) then
 bif decide ((0:Int)≤v13) then
 bif decide (v13.toNat<v11.length) then
 (xs11 (v11.getD v13.toNat (0:Int))).bind fun (r3:Bool) =>
 bif !r3 then
 ret (Bool.false)
 else
 lp16 (v0) (v1) (v2) (IntKind.i64.wrap (v3+v11.getD v13.toNat (0:Int))) (v4) (v5) (v6) (v7) (v8) (v9) (v10) (v11) (v12) (IntKind.i64.wrap (v13+(1:Int)))
 else
 none
 else
 none
 else
 lp23 (v0) (v1) (v2) (v3) (v4) (v5) (v6) (v7) (v8) (v9) (v10) (v6) ((↑v6.length:Int)) ((0:Int))
def xs16.t13 {γ:Type} (ret:(Bool)→Option γ) (lp16:(List (Int × Int × Bool))→(List (List Int × List Int × Bool))→Int→Int→Int→(List Int)→(List Int)→Bool→(List (List Int × List Int × Bool))→Int→Int→(List Int)→Int→Int→Option γ) (v0:List (Int × Int × Bool)) (v1:List (List Int × List Int × Bool)) (v2:Int) (v3:Int) (v4:List (List Int × List Int × Bool)) (v5:Int) (v6:Int):Option γ :=
 bif decide (v6<v5) then
 bif decide ((0:Int)≤v6) then
 bif decide (v6.toNat<v4.length) then
 lp16 (v0) (v1) (v2) (v3) (v6) ((v4.getD v6.toNat ([],[],Bool.false)).fst) ((v4.getD v6.toNat ([],[],Bool.false)).snd.fst) ((v4.getD v6.toNat ([],[],Bool.false)).snd.snd) (v4) (v5) (v6) ((v4.getD v6.toNat ([],[],Bool.false)).fst) ((↑(v4.getD v6.toNat ([],[],Bool.false)).fst.length:Int)) ((0:Int))
 else
 none
 else
 none
 else
 ret (decide (v3≤(2000000000:Int)))
def xs16.t6 {γ:Type} (ret:(Bool)→Option γ) (lp13:(List (Int × Int × Bool))→(List (List Int × List Int × Bool))→Int→Int→(List (List Int × List Int × Bool))→Int→Int→Option γ) (lp6:(List (Int × Int × Bool))→(List (List Int × List Int × Bool))→Int→Int→(List (Int × Int × Bool))→Int→Int→Option γ) (v0:List (Int × Int × Bool)) (v1:List (List Int × List Int × Bool)) (v2:Int) (v3:Int) (v4:List (Int × Int × Bool)) (v5:Int) (v6:Int):Option γ :=
 bif decide (v6<v5) then
 bif decide ((0:Int)≤v6) then
 bif decide (v6.toNat<v4.length) then
 (xs1s ((v4.getD v6.toNat ((0:Int),(0:Int),Bool.false)).fst) ((0:Int)) ((2000000000:Int))).bind fun (r1:Bool) =>
 bif !r1 then
 ret (Bool.false)
 else
 (xs1s ((v4.getD v6.toNat ((0:Int),(0:Int),Bool.false)).snd.fst) ((0:Int)) ((2000000000:Int))).bind fun (r2:Bool) =>
 bif !r2 then
 ret (Bool.false)
 else
 bif !(v4.getD v6.toNat ((0:Int),(0:Int),Bool.false)).snd.snd then
 bif (v4.getD v6.toNat ((0:Int),(0:Int),Bool.false)).snd.fst != (0:Int) then
 ret (Bool.false)
 else
 lp6 (v0) (v1) (v2) (IntKind.i64.wrap   (v3+    IntKind.i64.wrap       ((v4.getD v6.toNat ((0:Int),(0:Int),Bool.false)).fst+        (v4.getD v6.toNat ((0:Int),(0:Int),Bool.false)).snd.fst))) (v4) (v5) (IntKind.i64.wrap (v6+(1:Int)))
 else
 lp6 (v0) (v1) (v2) (IntKind.i64.wrap   (v3+    IntKind.i64.wrap       ((v4.getD v6.toNat ((0:Int),(0:Int),Bool.false)).fst+        (v4.getD v6.toNat ((0:Int),(0:Int),Bool.false)).snd.fst))) (v4) (v5) (IntKind.i64.wrap (v6+(1:Int)))
 else
 none
 else
 none
 else
 lp13 (v0) (v1) (v2) (v3) (v1) ((↑v1.length:Int)) ((0:Int))
theorem xs16.u:∀ b,xs16.un (xs16.mk b)=b:=fun _ => by kernel_rfl
theorem xs16.eq (v0 v1) {b} (h:xs16.t some xs16.l6 v0 v1=some b):xs16 v0 v1=some b:=eqF xs16.u Try.f43 (callT_le E tab) rfl rfl rfl (xs16.t (rR xs16.mk) xs16.q6 v0 v1) (by kernel_rfl) (by unfold xs16.t; repeat' first | exact sR | exact sN | exact sL | apply sC | (apply sB; intro _)) h
theorem xs16.eq23 (v0 v1 v2 v3 v4 v5 v6 v7 v8 v9 v10 v11 v12 v13) {b} (h:xs16.t23 some xs16.l23 xs16.l13 v0 v1 v2 v3 v4 v5 v6 v7 v8 v9 v10 v11 v12 v13=some b):xs16.l23 v0 v1 v2 v3 v4 v5 v6 v7 v8 v9 v10 v11 v12 v13=some b:=eqL xs16.u (xs16.t23 (rR xs16.mk) xs16.q23 xs16.q13 v0 v1 v2 v3 v4 v5 v6 v7 v8 v9 v10 v11 v12 v13) (by kernel_rfl) (by unfold xs16.t23; repeat' first | exact sR | exact sN | exact sL | apply sC | (apply sB; intro _)) h
theorem xs16.eq16 (v0 v1 v2 v3 v4 v5 v6 v7 v8 v9 v10 v11 v12 v13) {b} (h:xs16.t16 some xs16.l23 xs16.l16 v0 v1 v2 v3 v4 v5 v6 v7 v8 v9 v10 v11 v12 v13=some b):xs16.l16 v0 v1 v2 v3 v4 v5 v6 v7 v8 v9 v10 v11 v12 v13=some b:=eqL xs16.u (xs16.t16 (rR xs16.mk) xs16.q23 xs16.q16 v0 v1 v2 v3 v4 v5 v6 v7 v8 v9 v10 v11 v12 v13) (by kernel_rfl) (by unfold xs16.t16; repeat' first | exact sR | exact sN | exact sL | apply sC | (apply sB; intro _)) h
theorem xs16.eq13 (v0 v1 v2 v3 v4 v5 v6) {b} (h:xs16.t13 some xs16.l16 v0 v1 v2 v3 v4 v5 v6=some b):xs16.l13 v0 v1 v2 v3 v4 v5 v6=some b:=eqL xs16.u (xs16.t13 (rR xs16.mk) xs16.q16 v0 v1 v2 v3 v4 v5 v6) (by kernel_rfl) (by unfold xs16.t13; repeat' first | exact sR | exact sN | exact sL | apply sC | (apply sB; intro _)) h
theorem xs16.eq6 (v0 v1 v2 v3 v4 v5 v6) {b} (h:xs16.t6 some xs16.l13 xs16.l6 v0 v1 v2 v3 v4 v5 v6=some b):xs16.l6 v0 v1 v2 v3 v4 v5 v6=some b:=eqL xs16.u (xs16.t6 (rR xs16.mk) xs16.q13 xs16.q6 v0 v1 v2 v3 v4 v5 v6) (by kernel_rfl) (by unfold xs16.t6; repeat' first | exact sR | exact sN | exact sL | apply sC | (apply sB; intro _)) h
def xs1s.t {γ:Type} (ret:(Bool)→Option γ) (v0:Int) (v1:Int) (v2:Int):Option γ :=
 bif decide (v0 ≥ v1) then
 ret (decide (v0≤v2))
 else
 ret (Bool.false)
theorem xs1s.u:∀ b,xs1s.un (xs1s.mk b)=b:=fun _ => by kernel_rfl
theorem xs1s.eq (v0 v1 v2) {b} (h:xs1s.t some v0 v1 v2=some b):xs1s v0 v1 v2=some b:=eqF xs1s.u Try.f76 (callT_le E tab) rfl rfl rfl (xs1s.t (rR xs1s.mk) v0 v1 v2) (by kernel_rfl) (by unfold xs1s.t; repeat' first | exact sR | exact sN | exact sL | apply sC | (apply sB; intro _)) h
def xs11.t {γ:Type} (ret:(Bool)→Option γ) (v0:Int):Option γ :=
 (xs1s (v0) ((0:Int)) ((1000000:Int))).bind fun (r0:Bool) =>
 ret (r0)
theorem xs11.u:∀ b,xs11.un (xs11.mk b)=b:=fun _ => by kernel_rfl
theorem xs11.eq (v0) {b} (h:xs11.t some v0=some b):xs11 v0=some b:=eqF xs11.u Try.f77 (callT_le E tab) rfl rfl rfl (xs11.t (rR xs11.mk) v0) (by kernel_rfl) (by unfold xs11.t; repeat' first | exact sR | exact sN | exact sL | apply sC | (apply sB; intro _)) h
def xs1q.s3 (v0:List (Int × Int × Bool)) (v1:List (List Int × List Int × Bool)) (v2:List (Int × Int × Bool)) (v3:List (List Int × List Int × Bool)) (v4:List (List Int × List Int × Bool)) (v5:Int) (v6:Int):List Cell:=nn 2 (⟨(.box false),[.d .deep Yb v0,.d .deep Ya v1],false,false,false,0,0⟩::⟨(.box false),[.d .deep Yb v2,.d .deep Ya v3],false,false,false,0,0⟩::nn 8 (vc (.d .fro Ya v4)::vc (iL v5)::vc (iL v6)::nn 21 ([])))
def xs1q.q3:=fun v0 v1 v2 v3 v4 v5 v6 => loopAtL E (callT E tab) 45 Try.f45 1 [.r,.r,.l,.r,.b] (xs1q.s3 v0 v1 v2 v3 v4 v5 v6)
def xs1q.l3:=fun v0 v1 v2 v3 v4 v5 v6 => tOf xs1q.mk (xs1q.q3 v0 v1 v2 v3 v4 v5 v6)
def xs1q.t {γ:Type} (ret:((List (Int × Int × Bool)) × (List (List Int × List Int × Bool)))→Option γ) (lp3:(List (Int × Int × Bool))→(List (List Int × List Int × Bool))→(List (Int × Int × Bool))→(List (List Int × List Int × Bool))→(List (List Int × List Int × Bool))→Int→Int→Option γ) (v0:List (Int × Int × Bool)) (v1:List (List Int × List Int × Bool)):Option γ :=
 bif decide (([]:List Int).length+v0.length≤(4294967296:Nat)) then
 lp3 ([]) ([]) ([] ++ v0) ([]) (v1) ((↑v1.length:Int)) ((0:Int))
 else
 none
def xs1q.t3 {γ:Type} (ret:((List (Int × Int × Bool)) × (List (List Int × List Int × Bool)))→Option γ) (lp3:(List (Int × Int × Bool))→(List (List Int × List Int × Bool))→(List (Int × Int × Bool))→(List (List Int × List Int × Bool))→(List (List Int × List Int × Bool))→Int→Int→Option γ) (v0:List (Int × Int × Bool)) (v1:List (List Int × List Int × Bool)) (v2:List (Int × Int × Bool)) (v3:List (List Int × List Int × Bool)) (v4:List (List Int × List Int × Bool)) (v5:Int) (v6:Int):Option γ :=
 bif decide (v6<v5) then
 bif decide ((0:Int)≤v6) then
 bif decide (v6.toNat<v4.length) then
 bif decide (([]:List Int).length+(v4.getD v6.toNat ([],[],Bool.false)).fst.length≤(4294967296:Nat)) then
 bif decide (([]:List Int).length+(v4.getD v6.toNat ([],[],Bool.false)).snd.fst.length≤(4294967296:Nat)) then
 bif decide   (v3.length+      [([] ++ (v4.getD v6.toNat ([],[],Bool.false)).fst,[] ++ (v4.getD v6.toNat ([],[],Bool.false)).snd.fst,            (v4.getD v6.toNat ([],[],Bool.false)).snd.snd)].length≤    (4294967296:Nat)) then
 lp3 (v0) (v1) (v2) (v3 ++   [([] ++ (v4.getD v6.toNat ([],[],Bool.false)).fst,[] ++ (v4.getD v6.toNat ([],[],Bool.false)).snd.fst,      (v4.getD v6.toNat ([],[],Bool.false)).snd.snd)]) (v4) (v5) (IntKind.i64.wrap (v6+(1:Int)))
 else
 none
 else
 none
 else
 none
 else
 none
 else
 none
 else
 ret (v2,v3)
theorem xs1q.u:∀ b,xs1q.un (xs1q.mk b)=b:=fun _ => by kernel_rfl
theorem xs1q.eq (v0 v1) {b} (h:xs1q.t some xs1q.l3 v0 v1=some b):xs1q v0 v1=some b:=eqF xs1q.u Try.f45 (callT_le E tab) rfl rfl rfl (xs1q.t (rR xs1q.mk) xs1q.q3 v0 v1) (by kernel_rfl) (by unfold xs1q.t; repeat' first | exact sR | exact sN | exact sL | apply sC | (apply sB; intro _)) h
theorem xs1q.eq3 (v0 v1 v2 v3 v4 v5 v6) {b} (h:xs1q.t3 some xs1q.l3 v0 v1 v2 v3 v4 v5 v6=some b):xs1q.l3 v0 v1 v2 v3 v4 v5 v6=some b:=eqL xs1q.u (xs1q.t3 (rR xs1q.mk) xs1q.q3 v0 v1 v2 v3 v4 v5 v6) (by kernel_rfl) (by unfold xs1q.t3; repeat' first | exact sR | exact sN | exact sL | apply sC | (apply sB; intro _)) h
def xs10.s17 (v0:Int) (v1:List (List Int × List Int × Bool)) (v2:Int) (v3:Int) (v4:List Int) (v5:Int) (v6:Int):List Cell:=nn 4 (vc (iL v0)::nn 25 (vc (.d .fro Ya v1)::vc (iL v2)::vc (iL v3)::nn 6 (vc (.d .fro (.sl (.int .i64)) v4)::vc (iL v5)::vc (iL v6)::nn 9 ([]))))
def xs10.q17:=fun v0 v1 v2 v3 v4 v5 v6 => loopAtL E (callT E tab) 39 Try.f39 1 [.r,.r,.r,.r,.l,.r,.b,.o,.r,.r,.l,.b,.r,.r,.r,.b] (xs10.s17 v0 v1 v2 v3 v4 v5 v6)
def xs10.l17:=fun v0 v1 v2 v3 v4 v5 v6 => tOf xs10.mk (xs10.q17 v0 v1 v2 v3 v4 v5 v6)
def xs10.s12 (v0:Int) (v1:List (List Int × List Int × Bool)) (v2:Int) (v3:Int):List Cell:=nn 4 (vc (iL v0)::nn 25 (vc (.d .fro Ya v1)::vc (iL v2)::vc (iL v3)::nn 18 ([])))
def xs10.q12:=fun v0 v1 v2 v3 => loopAtL E (callT E tab) 39 Try.f39 1 [.r,.r,.r,.r,.l,.r,.b] (xs10.s12 v0 v1 v2 v3)
def xs10.l12:=fun v0 v1 v2 v3 => tOf xs10.mk (xs10.q12 v0 v1 v2 v3)
def xs10.s5 (v0:List (Int × Int × Bool)) (v1:List (List Int × List Int × Bool)) (v2:Int) (v3:List (Int × Int × Bool)) (v4:Int) (v5:Int):List Cell:=nn 1 (⟨(.box false),[.d .fro Yb v0,.d .fro Ya v1],false,false,false,0,0⟩::nn 2 (vc (iL v2)::nn 10 (vc (.d .fro Yb v3)::vc (iL v4)::vc (iL v5)::nn 33 ([]))))
def xs10.q5:=fun v0 v1 v2 v3 v4 v5 => loopAtL E (callT E tab) 39 Try.f39 1 [.r,.r,.r,.l,.r,.b] (xs10.s5 v0 v1 v2 v3 v4 v5)
def xs10.l5:=fun v0 v1 v2 v3 v4 v5 => tOf xs10.mk (xs10.q5 v0 v1 v2 v3 v4 v5)
def xs10.t {γ:Type} (ret:(Int × Bool)→Option γ) (lp5:(List (Int × Int × Bool))→(List (List Int × List Int × Bool))→Int→(List (Int × Int × Bool))→Int→Int→Option γ) (v0:List (Int × Int × Bool)) (v1:List (List Int × List Int × Bool)):Option γ :=
 (xs16 (v0) (v1)).bind fun (r0:Bool) =>
 bif !r0 then
 ret ((0:Int),Bool.false)
 else
 lp5 (v0) (v1) ((0:Int)) (v0) ((↑v0.length:Int)) ((0:Int))
def xs10.t17 {γ:Type} (ret:(Int × Bool)→Option γ) (lp17:Int→(List (List Int × List Int × Bool))→Int→Int→(List Int)→Int→Int→Option γ) (lp12:Int→(List (List Int × List Int × Bool))→Int→Int→Option γ) (v0:Int) (v1:List (List Int × List Int × Bool)) (v2:Int) (v3:Int) (v4:List Int) (v5:Int) (v6:Int):Option γ :=
 bif decide (v6<v5) then
 bif decide ((0:Int)≤v6) then
 bif decide (v6.toNat<v4.length) then
 lp17 (IntKind.i64.wrap (v0+v4.getD v6.toNat (0:Int))) (v1) (v2) (v3) (v4) (v5) (IntKind.i64.wrap (v6+(1:Int)))
 else
 none
 else
 none
 else
 lp12 (v0) (v1) (v2) (IntKind.i64.wrap (v3+(1:Int)))
def xs10.t12 {γ:Type} (ret:(Int × Bool)→Option γ) (lp17:Int→(List (List Int × List Int × Bool))→Int→Int→(List Int)→Int→Int→Option γ) (v0:Int) (v1:List (List Int × List Int × Bool)) (v2:Int) (v3:Int):Option γ :=
 bif decide (v3<v2) then
 bif decide ((0:Int)≤v3) then
 bif decide (v3.toNat<v1.length) then
 bif (v1.getD v3.toNat ([],[],Bool.false)).snd.snd then
 ret ((0:Int),Bool.false)
 else
 lp17 (v0) (v1) (v2) (v3) ((v1.getD v3.toNat ([],[],Bool.false)).snd.fst) ((↑(v1.getD v3.toNat ([],[],Bool.false)).snd.fst.length:Int)) ((0:Int))
 else
 none
 else
 none
 else
 ret (v0,Bool.true)
def xs10.t5 {γ:Type} (ret:(Int × Bool)→Option γ) (lp12:Int→(List (List Int × List Int × Bool))→Int→Int→Option γ) (lp5:(List (Int × Int × Bool))→(List (List Int × List Int × Bool))→Int→(List (Int × Int × Bool))→Int→Int→Option γ) (v0:List (Int × Int × Bool)) (v1:List (List Int × List Int × Bool)) (v2:Int) (v3:List (Int × Int × Bool)) (v4:Int) (v5:Int):Option γ :=
 bif decide (v5<v4) then
 bif decide ((0:Int)≤v5) then
 bif decide (v5.toNat<v3.length) then
 bif !(v3.getD v5.toNat ((0:Int),(0:Int),Bool.false)).snd.snd then
 ret ((0:Int),Bool.false)
 else
 lp5 (v0) (v1) (IntKind.i64.wrap (v2+(v3.getD v5.toNat ((0:Int),(0:Int),Bool.false)).snd.fst)) (v3) (v4) (IntKind.i64.wrap (v5+(1:Int)))
 else
 none
 else
 none
 else
 lp12 (v2) (v1) ((↑v1.length:Int)) ((0:Int))
theorem xs10.u:∀ b,xs10.un (xs10.mk b)=b:=fun _ => by kernel_rfl
theorem xs10.eq (v0 v1) {b} (h:xs10.t some xs10.l5 v0 v1=some b):xs10 v0 v1=some b:=eqF xs10.u Try.f39 (callT_le E tab) rfl rfl rfl (xs10.t (rR xs10.mk) xs10.q5 v0 v1) (by kernel_rfl) (by unfold xs10.t; repeat' first | exact sR | exact sN | exact sL | apply sC | (apply sB; intro _)) h
theorem xs10.eq17 (v0 v1 v2 v3 v4 v5 v6) {b} (h:xs10.t17 some xs10.l17 xs10.l12 v0 v1 v2 v3 v4 v5 v6=some b):xs10.l17 v0 v1 v2 v3 v4 v5 v6=some b:=eqL xs10.u (xs10.t17 (rR xs10.mk) xs10.q17 xs10.q12 v0 v1 v2 v3 v4 v5 v6) (by kernel_rfl) (by unfold xs10.t17; repeat' first | exact sR | exact sN | exact sL | apply sC | (apply sB; intro _)) h
theorem xs10.eq12 (v0 v1 v2 v3) {b} (h:xs10.t12 some xs10.l17 v0 v1 v2 v3=some b):xs10.l12 v0 v1 v2 v3=some b:=eqL xs10.u (xs10.t12 (rR xs10.mk) xs10.q17 v0 v1 v2 v3) (by kernel_rfl) (by unfold xs10.t12; repeat' first | exact sR | exact sN | exact sL | apply sC | (apply sB; intro _)) h
theorem xs10.eq5 (v0 v1 v2 v3 v4 v5) {b} (h:xs10.t5 some xs10.l12 xs10.l5 v0 v1 v2 v3 v4 v5=some b):xs10.l5 v0 v1 v2 v3 v4 v5=some b:=eqL xs10.u (xs10.t5 (rR xs10.mk) xs10.q12 xs10.q5 v0 v1 v2 v3 v4 v5) (by kernel_rfl) (by unfold xs10.t5; repeat' first | exact sR | exact sN | exact sL | apply sC | (apply sB; intro _)) h
def xs17.t {γ:Type} (ret:((List (Int × Int × Bool)) × (List (List Int × List Int × Bool)) × Bool)→Option γ) (v0:List (Int × Int × Bool)) (v1:List (List Int × List Int × Bool)) (v2:Int) (v3:Int) (v4:Int) (v5:Int):Option γ :=
 (xs16 (v0) (v1)).bind fun (r0:Bool) =>
 bif !r0 then
 ret ([],[],Bool.false)
 else
 (xs1q (v0) (v1)).bind fun (r1:(List (Int × Int × Bool)) × (List (List Int × List Int × Bool))) =>
 (xs0v (r1.fst) (r1.snd) (v2) (v3) (v4) (v5)).bind fun (r2:(List (Int × Int × Bool)) × (List (List Int × List Int × Bool)) × Bool) =>
 bif !r2.snd.snd then
 ret ([],[],Bool.false)
 else
 (xs16 (r2.fst) (r2.snd.fst)).bind fun (r3:Bool) =>
 bif !r3 then
 ret ([],[],Bool.false)
 else
 ret (r2.fst,r2.snd.fst,Bool.true)
theorem xs17.u:∀ b,xs17.un (xs17.mk b)=b:=fun _ => by kernel_rfl
theorem xs17.eq (v0 v1 v2 v3 v4 v5) {b} (h:xs17.t some v0 v1 v2 v3 v4 v5=some b):xs17 v0 v1 v2 v3 v4 v5=some b:=eqF xs17.u Try.f9 (callT_le E tab) rfl rfl rfl (xs17.t (rR xs17.mk) v0 v1 v2 v3 v4 v5) (by kernel_rfl) (by unfold xs17.t; repeat' first | exact sR | exact sN | exact sL | apply sC | (apply sB; intro _)) h
def xs0v.t {γ:Type} (ret:((List (Int × Int × Bool)) × (List (List Int × List Int × Bool)) × Bool)→Option γ) (v0:List (Int × Int × Bool)) (v1:List (List Int × List Int × Bool)) (v2:Int) (v3:Int) (v4:Int) (v5:Int):Option γ :=
 bif decide (v3<(0:Int)) then
 ret (v0,v1,Bool.false)
 else
 bif decide (v3 ≥ (↑v0.length:Int)) then
 ret (v0,v1,Bool.false)
 else
 bif v2 == (3:Int) then
 bif decide ((0:Int)≤v3) then
 bif decide (v3.toNat<v0.length) then
 bif decide (v3.toNat<v0.length) then
 bif (v0.getD v3.toNat ((0:Int),(0:Int),Bool.false)).snd.snd then
 ret (v0,v1,Bool.false)
 else
 (xs0u (v0) (v1) (v3) ((-1:Int))).bind fun (r0:(List (Int × Int × Bool)) × (List (List Int × List Int × Bool)) × Bool) =>
 ret (r0.fst,r0.snd.fst,r0.snd.snd)
 else
 none
 else
 none
 else
 none
 else
 bif decide (v4<(0:Int)) then
 ret (v0,v1,Bool.false)
 else
 bif decide (v4 ≥ (↑v0.length:Int)) then
 ret (v0,v1,Bool.false)
 else
 bif v3 == v4 then
 ret (v0,v1,Bool.false)
 else
 bif decide ((0:Int)≤IntKind.i64.wrap (IntKind.i64.wrap (v3 * (↑v0.length:Int))+v4)) then
 bif decide ((IntKind.i64.wrap (IntKind.i64.wrap (v3 * (↑v0.length:Int))+v4)).toNat<v1.length) then
 bif decide ((IntKind.i64.wrap (IntKind.i64.wrap (v3 * (↑v0.length:Int))+v4)).toNat<v1.length) then
 bif decide ((IntKind.i64.wrap (IntKind.i64.wrap (v3 * (↑v0.length:Int))+v4)).toNat<v1.length) then
 bif decide ((IntKind.i64.wrap (IntKind.i64.wrap (v3 * (↑v0.length:Int))+v4)).toNat<v1.length) then
 bif v2 == (1:Int) then
 bif decide ((0:Int)≤v3) then
 bif decide (v3.toNat<v0.length) then
 bif decide (v3.toNat<v0.length) then
 (xs1s (v5) ((1:Int)) ((v0.getD v3.toNat ((0:Int),(0:Int),Bool.false)).fst)).bind fun (r1:Bool) =>
 bif !r1 then
 ret (v0,v1,Bool.false)
 else
 (xs11 (v5)).bind fun (r2:Bool) =>
 bif !r2 then
 ret (v0,v1,Bool.false)
 else
 bif decide ((IntKind.i64.wrap (IntKind.i64.wrap (v3 * (↑v0.length:Int))+v4)).toNat<v1.length) then
 bif (↑(v1.getD (IntKind.i64.wrap (IntKind.i64.wrap (v3 * (↑v0.length:Int))+v4)).toNat             ([],[],Bool.false)).fst.length:    Int) ==   (12:Int) then
 ret (v0,v1,Bool.false)
 else
 bif decide ((0:Int)≤v3) then
 bif decide (v3.toNat<v0.length) then
 bif decide (v3.toNat<v0.length) then
 bif decide ((0:Int)≤v3) then
 bif decide (v3.toNat<v0.length) then
 bif decide (v3.toNat<v0.length) then
 bif decide ((IntKind.i64.wrap (IntKind.i64.wrap (v3 * (↑v0.length:Int))+v4)).toNat<v1.length) then
 bif decide   ((v1.getD (IntKind.i64.wrap (IntKind.i64.wrap (v3 * (↑v0.length:Int))+v4)).toNat             ([],[],Bool.false)).fst.length+      [v5].length≤    (4294967296:Nat)) then
 bif decide ((0:Int)≤IntKind.i64.wrap (IntKind.i64.wrap (v3 * (↑v0.length:Int))+v4)) then
 bif decide ((IntKind.i64.wrap (IntKind.i64.wrap (v3 * (↑v0.length:Int))+v4)).toNat<v1.length) then
 bif decide   ((IntKind.i64.wrap (IntKind.i64.wrap (v3 * (↑v0.length:Int))+v4)).toNat=    (IntKind.i64.wrap (IntKind.i64.wrap (v3 * (↑v0.length:Int))+v4)).toNat) then
 bif decide ((IntKind.i64.wrap (IntKind.i64.wrap (v3 * (↑v0.length:Int))+v4)).toNat<v1.length) then
 ret (v0.set v3.toNat   (IntKind.i64.wrap ((v0.getD v3.toNat ((0:Int),(0:Int),Bool.false)).fst - v5),    (v0.getD v3.toNat ((0:Int),(0:Int),Bool.false)).snd),v1.set (IntKind.i64.wrap (IntKind.i64.wrap (v3 * (↑v0.length:Int))+v4)).toNat   ((v1.getD (IntKind.i64.wrap (IntKind.i64.wrap (v3 * (↑v0.length:Int))+v4)).toNat           ([],[],Bool.false)).fst ++       [v5],    (v1.getD (IntKind.i64.wrap (IntKind.i64.wrap (v3 * (↑v0.length:Int))+v4)).toNat ([],[],Bool.false)).snd),Bool.true)
 else
 none
 else
 none
 else
 none
 else
 none
 else
 none
 else
 none
 else
 none
 else
 none
 else
 none
 else
 none
 else
 none
 else
 none
 else
 none
 else
 none
 else
 none
 else
 none
 else
 bif v2 == (2:Int) then
 bif decide ((IntKind.i64.wrap (IntKind.i64.wrap (v3 * (↑v0.length:Int))+v4)).toNat<v1.length) then
 bif (↑(v1.getD (IntKind.i64.wrap (IntKind.i64.wrap (v3 * (↑v0.length:Int))+v4)).toNat             ([],[],Bool.false)).fst.length:    Int) ==   (0:Int) then
 ret (v0,v1,Bool.false)
 else
 bif decide ((IntKind.i64.wrap (IntKind.i64.wrap (v3 * (↑v0.length:Int))+v4)).toNat<v1.length) then
 bif (↑(v1.getD (IntKind.i64.wrap (IntKind.i64.wrap (v3 * (↑v0.length:Int))+v4)).toNat               ([],[],Bool.false)).snd.fst.length:    Int) ==   (200:Int) then
 ret (v0,v1,Bool.false)
 else
 bif decide ((IntKind.i64.wrap (IntKind.i64.wrap (v3 * (↑v0.length:Int))+v4)).toNat<v1.length) then
 bif decide   (Int.toNat (0:Int)<    (v1.getD (IntKind.i64.wrap (IntKind.i64.wrap (v3 * (↑v0.length:Int))+v4)).toNat           ([],[],Bool.false)).fst.length) then
 bif decide ((IntKind.i64.wrap (IntKind.i64.wrap (v3 * (↑v0.length:Int))+v4)).toNat<v1.length) then
 bif decide   (Int.toNat (0:Int)<    (v1.getD (IntKind.i64.wrap (IntKind.i64.wrap (v3 * (↑v0.length:Int))+v4)).toNat           ([],[],Bool.false)).fst.length) then
 bif decide ((IntKind.i64.wrap (IntKind.i64.wrap (v3 * (↑v0.length:Int))+v4)).toNat<v1.length) then
 bif decide ((IntKind.i64.wrap (IntKind.i64.wrap (v3 * (↑v0.length:Int))+v4)).toNat<v1.length) then
 bif decide   ((Option.some (1:Int)).getD (0:Int)≤    (↑(v1.getD (IntKind.i64.wrap (IntKind.i64.wrap (v3 * (↑v0.length:Int))+v4)).toNat               ([],[],Bool.false)).fst.length:      Int)) then
 bif decide ((IntKind.i64.wrap (IntKind.i64.wrap (v3 * (↑v0.length:Int))+v4)).toNat<v1.length) then
 bif decide   (([]:List Int).length+      (List.drop ((Option.some (1:Int)).getD (0:Int)).toNat           (v1.getD (IntKind.i64.wrap (IntKind.i64.wrap (v3 * (↑v0.length:Int))+v4)).toNat               ([],[],Bool.false)).fst).length≤    (4294967296:Nat)) then
 bif decide ((0:Int)≤IntKind.i64.wrap (IntKind.i64.wrap (v3 * (↑v0.length:Int))+v4)) then
 bif decide ((IntKind.i64.wrap (IntKind.i64.wrap (v3 * (↑v0.length:Int))+v4)).toNat<v1.length) then
 bif decide ((IntKind.i64.wrap (IntKind.i64.wrap (v3 * (↑v0.length:Int))+v4)).toNat<v1.length) then
 bif decide   ((v1.getD (IntKind.i64.wrap (IntKind.i64.wrap (v3 * (↑v0.length:Int))+v4)).toNat             ([],[],Bool.false)).fst.getD       (Int.toNat (0:Int)) (0:Int) >     (0:Int)) then
 bif decide ((0:Int)≤v4) then
 bif decide (v4.toNat<v0.length) then
 bif decide (v4.toNat<v0.length) then
 bif decide ((0:Int)≤v4) then
 bif decide (v4.toNat<v0.length) then
 bif decide (v4.toNat<v0.length) then
 bif (v1.getD (IntKind.i64.wrap (IntKind.i64.wrap (v3 * (↑v0.length:Int))+v4)).toNat ([],[],Bool.false)).snd.snd then
 bif decide   ((IntKind.i64.wrap (IntKind.i64.wrap (v3 * (↑v0.length:Int))+v4)).toNat<    (v1.set (IntKind.i64.wrap (IntKind.i64.wrap (v3 * (↑v0.length:Int))+v4)).toNat         ([] ++             List.drop ((Option.some (1:Int)).getD (0:Int)).toNat               (v1.getD (IntKind.i64.wrap (IntKind.i64.wrap (v3 * (↑v0.length:Int))+v4)).toNat                   ([],[],Bool.false)).fst,          (v1.getD (IntKind.i64.wrap (IntKind.i64.wrap (v3 * (↑v0.length:Int))+v4)).toNat               ([],[],Bool.false)).snd)).length) then
 bif decide   (((v1.set (IntKind.i64.wrap (IntKind.i64.wrap (v3 * (↑v0.length:Int))+v4)).toNat                   ([] ++                       List.drop ((Option.some (1:Int)).getD (0:Int)).toNat                         (v1.getD (IntKind.i64.wrap (IntKind.i64.wrap (v3 * (↑v0.length:Int))+v4)).toNat                             ([],[],Bool.false)).fst,                    (v1.getD (IntKind.i64.wrap (IntKind.i64.wrap (v3 * (↑v0.length:Int))+v4)).toNat                         ([],[],Bool.false)).snd)).getD               (IntKind.i64.wrap (IntKind.i64.wrap (v3 * (↑v0.length:Int))+v4)).toNat               ([],[],Bool.false)).snd.fst.length+      [(v1.getD (IntKind.i64.wrap (IntKind.i64.wrap (v3 * (↑v0.length:Int))+v4)).toNat                   ([],[],Bool.false)).fst.getD             (Int.toNat (0:Int)) (0:Int)].length≤    (4294967296:Nat)) then
 bif decide ((0:Int)≤IntKind.i64.wrap (IntKind.i64.wrap (v3 * (↑v0.length:Int))+v4)) then
 bif decide   ((IntKind.i64.wrap (IntKind.i64.wrap (v3 * (↑v0.length:Int))+v4)).toNat<    (v1.set (IntKind.i64.wrap (IntKind.i64.wrap (v3 * (↑v0.length:Int))+v4)).toNat         ([] ++             List.drop ((Option.some (1:Int)).getD (0:Int)).toNat               (v1.getD (IntKind.i64.wrap (IntKind.i64.wrap (v3 * (↑v0.length:Int))+v4)).toNat                   ([],[],Bool.false)).fst,          (v1.getD (IntKind.i64.wrap (IntKind.i64.wrap (v3 * (↑v0.length:Int))+v4)).toNat               ([],[],Bool.false)).snd)).length) then
 bif decide   ((IntKind.i64.wrap (IntKind.i64.wrap (v3 * (↑v0.length:Int))+v4)).toNat=    (IntKind.i64.wrap (IntKind.i64.wrap (v3 * (↑v0.length:Int))+v4)).toNat) then
 bif decide   ((IntKind.i64.wrap (IntKind.i64.wrap (v3 * (↑v0.length:Int))+v4)).toNat<    (v1.set (IntKind.i64.wrap (IntKind.i64.wrap (v3 * (↑v0.length:Int))+v4)).toNat         ([] ++             List.drop ((Option.some (1:Int)).getD (0:Int)).toNat               (v1.getD (IntKind.i64.wrap (IntKind.i64.wrap (v3 * (↑v0.length:Int))+v4)).toNat                   ([],[],Bool.false)).fst,          (v1.getD (IntKind.i64.wrap (IntKind.i64.wrap (v3 * (↑v0.length:Int))+v4)).toNat               ([],[],Bool.false)).snd)).length) then
 ret (v0.set v4.toNat   (IntKind.i64.wrap       ((v0.getD v4.toNat ((0:Int),(0:Int),Bool.false)).fst+        (v1.getD (IntKind.i64.wrap (IntKind.i64.wrap (v3 * (↑v0.length:Int))+v4)).toNat                 ([],[],Bool.false)).fst.getD           (Int.toNat (0:Int)) (0:Int)),    (v0.getD v4.toNat ((0:Int),(0:Int),Bool.false)).snd),(v1.set (IntKind.i64.wrap (IntKind.i64.wrap (v3 * (↑v0.length:Int))+v4)).toNat       ([] ++           List.drop ((Option.some (1:Int)).getD (0:Int)).toNat             (v1.getD (IntKind.i64.wrap (IntKind.i64.wrap (v3 * (↑v0.length:Int))+v4)).toNat                 ([],[],Bool.false)).fst,        (v1.getD (IntKind.i64.wrap (IntKind.i64.wrap (v3 * (↑v0.length:Int))+v4)).toNat             ([],[],Bool.false)).snd)).set   (IntKind.i64.wrap (IntKind.i64.wrap (v3 * (↑v0.length:Int))+v4)).toNat   (((v1.set (IntKind.i64.wrap (IntKind.i64.wrap (v3 * (↑v0.length:Int))+v4)).toNat             ([] ++                 List.drop ((Option.some (1:Int)).getD (0:Int)).toNat                   (v1.getD (IntKind.i64.wrap (IntKind.i64.wrap (v3 * (↑v0.length:Int))+v4)).toNat                       ([],[],Bool.false)).fst,              (v1.getD (IntKind.i64.wrap (IntKind.i64.wrap (v3 * (↑v0.length:Int))+v4)).toNat                   ([],[],Bool.false)).snd)).getD         (IntKind.i64.wrap (IntKind.i64.wrap (v3 * (↑v0.length:Int))+v4)).toNat ([],[],Bool.false)).fst,    ((v1.set (IntKind.i64.wrap (IntKind.i64.wrap (v3 * (↑v0.length:Int))+v4)).toNat                 ([] ++                     List.drop ((Option.some (1:Int)).getD (0:Int)).toNat                       (v1.getD (IntKind.i64.wrap (IntKind.i64.wrap (v3 * (↑v0.length:Int))+v4)).toNat                           ([],[],Bool.false)).fst,                  (v1.getD (IntKind.i64.wrap (IntKind.i64.wrap (v3 * (↑v0.length:Int))+v4)).toNat                       ([],[],Bool.false)).snd)).getD             (IntKind.i64.wrap (IntKind.i64.wrap (v3 * (↑v0.length:Int))+v4)).toNat             ([],[],Bool.false)).snd.fst ++       [(v1.getD (IntKind.i64.wrap (IntKind.i64.wrap (v3 * (↑v0.length:Int))+v4)).toNat                 ([],[],Bool.false)).fst.getD           (Int.toNat (0:Int)) (0:Int)],    ((v1.set (IntKind.i64.wrap (IntKind.i64.wrap (v3 * (↑v0.length:Int))+v4)).toNat               ([] ++                   List.drop ((Option.some (1:Int)).getD (0:Int)).toNat                     (v1.getD (IntKind.i64.wrap (IntKind.i64.wrap (v3 * (↑v0.length:Int))+v4)).toNat                         ([],[],Bool.false)).fst,                (v1.getD (IntKind.i64.wrap (IntKind.i64.wrap (v3 * (↑v0.length:Int))+v4)).toNat                     ([],[],Bool.false)).snd)).getD           (IntKind.i64.wrap (IntKind.i64.wrap (v3 * (↑v0.length:Int))+v4)).toNat           ([],[],Bool.false)).snd.snd),Bool.true)
 else
 none
 else
 none
 else
 none
 else
 none
 else
 none
 else
 none
 else
 ret (v0.set v4.toNat   (IntKind.i64.wrap       ((v0.getD v4.toNat ((0:Int),(0:Int),Bool.false)).fst+        (v1.getD (IntKind.i64.wrap (IntKind.i64.wrap (v3 * (↑v0.length:Int))+v4)).toNat                 ([],[],Bool.false)).fst.getD           (Int.toNat (0:Int)) (0:Int)),    (v0.getD v4.toNat ((0:Int),(0:Int),Bool.false)).snd),v1.set (IntKind.i64.wrap (IntKind.i64.wrap (v3 * (↑v0.length:Int))+v4)).toNat   ([] ++       List.drop ((Option.some (1:Int)).getD (0:Int)).toNat         (v1.getD (IntKind.i64.wrap (IntKind.i64.wrap (v3 * (↑v0.length:Int))+v4)).toNat             ([],[],Bool.false)).fst,    (v1.getD (IntKind.i64.wrap (IntKind.i64.wrap (v3 * (↑v0.length:Int))+v4)).toNat ([],[],Bool.false)).snd),Bool.true)
 else
 none
 else
 none
 else
 none
 else
 none
 else
 none
 else
 none
 else
 bif decide ((0:Int)≤v4) then
 bif decide (v4.toNat<v0.length) then
 bif decide (v4.toNat<v0.length) then
 bif (v0.getD v4.toNat ((0:Int),(0:Int),Bool.false)).snd.snd then
 bif decide ((0:Int)≤IntKind.i64.wrap (IntKind.i64.wrap (v3 * (↑v0.length:Int))+v4)) then
 bif decide   ((IntKind.i64.wrap (IntKind.i64.wrap (v3 * (↑v0.length:Int))+v4)).toNat<    (v1.set (IntKind.i64.wrap (IntKind.i64.wrap (v3 * (↑v0.length:Int))+v4)).toNat         ([] ++             List.drop ((Option.some (1:Int)).getD (0:Int)).toNat               (v1.getD (IntKind.i64.wrap (IntKind.i64.wrap (v3 * (↑v0.length:Int))+v4)).toNat                   ([],[],Bool.false)).fst,          (v1.getD (IntKind.i64.wrap (IntKind.i64.wrap (v3 * (↑v0.length:Int))+v4)).toNat               ([],[],Bool.false)).snd)).length) then
 bif decide   ((IntKind.i64.wrap (IntKind.i64.wrap (v3 * (↑v0.length:Int))+v4)).toNat<    (v1.set (IntKind.i64.wrap (IntKind.i64.wrap (v3 * (↑v0.length:Int))+v4)).toNat         ([] ++             List.drop ((Option.some (1:Int)).getD (0:Int)).toNat               (v1.getD (IntKind.i64.wrap (IntKind.i64.wrap (v3 * (↑v0.length:Int))+v4)).toNat                   ([],[],Bool.false)).fst,          (v1.getD (IntKind.i64.wrap (IntKind.i64.wrap (v3 * (↑v0.length:Int))+v4)).toNat               ([],[],Bool.false)).snd)).length) then
 ret (v0,(v1.set (IntKind.i64.wrap (IntKind.i64.wrap (v3 * (↑v0.length:Int))+v4)).toNat       ([] ++           List.drop ((Option.some (1:Int)).getD (0:Int)).toNat             (v1.getD (IntKind.i64.wrap (IntKind.i64.wrap (v3 * (↑v0.length:Int))+v4)).toNat                 ([],[],Bool.false)).fst,        (v1.getD (IntKind.i64.wrap (IntKind.i64.wrap (v3 * (↑v0.length:Int))+v4)).toNat             ([],[],Bool.false)).snd)).set   (IntKind.i64.wrap (IntKind.i64.wrap (v3 * (↑v0.length:Int))+v4)).toNat   (((v1.set (IntKind.i64.wrap (IntKind.i64.wrap (v3 * (↑v0.length:Int))+v4)).toNat             ([] ++                 List.drop ((Option.some (1:Int)).getD (0:Int)).toNat                   (v1.getD (IntKind.i64.wrap (IntKind.i64.wrap (v3 * (↑v0.length:Int))+v4)).toNat                       ([],[],Bool.false)).fst,              (v1.getD (IntKind.i64.wrap (IntKind.i64.wrap (v3 * (↑v0.length:Int))+v4)).toNat                   ([],[],Bool.false)).snd)).getD         (IntKind.i64.wrap (IntKind.i64.wrap (v3 * (↑v0.length:Int))+v4)).toNat ([],[],Bool.false)).fst,    ((v1.set (IntKind.i64.wrap (IntKind.i64.wrap (v3 * (↑v0.length:Int))+v4)).toNat               ([] ++                   List.drop ((Option.some (1:Int)).getD (0:Int)).toNat                     (v1.getD (IntKind.i64.wrap (IntKind.i64.wrap (v3 * (↑v0.length:Int))+v4)).toNat                         ([],[],Bool.false)).fst,                (v1.getD (IntKind.i64.wrap (IntKind.i64.wrap (v3 * (↑v0.length:Int))+v4)).toNat                     ([],[],Bool.false)).snd)).getD           (IntKind.i64.wrap (IntKind.i64.wrap (v3 * (↑v0.length:Int))+v4)).toNat           ([],[],Bool.false)).snd.fst,    Bool.false),Bool.true)
 else
 none
 else
 none
 else
 none
 else
 (xs0u (v0) (v1.set (IntKind.i64.wrap (IntKind.i64.wrap (v3 * (↑v0.length:Int))+v4)).toNat   ([] ++       List.drop ((Option.some (1:Int)).getD (0:Int)).toNat         (v1.getD (IntKind.i64.wrap (IntKind.i64.wrap (v3 * (↑v0.length:Int))+v4)).toNat             ([],[],Bool.false)).fst,    (v1.getD (IntKind.i64.wrap (IntKind.i64.wrap (v3 * (↑v0.length:Int))+v4)).toNat ([],[],Bool.false)).snd)) (v4) (v3)).bind fun (r3:(List (Int × Int × Bool)) × (List (List Int × List Int × Bool)) × Bool) =>
 ret (r3.fst,r3.snd.fst,r3.snd.snd)
 else
 none
 else
 none
 else
 none
 else
 none
 else
 none
 else
 none
 else
 none
 else
 none
 else
 none
 else
 none
 else
 none
 else
 none
 else
 none
 else
 none
 else
 none
 else
 none
 else
 none
 else
 ret (v0,v1,Bool.false)
 else
 none
 else
 none
 else
 none
 else
 none
 else
 none
theorem xs0v.u:∀ b,xs0v.un (xs0v.mk b)=b:=fun _ => by kernel_rfl
theorem xs0v.eq (v0 v1 v2 v3 v4 v5) {b} (h:xs0v.t some v0 v1 v2 v3 v4 v5=some b):xs0v v0 v1 v2 v3 v4 v5=some b:=eqF xs0v.u Try.f44 (callT_le E tab) rfl rfl rfl (xs0v.t (rR xs0v.mk) v0 v1 v2 v3 v4 v5) (by kernel_rfl) (by unfold xs0v.t; repeat' first | exact sR | exact sN | exact sL | apply sC | (apply sB; intro _)) h
end
end GoV

/- Equations of the program's functions (printed by wip/tools/emit.py). -/
namespace GoV
open Go Go.Proofs
set_option maxRecDepth 100000
noncomputable section

def xs0u.s5 (v0:Int) (v1:Int) (v2:List (Int × Int × Bool)) (v3:List (List Int × List Int × Bool)) (v4:List (Int × Int × Bool)) (v5:List (List Int × List Int × Bool)) (v6:Int) (v7:Int):List Cell:=nn 1 (vc (iL v0)::vc (iL v1)::⟨(.box false),[.d .deep Yb v2,.d .deep Ya v3],false,false,false,0,0⟩::nn 2 (⟨(.box false),[.d .deep Yb v4,.d .deep Ya v5],false,false,false,0,0⟩::nn 1 (vc (iL v6)::vc (iL v7)::nn 74 ([]))))
def xs0u.q5:=fun v0 v1 v2 v3 v4 v5 v6 v7 => loopAtL E (callT E tab) 78 Try.f78 3 [.r,.r,.r,.r,.l,.r,.b] (xs0u.s5 v0 v1 v2 v3 v4 v5 v6 v7)
def xs0u.l5:=fun v0 v1 v2 v3 v4 v5 v6 v7 => tOf xs0u.mk (xs0u.q5 v0 v1 v2 v3 v4 v5 v6 v7)
def xs0u.t {γ:Type} (ret:((List (Int × Int × Bool)) × (List (List Int × List Int × Bool)) × Bool)→Option γ) (lp5:Int→Int→(List (Int × Int × Bool))→(List (List Int × List Int × Bool))→(List (Int × Int × Bool))→(List (List Int × List Int × Bool))→Int→Int→Option γ) (v0:List (Int × Int × Bool)) (v1:List (List Int × List Int × Bool)) (v2:Int) (v3:Int):Option γ :=
 bif decide ((0:Int)≤v2) then
 bif decide (v2.toNat<v0.length) then
 bif decide (v2.toNat<v0.length) then
 bif decide ((0:Int)≤v2) then
 bif decide (v2.toNat<v0.length) then
 bif decide (v2.toNat<v0.length) then
 bif decide ((0:Int)≤v2) then
 bif decide   (v2.toNat<    (v0.set v2.toNat         ((v0.getD v2.toNat ((0:Int),(0:Int),Bool.false)).fst,          (v0.getD v2.toNat ((0:Int),(0:Int),Bool.false)).fst,          (v0.getD v2.toNat ((0:Int),(0:Int),Bool.false)).snd.snd)).length) then
 bif decide   (v2.toNat<    (v0.set v2.toNat         ((v0.getD v2.toNat ((0:Int),(0:Int),Bool.false)).fst,          (v0.getD v2.toNat ((0:Int),(0:Int),Bool.false)).fst,          (v0.getD v2.toNat ((0:Int),(0:Int),Bool.false)).snd.snd)).length) then
 lp5 (v2) (v3) ((v0.set v2.toNat       ((v0.getD v2.toNat ((0:Int),(0:Int),Bool.false)).fst,        (v0.getD v2.toNat ((0:Int),(0:Int),Bool.false)).fst,        (v0.getD v2.toNat ((0:Int),(0:Int),Bool.false)).snd.snd)).set   v2.toNat   (((v0.set v2.toNat             ((v0.getD v2.toNat ((0:Int),(0:Int),Bool.false)).fst,              (v0.getD v2.toNat ((0:Int),(0:Int),Bool.false)).fst,              (v0.getD v2.toNat ((0:Int),(0:Int),Bool.false)).snd.snd)).getD         v2.toNat ((0:Int),(0:Int),Bool.false)).fst,    ((v0.set v2.toNat               ((v0.getD v2.toNat ((0:Int),(0:Int),Bool.false)).fst,                (v0.getD v2.toNat ((0:Int),(0:Int),Bool.false)).fst,                (v0.getD v2.toNat ((0:Int),(0:Int),Bool.false)).snd.snd)).getD           v2.toNat ((0:Int),(0:Int),Bool.false)).snd.fst,    Bool.true)) (v1) ([]) ([]) ((↑v0.length:Int)) ((0:Int))
 else
 none
 else
 none
 else
 none
 else
 none
 else
 none
 else
 none
 else
 none
 else
 none
 else
 none
def xs0u.t5 {γ:Type} (ret:((List (Int × Int × Bool)) × (List (List Int × List Int × Bool)) × Bool)→Option γ) (lp5:Int→Int→(List (Int × Int × Bool))→(List (List Int × List Int × Bool))→(List (Int × Int × Bool))→(List (List Int × List Int × Bool))→Int→Int→Option γ) (v0:Int) (v1:Int) (v2:List (Int × Int × Bool)) (v3:List (List Int × List Int × Bool)) (v4:List (Int × Int × Bool)) (v5:List (List Int × List Int × Bool)) (v6:Int) (v7:Int):Option γ :=
 bif decide (v7<v6) then
 bif v7 == v0 then
 lp5 (v0) (v1) (v2) (v3) (v4) (v5) (v6) (IntKind.i64.wrap (v7+(1:Int)))
 else
 bif decide ((0:Int)≤IntKind.i64.wrap (IntKind.i64.wrap (v7 * v6)+v0)) then
 bif decide ((IntKind.i64.wrap (IntKind.i64.wrap (v7 * v6)+v0)).toNat<v3.length) then
 bif decide ((IntKind.i64.wrap (IntKind.i64.wrap (v7 * v6)+v0)).toNat<v3.length) then
 bif decide ((0:Int)≤IntKind.i64.wrap (IntKind.i64.wrap (v0 * v6)+v7)) then
 bif decide   ((IntKind.i64.wrap (IntKind.i64.wrap (v0 * v6)+v7)).toNat<    (v3.set (IntKind.i64.wrap (IntKind.i64.wrap (v7 * v6)+v0)).toNat         ((v3.getD (IntKind.i64.wrap (IntKind.i64.wrap (v7 * v6)+v0)).toNat ([],[],Bool.false)).fst,          (v3.getD (IntKind.i64.wrap (IntKind.i64.wrap (v7 * v6)+v0)).toNat ([],[],Bool.false)).snd.fst,          v7 != v1)).length) then
 bif decide   ((IntKind.i64.wrap (IntKind.i64.wrap (v0 * v6)+v7)).toNat<    (v3.set (IntKind.i64.wrap (IntKind.i64.wrap (v7 * v6)+v0)).toNat         ((v3.getD (IntKind.i64.wrap (IntKind.i64.wrap (v7 * v6)+v0)).toNat ([],[],Bool.false)).fst,          (v3.getD (IntKind.i64.wrap (IntKind.i64.wrap (v7 * v6)+v0)).toNat ([],[],Bool.false)).snd.fst,          v7 != v1)).length) then
 bif decide   ((IntKind.i64.wrap (IntKind.i64.wrap (v0 * v6)+v7)).toNat<    (v3.set (IntKind.i64.wrap (IntKind.i64.wrap (v7 * v6)+v0)).toNat         ((v3.getD (IntKind.i64.wrap (IntKind.i64.wrap (v7 * v6)+v0)).toNat ([],[],Bool.false)).fst,          (v3.getD (IntKind.i64.wrap (IntKind.i64.wrap (v7 * v6)+v0)).toNat ([],[],Bool.false)).snd.fst,          v7 != v1)).length) then
 bif (↑((v3.set (IntKind.i64.wrap (IntKind.i64.wrap (v7 * v6)+v0)).toNat                 ((v3.getD (IntKind.i64.wrap (IntKind.i64.wrap (v7 * v6)+v0)).toNat ([],[],Bool.false)).fst,                  (v3.getD (IntKind.i64.wrap (IntKind.i64.wrap (v7 * v6)+v0)).toNat                         ([],[],Bool.false)).snd.fst,                  v7 != v1)).getD             (IntKind.i64.wrap (IntKind.i64.wrap (v0 * v6)+v7)).toNat ([],[],Bool.false)).fst.length:    Int) ==   (12:Int) then
 ret (v2,v3.set (IntKind.i64.wrap (IntKind.i64.wrap (v7 * v6)+v0)).toNat   ((v3.getD (IntKind.i64.wrap (IntKind.i64.wrap (v7 * v6)+v0)).toNat ([],[],Bool.false)).fst,    (v3.getD (IntKind.i64.wrap (IntKind.i64.wrap (v7 * v6)+v0)).toNat ([],[],Bool.false)).snd.fst,v7 != v1),Bool.false)
 else
 bif decide ((0:Int)≤IntKind.i64.wrap (IntKind.i64.wrap (v0 * v6)+v7)) then
 bif decide   ((IntKind.i64.wrap (IntKind.i64.wrap (v0 * v6)+v7)).toNat<    (v3.set (IntKind.i64.wrap (IntKind.i64.wrap (v7 * v6)+v0)).toNat         ((v3.getD (IntKind.i64.wrap (IntKind.i64.wrap (v7 * v6)+v0)).toNat ([],[],Bool.false)).fst,          (v3.getD (IntKind.i64.wrap (IntKind.i64.wrap (v7 * v6)+v0)).toNat ([],[],Bool.false)).snd.fst,          v7 != v1)).length) then
 bif decide   ((IntKind.i64.wrap (IntKind.i64.wrap (v0 * v6)+v7)).toNat<    (v3.set (IntKind.i64.wrap (IntKind.i64.wrap (v7 * v6)+v0)).toNat         ((v3.getD (IntKind.i64.wrap (IntKind.i64.wrap (v7 * v6)+v0)).toNat ([],[],Bool.false)).fst,          (v3.getD (IntKind.i64.wrap (IntKind.i64.wrap (v7 * v6)+v0)).toNat ([],[],Bool.false)).snd.fst,          v7 != v1)).length) then
 bif decide   ((IntKind.i64.wrap (IntKind.i64.wrap (v0 * v6)+v7)).toNat<    (v3.set (IntKind.i64.wrap (IntKind.i64.wrap (v7 * v6)+v0)).toNat         ((v3.getD (IntKind.i64.wrap (IntKind.i64.wrap (v7 * v6)+v0)).toNat ([],[],Bool.false)).fst,          (v3.getD (IntKind.i64.wrap (IntKind.i64.wrap (v7 * v6)+v0)).toNat ([],[],Bool.false)).snd.fst,          v7 != v1)).length) then
 bif decide   (((v3.set (IntKind.i64.wrap (IntKind.i64.wrap (v7 * v6)+v0)).toNat                 ((v3.getD (IntKind.i64.wrap (IntKind.i64.wrap (v7 * v6)+v0)).toNat ([],[],Bool.false)).fst,                  (v3.getD (IntKind.i64.wrap (IntKind.i64.wrap (v7 * v6)+v0)).toNat                         ([],[],Bool.false)).snd.fst,                  v7 != v1)).getD             (IntKind.i64.wrap (IntKind.i64.wrap (v0 * v6)+v7)).toNat ([],[],Bool.false)).fst.length+      [(0:Int)].length≤    (4294967296:Nat)) then
 bif decide ((0:Int)≤IntKind.i64.wrap (IntKind.i64.wrap (v0 * v6)+v7)) then
 bif decide   ((IntKind.i64.wrap (IntKind.i64.wrap (v0 * v6)+v7)).toNat<    (v3.set (IntKind.i64.wrap (IntKind.i64.wrap (v7 * v6)+v0)).toNat         ((v3.getD (IntKind.i64.wrap (IntKind.i64.wrap (v7 * v6)+v0)).toNat ([],[],Bool.false)).fst,          (v3.getD (IntKind.i64.wrap (IntKind.i64.wrap (v7 * v6)+v0)).toNat ([],[],Bool.false)).snd.fst,          v7 != v1)).length) then
 bif decide   ((IntKind.i64.wrap (IntKind.i64.wrap (v0 * v6)+v7)).toNat=    (IntKind.i64.wrap (IntKind.i64.wrap (v0 * v6)+v7)).toNat) then
 bif decide   ((IntKind.i64.wrap (IntKind.i64.wrap (v0 * v6)+v7)).toNat<    (v3.set (IntKind.i64.wrap (IntKind.i64.wrap (v7 * v6)+v0)).toNat         ((v3.getD (IntKind.i64.wrap (IntKind.i64.wrap (v7 * v6)+v0)).toNat ([],[],Bool.false)).fst,          (v3.getD (IntKind.i64.wrap (IntKind.i64.wrap (v7 * v6)+v0)).toNat ([],[],Bool.false)).snd.fst,          v7 != v1)).length) then
 lp5 (v0) (v1) (v2) ((v3.set (IntKind.i64.wrap (IntKind.i64.wrap (v7 * v6)+v0)).toNat       ((v3.getD (IntKind.i64.wrap (IntKind.i64.wrap (v7 * v6)+v0)).toNat ([],[],Bool.false)).fst,        (v3.getD (IntKind.i64.wrap (IntKind.i64.wrap (v7 * v6)+v0)).toNat ([],[],Bool.false)).snd.fst,        v7 != v1)).set   (IntKind.i64.wrap (IntKind.i64.wrap (v0 * v6)+v7)).toNat   (((v3.set (IntKind.i64.wrap (IntKind.i64.wrap (v7 * v6)+v0)).toNat               ((v3.getD (IntKind.i64.wrap (IntKind.i64.wrap (v7 * v6)+v0)).toNat ([],[],Bool.false)).fst,                (v3.getD (IntKind.i64.wrap (IntKind.i64.wrap (v7 * v6)+v0)).toNat ([],[],Bool.false)).snd.fst,                v7 != v1)).getD           (IntKind.i64.wrap (IntKind.i64.wrap (v0 * v6)+v7)).toNat ([],[],Bool.false)).fst ++       [(0:Int)],    ((v3.set (IntKind.i64.wrap (IntKind.i64.wrap (v7 * v6)+v0)).toNat             ((v3.getD (IntKind.i64.wrap (IntKind.i64.wrap (v7 * v6)+v0)).toNat ([],[],Bool.false)).fst,              (v3.getD (IntKind.i64.wrap (IntKind.i64.wrap (v7 * v6)+v0)).toNat ([],[],Bool.false)).snd.fst,              v7 != v1)).getD         (IntKind.i64.wrap (IntKind.i64.wrap (v0 * v6)+v7)).toNat ([],[],Bool.false)).snd)) (v4) (v5) (v6) (IntKind.i64.wrap (v7+(1:Int)))
 else
 none
 else
 none
 else
 none
 else
 none
 else
 none
 else
 none
 else
 none
 else
 none
 else
 none
 else
 none
 else
 none
 else
 none
 else
 none
 else
 none
 else
 none
 else
 none
 else
 ret (v2,v3,Bool.true)
theorem xs0u.u:∀ b,xs0u.un (xs0u.mk b)=b:=fun _ => by kernel_rfl
theorem xs0u.eq (v0 v1 v2 v3) {b} (h:xs0u.t some xs0u.l5 v0 v1 v2 v3=some b):xs0u v0 v1 v2 v3=some b:=eqF xs0u.u Try.f78 (callT_le E tab) rfl rfl rfl (xs0u.t (rR xs0u.mk) xs0u.q5 v0 v1 v2 v3) (by kernel_rfl) (by unfold xs0u.t; repeat' first | exact sR | exact sN | exact sL | apply sC | (apply sB; intro _)) h
theorem xs0u.eq5 (v0 v1 v2 v3 v4 v5 v6 v7) {b} (h:xs0u.t5 some xs0u.l5 v0 v1 v2 v3 v4 v5 v6 v7=some b):xs0u.l5 v0 v1 v2 v3 v4 v5 v6 v7=some b:=eqL xs0u.u (xs0u.t5 (rR xs0u.mk) xs0u.q5 v0 v1 v2 v3 v4 v5 v6 v7) (by kernel_rfl) (by unfold xs0u.t5; repeat' first | exact sR | exact sN | exact sL | apply sC | (apply sB; intro _)) h
def xi0w.s4 (v0:List (Int × Int × Bool)) (v1:List (List Int × List Int × Bool)) (v2:List (Int × Int × Bool)) (v3:List (List Int × List Int × Bool)) (v4:List (Int × Int × Bool)) (v5:List (List Int × List Int × Bool)) (v6:Int):List Cell:=nn 1 (⟨(.box false),[.d .fro Yb v0,.d .fro Ya v1],false,false,false,0,0⟩::⟨(.box false),[.d .deep Yb v2,.d .deep Ya v3],false,false,false,0,0⟩::nn 2 (⟨(.box false),[.d .deep Yb v4,.d .deep Ya v5],false,false,false,0,0⟩::vc (iL v6)::nn 56 ([])))
def xi0w.q4:=fun v0 v1 v2 v3 v4 v5 v6 => loopAtL E (callT E tab) 17 Try.f17 1 [.r,.r,.r,.l,.b] (xi0w.s4 v0 v1 v2 v3 v4 v5 v6)
def xi0w.l4:=fun v0 v1 v2 v3 v4 v5 v6 => tOf xi0w.mk (xi0w.q4 v0 v1 v2 v3 v4 v5 v6)
def xi0w.t {γ:Type} (ret:((List (Int × Int × Bool)) × (List (List Int × List Int × Bool)) × Int × Bool)→Option γ) (lp4:(List (Int × Int × Bool))→(List (List Int × List Int × Bool))→(List (Int × Int × Bool))→(List (List Int × List Int × Bool))→(List (Int × Int × Bool))→(List (List Int × List Int × Bool))→Int→Option γ) (v0:List (Int × Int × Bool)) (v1:List (List Int × List Int × Bool)):Option γ :=
 (xi12 (v0) (v1)).bind fun (r0:Bool) =>
 bif !r0 then
 ret ([],[],(0:Int),Bool.false)
 else
 (xs04 (v0)).bind fun (r1:Bool) =>
 bif !r1 then
 ret ([],[],(0:Int),Bool.false)
 else
 (xi13 (v0) (v1)).bind fun (r2:(List (Int × Int × Bool)) × (List (List Int × List Int × Bool))) =>
 lp4 (v0) (v1) ([]) ([]) (r2.fst) (r2.snd) ((0:Int))
def xi0w.t4 {γ:Type} (ret:((List (Int × Int × Bool)) × (List (List Int × List Int × Bool)) × Int × Bool)→Option γ) (lp4:(List (Int × Int × Bool))→(List (List Int × List Int × Bool))→(List (Int × Int × Bool))→(List (List Int × List Int × Bool))→(List (Int × Int × Bool))→(List (List Int × List Int × Bool))→Int→Option γ) (v0:List (Int × Int × Bool)) (v1:List (List Int × List Int × Bool)) (v2:List (Int × Int × Bool)) (v3:List (List Int × List Int × Bool)) (v4:List (Int × Int × Bool)) (v5:List (List Int × List Int × Bool)) (v6:Int):Option γ :=
 bif decide (v6<(2000:Int)) then
 (xs06 (v5)).bind fun (r3:Int) =>
 bif decide (r3<(0:Int)) then
 (xi0n (v4) (v5)).bind fun (r4:Int × Bool) =>
 bif !r4.snd then
 ret ([],[],(0:Int),Bool.false)
 else
 ret (v4,v5,v6,Bool.true)
 else
 bif decide ((↑v0.length:Int)≠(0:Int)) then
 bif decide ((↑v0.length:Int)≠(0:Int)) then
 (xi0o (v4) (v5) ((2:Int)) (IntKind.i64.wrap (r3.tdiv (↑v0.length:Int))) (r3.tmod (↑v0.length:Int)) ((0:Int))).bind fun (r5:(List (Int × Int × Bool)) × (List (List Int × List Int × Bool)) × Bool) =>
 bif !r5.snd.snd then
 ret ([],[],(0:Int),Bool.false)
 else
 lp4 (v0) (v1) (v2) (v3) (r5.fst) (r5.snd.fst) (IntKind.i64.wrap (v6+(1:Int)))
 else
 none
 else
 none
 else
 (xi0n (v4) (v5)).bind fun (r6:Int × Bool) =>
 bif !r6.snd then
 ret ([],[],(0:Int),Bool.false)
 else
 ret (v4,v5,v6,Bool.true)
theorem xi0w.u:∀ b,xi0w.un (xi0w.mk b)=b:=fun _ => by kernel_rfl
theorem xi0w.eq (v0 v1) {b} (h:xi0w.t some xi0w.l4 v0 v1=some b):xi0w v0 v1=some b:=eqF xi0w.u Try.f17 (callT_le E tab) rfl rfl rfl (xi0w.t (rR xi0w.mk) xi0w.q4 v0 v1) (by kernel_rfl) (by unfold xi0w.t; repeat' first | exact sR | exact sN | exact sL | apply sC | (apply sB; intro _)) h
theorem xi0w.eq4 (v0 v1 v2 v3 v4 v5 v6) {b} (h:xi0w.t4 some xi0w.l4 v0 v1 v2 v3 v4 v5 v6=some b):xi0w.l4 v0 v1 v2 v3 v4 v5 v6=some b:=eqL xi0w.u (xi0w.t4 (rR xi0w.mk) xi0w.q4 v0 v1 v2 v3 v4 v5 v6) (by kernel_rfl) (by unfold xi0w.t4; repeat' first | exact sR | exact sN | exact sL | apply sC | (apply sB; intro _)) h
def xi12.s13 (v0:List (Int × Int × Bool)) (v1:List (List Int × List Int × Bool)) (v2:Int) (v3:Int) (v4:List (List Int × List Int × Bool)) (v5:Int) (v6:Int):List Cell:=nn 1 (⟨(.box false),[.d .fro Yb v0,.d .fro Ya v1],false,false,false,0,0⟩::nn 1 (vc (iL v2)::vc (iL v3)::nn 55 (vc (.d .fro Ya v4)::vc (iL v5)::vc (iL v6)::nn 40 ([]))))
def xi12.q13:=fun v0 v1 v2 v3 v4 v5 v6 => loopAtL E (callT E tab) 34 Try.f34 1 [.r,.r,.r,.r,.r,.l,.r,.b] (xi12.s13 v0 v1 v2 v3 v4 v5 v6)
def xi12.l13:=fun v0 v1 v2 v3 v4 v5 v6 => tOf xi12.mk (xi12.q13 v0 v1 v2 v3 v4 v5 v6)
def xi12.s6 (v0:List (Int × Int × Bool)) (v1:List (List Int × List Int × Bool)) (v2:Int) (v3:Int) (v4:List (Int × Int × Bool)) (v5:Int) (v6:Int):List Cell:=nn 1 (⟨(.box false),[.d .fro Yb v0,.d .fro Ya v1],false,false,false,0,0⟩::nn 1 (vc (iL v2)::vc (iL v3)::nn 20 (vc (.d .fro Yb v4)::vc (iL v5)::vc (iL v6)::nn 75 ([]))))
def xi12.q6:=fun v0 v1 v2 v3 v4 v5 v6 => loopAtL E (callT E tab) 34 Try.f34 1 [.r,.r,.r,.r,.l,.r,.b] (xi12.s6 v0 v1 v2 v3 v4 v5 v6)
def xi12.l6:=fun v0 v1 v2 v3 v4 v5 v6 => tOf xi12.mk (xi12.q6 v0 v1 v2 v3 v4 v5 v6)
def xi12.t {γ:Type} (ret:(Bool)→Option γ) (lp6:(List (Int × Int × Bool))→(List (List Int × List Int × Bool))→Int→Int→(List (Int × Int × Bool))→Int→Int→Option γ) (v0:List (Int × Int × Bool)) (v1:List (List Int × List Int × Bool)):Option γ :=
 (xi1e ((↑v0.length:Int)) ((2:Int)) ((4:Int))).bind fun (r0:Bool) =>
 bif !r0 then
 ret (Bool.false)
 else
 bif (↑v1.length:Int) != IntKind.i64.wrap ((↑v0.length:Int) * (↑v0.length:Int)) then
 ret (Bool.false)
 else
 lp6 (v0) (v1) ((↑v0.length:Int)) ((0:Int)) (v0) ((↑v0.length:Int)) ((0:Int))
def xi12.t13 {γ:Type} (ret:(Bool)→Option γ) (lp13:(List (Int × Int × Bool))→(List (List Int × List Int × Bool))→Int→Int→(List (List Int × List Int × Bool))→Int→Int→Option γ) (v0:List (Int × Int × Bool)) (v1:List (List Int × List Int × Bool)) (v2:Int) (v3:Int) (v4:List (List Int × List Int × Bool)) (v5:Int) (v6:Int):Option γ :=
 bif decide (v6<v5) then
 bif decide ((0:Int)≤v6) then
 bif decide (v6.toNat<v4.length) then
 bif decide (v2≠(0:Int)) then
 bif decide ((0:Int)≤v6.tmod v2) then
 bif decide ((v6.tmod v2).toNat<v0.length) then
 (xi0t ((v4.getD v6.toNat ([],[],Bool.false)).fst) ((v4.getD v6.toNat ([],[],Bool.false)).snd.fst) ((v4.getD v6.toNat ([],[],Bool.false)).snd.snd) ((v0.getD (v6.tmod v2).toNat ((0:Int),(0:Int),Bool.false)).fst) ((v0.getD (v6.tmod v2).toNat ((0:Int),(0:Int),Bool.false)).snd.fst) ((v0.getD (v6.tmod v2).toNat ((0:Int),(0:Int),Bool.false)).snd.snd)).bind fun (r3:Bool) =>
 bif !r3 then
 ret (Bool.false)
 else
 bif decide (v2≠(0:Int)) then
 bif decide (v2≠(0:Int)) then
 bif IntKind.i64.wrap (v6.tdiv v2) == v6.tmod v2 then
 (xi0s ((v4.getD v6.toNat ([],[],Bool.false)).fst) ((v4.getD v6.toNat ([],[],Bool.false)).snd.fst) ((v4.getD v6.toNat ([],[],Bool.false)).snd.snd)).bind fun (r4:Bool) =>
 bif !r4 then
 ret (Bool.false)
 else
 (xi1r ((v4.getD v6.toNat ([],[],Bool.false)).fst)).bind fun (r5:Int) =>
 (xi1r ((v4.getD v6.toNat ([],[],Bool.false)).snd.fst)).bind fun (r6:Int) =>
 lp13 (v0) (v1) (v2) (IntKind.i64.wrap (v3+IntKind.i64.wrap (r5+r6))) (v4) (v5) (IntKind.i64.wrap (v6+(1:Int)))
 else
 (xi1r ((v4.getD v6.toNat ([],[],Bool.false)).fst)).bind fun (r7:Int) =>
 (xi1r ((v4.getD v6.toNat ([],[],Bool.false)).snd.fst)).bind fun (r8:Int) =>
 lp13 (v0) (v1) (v2) (IntKind.i64.wrap (v3+IntKind.i64.wrap (r7+r8))) (v4) (v5) (IntKind.i64.wrap (v6+(1:Int)))
 else
 none
 else
 none
 else
 none
 else
 none
 else
 none
 else
 none
 else
 none
 else
 ret (decide (v3≤(2000000000:Int)))
def xi12.t6 {γ:Type} (ret:(Bool)→Option γ) (lp13:(List (Int × Int × Bool))→(List (List Int × List Int × Bool))→Int→Int→(List (List Int × List Int × Bool))→Int→Int→Option γ) (lp6:(List (Int × Int × Bool))→(List (List Int × List Int × Bool))→Int→Int→(List (Int × Int × Bool))→Int→Int→Option γ) (v0:List (Int × Int × Bool)) (v1:List (List Int × List Int × Bool)) (v2:Int) (v3:Int) (v4:List (Int × Int × Bool)) (v5:Int) (v6:Int):Option γ :=
 bif decide (v6<v5) then
 bif decide ((0:Int)≤v6) then
 bif decide (v6.toNat<v4.length) then
 (xi1e ((v4.getD v6.toNat ((0:Int),(0:Int),Bool.false)).fst) ((0:Int)) ((2000000000:Int))).bind fun (r1:Bool) =>
 bif !r1 then
 ret (Bool.false)
 else
 (xi1e ((v4.getD v6.toNat ((0:Int),(0:Int),Bool.false)).snd.fst) ((0:Int)) ((2000000000:Int))).bind fun (r2:Bool) =>
 bif !r2 then
 ret (Bool.false)
 else
 bif !(v4.getD v6.toNat ((0:Int),(0:Int),Bool.false)).snd.snd then
 bif (v4.getD v6.toNat ((0:Int),(0:Int),Bool.false)).snd.fst != (0:Int) then
 ret (Bool.false)
 else
 lp6 (v0) (v1) (v2) (IntKind.i64.wrap   (v3+    IntKind.i64.wrap       ((v4.getD v6.toNat ((0:Int),(0:Int),Bool.false)).fst+        (v4.getD v6.toNat ((0:Int),(0:Int),Bool.false)).snd.fst))) (v4) (v5) (IntKind.i64.wrap (v6+(1:Int)))
 else
 lp6 (v0) (v1) (v2) (IntKind.i64.wrap   (v3+    IntKind.i64.wrap       ((v4.getD v6.toNat ((0:Int),(0:Int),Bool.false)).fst+        (v4.getD v6.toNat ((0:Int),(0:Int),Bool.false)).snd.fst))) (v4) (v5) (IntKind.i64.wrap (v6+(1:Int)))
 else
 none
 else
 none
 else
 lp13 (v0) (v1) (v2) (v3) (v1) ((↑v1.length:Int)) ((0:Int))
theorem xi12.u:∀ b,xi12.un (xi12.mk b)=b:=fun _ => by kernel_rfl
theorem xi12.eq (v0 v1) {b} (h:xi12.t some xi12.l6 v0 v1=some b):xi12 v0 v1=some b:=eqF xi12.u Try.f34 (callT_le E tab) rfl rfl rfl (xi12.t (rR xi12.mk) xi12.q6 v0 v1) (by kernel_rfl) (by unfold xi12.t; repeat' first | exact sR | exact sN | exact sL | apply sC | (apply sB; intro _)) h
theorem xi12.eq13 (v0 v1 v2 v3 v4 v5 v6) {b} (h:xi12.t13 some xi12.l13 v0 v1 v2 v3 v4 v5 v6=some b):xi12.l13 v0 v1 v2 v3 v4 v5 v6=some b:=eqL xi12.u (xi12.t13 (rR xi12.mk) xi12.q13 v0 v1 v2 v3 v4 v5 v6) (by kernel_rfl) (by unfold xi12.t13; repeat' first | exact sR | exact sN | exact sL | apply sC | (apply sB; intro _)) h
theorem xi12.eq6 (v0 v1 v2 v3 v4 v5 v6) {b} (h:xi12.t6 some xi12.l13 xi12.l6 v0 v1 v2 v3 v4 v5 v6=some b):xi12.l6 v0 v1 v2 v3 v4 v5 v6=some b:=eqL xi12.u (xi12.t6 (rR xi12.mk) xi12.q13 xi12.q6 v0 v1 v2 v3 v4 v5 v6) (by kernel_rfl) (by unfold xi12.t6; repeat' first | exact sR | exact sN | exact sL | apply sC | (apply sB; intro _)) h
def xi1e.t {γ:Type} (ret:(Bool)→Option γ) (v0:Int) (v1:Int) (v2:Int):Option γ :=
 bif decide (v1≤v0) then
 ret (decide (v0≤v2))
 else
 ret (Bool.false)
theorem xi1e.u:∀ b,xi1e.un (xi1e.mk b)=b:=fun _ => by kernel_rfl
theorem xi1e.eq (v0 v1 v2) {b} (h:xi1e.t some v0 v1 v2=some b):xi1e v0 v1 v2=some b:=eqF xi1e.u Try.f68 (callT_le E tab) rfl rfl rfl (xi1e.t (rR xi1e.mk) v0 v1 v2) (by kernel_rfl) (by unfold xi1e.t; repeat' first | exact sR | exact sN | exact sL | apply sC | (apply sB; intro _)) h
def xi0t.t {γ:Type} (ret:(Bool)→Option γ) (v0:List Int) (v1:List Int) (v2:Bool) (v3:Int) (v4:Int) (v5:Bool):Option γ :=
 bif decide ((↑v0.length:Int)≤(12:Int)) then
 (xi09 (v0)).bind fun (r0:Bool) =>
 bif r0 then
 bif decide ((↑v1.length:Int)≤(200:Int)) then
 (xi0a (v1)).bind fun (r1:Bool) =>
 bif r1 then
 bif v5 then
 ret (Bool.true)
 else
 bif !v2 then
 ret ((↑v1.length:Int) == (0:Int))
 else
 ret (Bool.false)
 else
 ret (Bool.false)
 else
 ret (Bool.false)
 else
 ret (Bool.false)
 else
 ret (Bool.false)
theorem xi0t.u:∀ b,xi0t.un (xi0t.mk b)=b:=fun _ => by kernel_rfl
theorem xi0t.eq (v0 v1 v2 v3 v4 v5) {b} (h:xi0t.t some v0 v1 v2 v3 v4 v5=some b):xi0t v0 v1 v2 v3 v4 v5=some b:=eqF xi0t.u Try.f69 (callT_le E tab) rfl rfl rfl (xi0t.t (rR xi0t.mk) v0 v1 v2 v3 v4 v5) (by kernel_rfl) (by unfold xi0t.t; repeat' first | exact sR | exact sN | exact sL | apply sC | (apply sB; intro _)) h
def xi09.t {γ:Type} (ret:(Bool)→Option γ) (v0:List Int):Option γ :=
 (xs00 (v0)).bind fun (r0:Bool) =>
 ret (!r0)
theorem xi09.u:∀ b,xi09.un (xi09.mk b)=b:=fun _ => by kernel_rfl
theorem xi09.eq (v0) {b} (h:xi09.t some v0=some b):xi09 v0=some b:=eqF xi09.u Try.f90 (callT_le E tab) rfl rfl rfl (xi09.t (rR xi09.mk) v0) (by kernel_rfl) (by unfold xi09.t; repeat' first | exact sR | exact sN | exact sL | apply sC | (apply sB; intro _)) h
def xs00.t {γ:Type} (ret:(Bool)→Option γ) (v0:List Int):Option γ :=
 (xs02 (v0)).bind fun (r0:Int) =>
 ret (decide (r0 ≥ (0:Int)))
theorem xs00.u:∀ b,xs00.un (xs00.mk b)=b:=fun _ => by kernel_rfl
theorem xs00.eq (v0) {b} (h:xs00.t some v0=some b):xs00 v0=some b:=eqF xs00.u Try.f98 (callT_le E tab) rfl rfl rfl (xs00.t (rR xs00.mk) v0) (by kernel_rfl) (by unfold xs00.t; repeat' first | exact sR | exact sN | exact sL | apply sC | (apply sB; intro _)) h
def xs02.s2 (v0:List Int) (v1:Int) (v2:Int):List Cell:=vc (.d .fro (.sl (.int .i64)) v0)::vc (.fn 99 [.rp [.fn 91 []] 0])::nn 5 (vc (iL v1)::vc (iL v2)::nn 10 ([]))
def xs02.q2:=fun v0 v1 v2 => loopAtL E (callT E tab) 101 Try.f101 2 [.r,.l,.r,.b] (xs02.s2 v0 v1 v2)
def xs02.l2:=fun v0 v1 v2 => tOf xs02.mk (xs02.q2 v0 v1 v2)
def xs02.t {γ:Type} (ret:(Int)→Option γ) (lp2:(List Int)→Int→Int→Option γ) (v0:List Int):Option γ :=
 lp2 (v0) ((↑v0.length:Int)) ((0:Int))
def xs02.t2 {γ:Type} (ret:(Int)→Option γ) (lp2:(List Int)→Int→Int→Option γ) (v0:List Int) (v1:Int) (v2:Int):Option γ :=
 bif decide (v2<v1) then
 bif decide ((0:Int)≤v2) then
 bif decide (v2.toNat<v0.length) then
 (xi07 (v0.getD v2.toNat (0:Int))).bind fun (r0:Bool) =>
 bif r0 then
 ret (v2)
 else
 lp2 (v0) (v1) (IntKind.i64.wrap (v2+(1:Int)))
 else
 none
 else
 none
 else
 ret ((-1:Int))
theorem xs02.u:∀ b,xs02.un (xs02.mk b)=b:=fun _ => by kernel_rfl
theorem xs02.eq (v0) {b} (h:xs02.t some xs02.l2 v0=some b):xs02 v0=some b:=eqF xs02.u Try.f101 (callT_le E tab) rfl rfl rfl (xs02.t (rR xs02.mk) xs02.q2 v0) (by kernel_rfl) (by unfold xs02.t; repeat' first | exact sR | exact sN | exact sL | apply sC | (apply sB; intro _)) h
theorem xs02.eq2 (v0 v1 v2) {b} (h:xs02.t2 some xs02.l2 v0 v1 v2=some b):xs02.l2 v0 v1 v2=some b:=eqL xs02.u (xs02.t2 (rR xs02.mk) xs02.q2 v0 v1 v2) (by kernel_rfl) (by unfold xs02.t2; repeat' first | exact sR | exact sN | exact sL | apply sC | (apply sB; intro _)) h
def xi07.t {γ:Type} (ret:(Bool)→Option γ) (v0:Int):Option γ :=
 (xi0i (v0)).bind fun (r0:Bool) =>
 ret (!r0)
theorem xi07.u:∀ b,xi07.un (xi07.mk b)=b:=fun _ => by kernel_rfl
theorem xi07.eq (v0) {b} (h:xi07.t some v0=some b):xi07 v0=some b:=eqF xi07.u Try.f99 (callT_le E tab) rfl rfl rfl (xi07.t (rR xi07.mk) v0) (by kernel_rfl) (by unfold xi07.t; repeat' first | exact sR | exact sN | exact sL | apply sC | (apply sB; intro _)) h
def xi0i.t {γ:Type} (ret:(Bool)→Option γ) (v0:Int):Option γ :=
 bif v0 == (0:Int) then
 ret (Bool.true)
 else
 (xi0p (v0)).bind fun (r0:Bool) =>
 ret (r0)
theorem xi0i.u:∀ b,xi0i.un (xi0i.mk b)=b:=fun _ => by kernel_rfl
theorem xi0i.eq (v0) {b} (h:xi0i.t some v0=some b):xi0i v0=some b:=eqF xi0i.u Try.f91 (callT_le E tab) rfl rfl rfl (xi0i.t (rR xi0i.mk) v0) (by kernel_rfl) (by unfold xi0i.t; repeat' first | exact sR | exact sN | exact sL | apply sC | (apply sB; intro _)) h
def xi0p.t {γ:Type} (ret:(Bool)→Option γ) (v0:Int):Option γ :=
 (xi1e (v0) ((1:Int)) ((1000000:Int))).bind fun (r0:Bool) =>
 ret (r0)
theorem xi0p.u:∀ b,xi0p.un (xi0p.mk b)=b:=fun _ => by kernel_rfl
theorem xi0p.eq (v0) {b} (h:xi0p.t some v0=some b):xi0p v0=some b:=eqF xi0p.u Try.f92 (callT_le E tab) rfl rfl rfl (xi0p.t (rR xi0p.mk) v0) (by kernel_rfl) (by unfold xi0p.t; repeat' first | exact sR | exact sN | exact sL | apply sC | (apply sB; intro _)) h
def xi0a.t {γ:Type} (ret:(Bool)→Option γ) (v0:List Int):Option γ :=
 (xs01 (v0)).bind fun (r0:Bool) =>
 ret (!r0)
theorem xi0a.u:∀ b,xi0a.un (xi0a.mk b)=b:=fun _ => by kernel_rfl
theorem xi0a.eq (v0) {b} (h:xi0a.t some v0=some b):xi0a v0=some b:=eqF xi0a.u Try.f90 (callT_le E tab) rfl rfl rfl (xi0a.t (rR xi0a.mk) v0) (by kernel_rfl) (by unfold xi0a.t; repeat' first | exact sR | exact sN | exact sL | apply sC | (apply sB; intro _)) h
def xs01.t {γ:Type} (ret:(Bool)→Option γ) (v0:List Int):Option γ :=
 (xs03 (v0)).bind fun (r0:Int) =>
 ret (decide (r0 ≥ (0:Int)))
theorem xs01.u:∀ b,xs01.un (xs01.mk b)=b:=fun _ => by kernel_rfl
theorem xs01.eq (v0) {b} (h:xs01.t some v0=some b):xs01 v0=some b:=eqF xs01.u Try.f98 (callT_le E tab) rfl rfl rfl (xs01.t (rR xs01.mk) v0) (by kernel_rfl) (by unfold xs01.t; repeat' first | exact sR | exact sN | exact sL | apply sC | (apply sB; intro _)) h
def xs03.s2 (v0:List Int) (v1:Int) (v2:Int):List Cell:=vc (.d .fro (.sl (.int .i64)) v0)::vc (.fn 99 [.rp [.fn 92 []] 0])::nn 5 (vc (iL v1)::vc (iL v2)::nn 10 ([]))
def xs03.q2:=fun v0 v1 v2 => loopAtL E (callT E tab) 101 Try.f101 2 [.r,.l,.r,.b] (xs03.s2 v0 v1 v2)
def xs03.l2:=fun v0 v1 v2 => tOf xs03.mk (xs03.q2 v0 v1 v2)
def xs03.t {γ:Type} (ret:(Int)→Option γ) (lp2:(List Int)→Int→Int→Option γ) (v0:List Int):Option γ :=
 lp2 (v0) ((↑v0.length:Int)) ((0:Int))
def xs03.t2 {γ:Type} (ret:(Int)→Option γ) (lp2:(List Int)→Int→Int→Option γ) (v0:List Int) (v1:Int) (v2:Int):Option γ :=
 bif decide (v2<v1) then
 bif decide ((0:Int)≤v2) then
 bif decide (v2.toNat<v0.length) then
 (xi08 (v0.getD v2.toNat (0:Int))).bind fun (r0:Bool) =>
 bif r0 then
 ret (v2)
 else
 lp2 (v0) (v1) (IntKind.i64.wrap (v2+(1:Int)))
 else
 none
 else
 none
 else
 ret ((-1:Int))
theorem xs03.u:∀ b,xs03.un (xs03.mk b)=b:=fun _ => by kernel_rfl
theorem xs03.eq (v0) {b} (h:xs03.t some xs03.l2 v0=some b):xs03 v0=some b:=eqF xs03.u Try.f101 (callT_le E tab) rfl rfl rfl (xs03.t (rR xs03.mk) xs03.q2 v0) (by kernel_rfl) (by unfold xs03.t; repeat' first | exact sR | exact sN | exact sL | apply sC | (apply sB; intro _)) h
theorem xs03.eq2 (v0 v1 v2) {b} (h:xs03.t2 some xs03.l2 v0 v1 v2=some b):xs03.l2 v0 v1 v2=some b:=eqL xs03.u (xs03.t2 (rR xs03.mk) xs03.q2 v0 v1 v2) (by kernel_rfl) (by unfold xs03.t2; repeat' first | exact sR | exact sN | exact sL | apply sC | (apply sB; intro _)) h
def xi08.t {γ:Type} (ret:(Bool)→Option γ) (v0:Int):Option γ :=
 (xi0p (v0)).bind fun (r0:Bool) =>
 ret (!r0)
theorem xi08.u:∀ b,xi08.un (xi08.mk b)=b:=fun _ => by kernel_rfl
theorem xi08.eq (v0) {b} (h:xi08.t some v0=some b):xi08 v0=some b:=eqF xi08.u Try.f99 (callT_le E tab) rfl rfl rfl (xi08.t (rR xi08.mk) v0) (by kernel_rfl) (by unfold xi08.t; repeat' first | exact sR | exact sN | exact sL | apply sC | (apply sB; intro _)) h
def xi0s.t {γ:Type} (ret:(Bool)→Option γ) (v0:List Int) (v1:List Int) (v2:Bool):Option γ :=
 bif (↑v0.length:Int) == (0:Int) then
 bif (↑v1.length:Int) == (0:Int) then
 ret (!v2)
 else
 ret (Bool.false)
 else
 ret (Bool.false)
theorem xi0s.u:∀ b,xi0s.un (xi0s.mk b)=b:=fun _ => by kernel_rfl
theorem xi0s.eq (v0 v1 v2) {b} (h:xi0s.t some v0 v1 v2=some b):xi0s v0 v1 v2=some b:=eqF xi0s.u Try.f70 (callT_le E tab) rfl rfl rfl (xi0s.t (rR xi0s.mk) v0 v1 v2) (by kernel_rfl) (by unfold xi0s.t; repeat' first | exact sR | exact sN | exact sL | apply sC | (apply sB; intro _)) h
def xi1r.s3 (v0:Int) (v1:List Int) (v2:Int) (v3:Int):List Cell:=nn 3 (vc (iL v0)::nn 2 (vc (.d .fro (.sl (.int .i64)) v1)::vc (iL v2)::vc (iL v3)::nn 8 ([])))
def xi1r.q3:=fun v0 v1 v2 v3 => loopAtL E (callT E tab) 67 Try.f67 1 [.r,.r,.l,.r,.b] (xi1r.s3 v0 v1 v2 v3)
def xi1r.l3:=fun v0 v1 v2 v3 => tOf xi1r.mk (xi1r.q3 v0 v1 v2 v3)
def xi1r.t {γ:Type} (ret:(Int)→Option γ) (lp3:Int→(List Int)→Int→Int→Option γ) (v0:List Int):Option γ :=
 lp3 ((0:Int)) (v0) ((↑v0.length:Int)) ((0:Int))
def xi1r.t3 {γ:Type} (ret:(Int)→Option γ) (lp3:Int→(List Int)→Int→Int→Option γ) (v0:Int) (v1:List Int) (v2:Int) (v3:Int):Option γ :=
 bif decide (v3<v2) then
 bif decide ((0:Int)≤v3) then
 bif decide (v3.toNat<v1.length) then
 lp3 (IntKind.i64.wrap (v0+v1.getD v3.toNat (0:Int))) (v1) (v2) (IntKind.i64.wrap (v3+(1:Int)))
 else
 none
 else
 none
 else
 ret (v0)
theorem xi1r.u:∀ b,xi1r.un (xi1r.mk b)=b:=fun _ => by kernel_rfl
theorem xi1r.eq (v0) {b} (h:xi1r.t some xi1r.l3 v0=some b):xi1r v0=some b:=eqF xi1r.u Try.f67 (callT_le E tab) rfl rfl rfl (xi1r.t (rR xi1r.mk) xi1r.q3 v0) (by kernel_rfl) (by unfold xi1r.t; repeat' first | exact sR | exact sN | exact sL | apply sC | (apply sB; intro _)) h
theorem xi1r.eq3 (v0 v1 v2 v3) {b} (h:xi1r.t3 some xi1r.l3 v0 v1 v2 v3=some b):xi1r.l3 v0 v1 v2 v3=some b:=eqL xi1r.u (xi1r.t3 (rR xi1r.mk) xi1r.q3 v0 v1 v2 v3) (by kernel_rfl) (by unfold xi1r.t3; repeat' first | exact sR | exact sN | exact sL | apply sC | (apply sB; intro _)) h
def xs04.t {γ:Type} (ret:(Bool)→Option γ) (v0:List (Int × Int × Bool)):Option γ :=
 (xs05 (v0)).bind fun (r0:Int) =>
 ret (decide (r0 ≥ (0:Int)))
theorem xs04.u:∀ b,xs04.un (xs04.mk b)=b:=fun _ => by kernel_rfl
theorem xs04.eq (v0) {b} (h:xs04.t some v0=some b):xs04 v0=some b:=eqF xs04.u Try.f55 (callT_le E tab) rfl rfl rfl (xs04.t (rR xs04.mk) v0) (by kernel_rfl) (by unfold xs04.t; repeat' first | exact sR | exact sN | exact sL | apply sC | (apply sB; intro _)) h
def xs05.s2 (v0:List (Int × Int × Bool)) (v1:Int) (v2:Int):List Cell:=vc (.d .fro Yb v0)::vc (.fn 56 [])::nn 5 (vc (iL v1)::vc (iL v2)::nn 10 ([]))
def xs05.q2:=fun v0 v1 v2 => loopAtL E (callT E tab) 85 Try.f85 2 [.r,.l,.r,.b] (xs05.s2 v0 v1 v2)
def xs05.l2:=fun v0 v1 v2 => tOf xs05.mk (xs05.q2 v0 v1 v2)
def xs05.t {γ:Type} (ret:(Int)→Option γ) (lp2:(List (Int × Int × Bool))→Int→Int→Option γ) (v0:List (Int × Int × Bool)):Option γ :=
 lp2 (v0) ((↑v0.length:Int)) ((0:Int))
def xs05.t2 {γ:Type} (ret:(Int)→Option γ) (lp2:(List (Int × Int × Bool))→Int→Int→Option γ) (v0:List (Int × Int × Bool)) (v1:Int) (v2:Int):Option γ :=
 bif decide (v2<v1) then
 bif decide ((0:Int)≤v2) then
 bif decide (v2.toNat<v0.length) then
 (xi0l ((v0.getD v2.toNat ((0:Int),(0:Int),Bool.false)).fst) ((v0.getD v2.toNat ((0:Int),(0:Int),Bool.false)).snd.fst) ((v0.getD v2.toNat ((0:Int),(0:Int),Bool.false)).snd.snd)).bind fun (r0:Bool) =>
 bif r0 then
 ret (v2)
 else
 lp2 (v0) (v1) (IntKind.i64.wrap (v2+(1:Int)))
 else
 none
 else
 none
 else
 ret ((-1:Int))
theorem xs05.u:∀ b,xs05.un (xs05.mk b)=b:=fun _ => by kernel_rfl
theorem xs05.eq (v0) {b} (h:xs05.t some xs05.l2 v0=some b):xs05 v0=some b:=eqF xs05.u Try.f85 (callT_le E tab) rfl rfl rfl (xs05.t (rR xs05.mk) xs05.q2 v0) (by kernel_rfl) (by unfold xs05.t; repeat' first | exact sR | exact sN | exact sL | apply sC | (apply sB; intro _)) h
theorem xs05.eq2 (v0 v1 v2) {b} (h:xs05.t2 some xs05.l2 v0 v1 v2=some b):xs05.l2 v0 v1 v2=some b:=eqL xs05.u (xs05.t2 (rR xs05.mk) xs05.q2 v0 v1 v2) (by kernel_rfl) (by unfold xs05.t2; repeat' first | exact sR | exact sN | exact sL | apply sC | (apply sB; intro _)) h
def xi0l.t {γ:Type} (ret:(Bool)→Option γ) (v0:Int) (v1:Int) (v2:Bool):Option γ :=
 ret (v2)
theorem xi0l.u:∀ b,xi0l.un (xi0l.mk b)=b:=fun _ => by kernel_rfl
theorem xi0l.eq (v0 v1 v2) {b} (h:xi0l.t some v0 v1 v2=some b):xi0l v0 v1 v2=some b:=eqF xi0l.u Try.f56 (callT_le E tab) rfl rfl rfl (xi0l.t (rR xi0l.mk) v0 v1 v2) (by kernel_rfl) (by unfold xi0l.t; repeat' first | exact sR | exact sN | exact sL | apply sC | (apply sB; intro _)) h
end
end GoV

/- Equations of the program's functions (printed by wip/tools/emit.py). -/
namespace GoV
open Go Go.Proofs
set_option maxRecDepth 100000
noncomputable section

def xi13.s3 (v0:List (Int × Int × Bool)) (v1:List (List Int × List Int × Bool)) (v2:List (Int × Int × Bool)) (v3:List (List Int × List Int × Bool)) (v4:List (List Int × List Int × Bool)) (v5:Int) (v6:Int):List Cell:=nn 2 (⟨(.box false),[.d .deep Yb v0,.d .deep Ya v1],false,false,false,0,0⟩::⟨(.box false),[.d .deep Yb v2,.d .deep Ya v3],false,false,false,0,0⟩::nn 7 (vc (.d .fro Ya v4)::vc (iL v5)::vc (iL v6)::nn 19 ([])))
def xi13.q3:=fun v0 v1 v2 v3 v4 v5 v6 => loopAtL E (callT E tab) 57 Try.f57 1 [.r,.r,.l,.r,.b] (xi13.s3 v0 v1 v2 v3 v4 v5 v6)
def xi13.l3:=fun v0 v1 v2 v3 v4 v5 v6 => tOf xi13.mk (xi13.q3 v0 v1 v2 v3 v4 v5 v6)
def xi13.t {γ:Type} (ret:((List (Int × Int × Bool)) × (List (List Int × List Int × Bool)))→Option γ) (lp3:(List (Int × Int × Bool))→(List (List Int × List Int × Bool))→(List (Int × Int × Bool))→(List (List Int × List Int × Bool))→(List (List Int × List Int × Bool))→Int→Int→Option γ) (v0:List (Int × Int × Bool)) (v1:List (List Int × List Int × Bool)):Option γ :=
 (xs0b (v0)).bind fun (r0:(List (Int × Int × Bool))) =>
 lp3 ([]) ([]) (r0) ([]) (v1) ((↑v1.length:Int)) ((0:Int))
def xi13.t3 {γ:Type} (ret:((List (Int × Int × Bool)) × (List (List Int × List Int × Bool)))→Option γ) (lp3:(List (Int × Int × Bool))→(List (List Int × List Int × Bool))→(List (Int × Int × Bool))→(List (List Int × List Int × Bool))→(List (List Int × List Int × Bool))→Int→Int→Option γ) (v0:List (Int × Int × Bool)) (v1:List (List Int × List Int × Bool)) (v2:List (Int × Int × Bool)) (v3:List (List Int × List Int × Bool)) (v4:List (List Int × List Int × Bool)) (v5:Int) (v6:Int):Option γ :=
 bif decide (v6<v5) then
 bif decide ((0:Int)≤v6) then
 bif decide (v6.toNat<v4.length) then
 (xs0d ((v4.getD v6.toNat ([],[],Bool.false)).fst)).bind fun (r1:(List Int)) =>
 (xs0d ((v4.getD v6.toNat ([],[],Bool.false)).snd.fst)).bind fun (r2:(List Int)) =>
 bif decide (v3.length+[(r1,r2,(v4.getD v6.toNat ([],[],Bool.false)).snd.snd)].length≤(4294967296:Nat)) then
 lp3 (v0) (v1) (v2) (v3 ++ [(r1,r2,(v4.getD v6.toNat ([],[],Bool.false)).snd.snd)]) (v4) (v5) (IntKind.i64.wrap (v6+(1:Int)))
 else
 none
 else
 none
 else
 none
 else
 ret (v2,v3)
theorem xi13.u:∀ b,xi13.un (xi13.mk b)=b:=fun _ => by kernel_rfl
theorem xi13.eq (v0 v1) {b} (h:xi13.t some xi13.l3 v0 v1=some b):xi13 v0 v1=some b:=eqF xi13.u Try.f57 (callT_le E tab) rfl rfl rfl (xi13.t (rR xi13.mk) xi13.q3 v0 v1) (by kernel_rfl) (by unfold xi13.t; repeat' first | exact sR | exact sN | exact sL | apply sC | (apply sB; intro _)) h
theorem xi13.eq3 (v0 v1 v2 v3 v4 v5 v6) {b} (h:xi13.t3 some xi13.l3 v0 v1 v2 v3 v4 v5 v6=some b):xi13.l3 v0 v1 v2 v3 v4 v5 v6=some b:=eqL xi13.u (xi13.t3 (rR xi13.mk) xi13.q3 v0 v1 v2 v3 v4 v5 v6) (by kernel_rfl) (by unfold xi13.t3; repeat' first | exact sR | exact sN | exact sL | apply sC | (apply sB; intro _)) h
def xs0b.t {γ:Type} (ret:((List (Int × Int × Bool)))→Option γ) (v0:List (Int × Int × Bool)):Option γ :=
 bif decide (v0.length≤(4294967296:Nat)) then
 ret (v0)
 else
 none
theorem xs0b.k (v0:List (Int × Int × Bool)):extOf 86 (xs0b.c v0)=xs0b.t (fun b => some (xs0b.mk b)) v0:=by kernel_rfl
theorem xs0b.eq (v0:List (Int × Int × Bool)) {b:(List (Int × Int × Bool))} (h:xs0b.t some v0=some b):xs0b v0=some b:=tOf_intro xs0b.un (fun _ => by kernel_rfl) (vlim_ext (g:=extOf 86) rfl ((xs0b.k v0).trans ((by unfold xs0b.t; repeat' first | exact Sub.ret | exact Sub.none | exact Sub.loop | apply Sub.cond | (apply Sub.bind; intro _):Sub xs0b.mk _ _) b h)))
def xs0d.t {γ:Type} (ret:((List Int))→Option γ) (v0:List Int):Option γ :=
 bif decide (v0.length≤(4294967296:Nat)) then
 ret (v0)
 else
 none
theorem xs0d.k (v0:List Int):extOf 87 (xs0d.c v0)=xs0d.t (fun b => some (xs0d.mk b)) v0:=by kernel_rfl
theorem xs0d.eq (v0:List Int) {b:(List Int)} (h:xs0d.t some v0=some b):xs0d v0=some b:=tOf_intro xs0d.un (fun _ => by kernel_rfl) (vlim_ext (g:=extOf 87) rfl ((xs0d.k v0).trans ((by unfold xs0d.t; repeat' first | exact Sub.ret | exact Sub.none | exact Sub.loop | apply Sub.cond | (apply Sub.bind; intro _):Sub xs0d.mk _ _) b h)))
def xs06.s2 (v0:List (List Int × List Int × Bool)) (v1:Int) (v2:Int):List Cell:=vc (.d .fro Ya v0)::vc (.fn 59 [])::nn 5 (vc (iL v1)::vc (iL v2)::nn 10 ([]))
def xs06.q2:=fun v0 v1 v2 => loopAtL E (callT E tab) 58 Try.f58 2 [.r,.l,.r,.b] (xs06.s2 v0 v1 v2)
def xs06.l2:=fun v0 v1 v2 => tOf xs06.mk (xs06.q2 v0 v1 v2)
def xs06.t {γ:Type} (ret:(Int)→Option γ) (lp2:(List (List Int × List Int × Bool))→Int→Int→Option γ) (v0:List (List Int × List Int × Bool)):Option γ :=
 lp2 (v0) ((↑v0.length:Int)) ((0:Int))
def xs06.t2 {γ:Type} (ret:(Int)→Option γ) (lp2:(List (List Int × List Int × Bool))→Int→Int→Option γ) (v0:List (List Int × List Int × Bool)) (v1:Int) (v2:Int):Option γ :=
 bif decide (v2<v1) then
 bif decide ((0:Int)≤v2) then
 bif decide (v2.toNat<v0.length) then
 (xi0m ((v0.getD v2.toNat ([],[],Bool.false)).fst) ((v0.getD v2.toNat ([],[],Bool.false)).snd.fst) ((v0.getD v2.toNat ([],[],Bool.false)).snd.snd)).bind fun (r0:Bool) =>
 bif r0 then
 ret (v2)
 else
 lp2 (v0) (v1) (IntKind.i64.wrap (v2+(1:Int)))
 else
 none
 else
 none
 else
 ret ((-1:Int))
theorem xs06.u:∀ b,xs06.un (xs06.mk b)=b:=fun _ => by kernel_rfl
theorem xs06.eq (v0) {b} (h:xs06.t some xs06.l2 v0=some b):xs06 v0=some b:=eqF xs06.u Try.f58 (callT_le E tab) rfl rfl rfl (xs06.t (rR xs06.mk) xs06.q2 v0) (by kernel_rfl) (by unfold xs06.t; repeat' first | exact sR | exact sN | exact sL | apply sC | (apply sB; intro _)) h
theorem xs06.eq2 (v0 v1 v2) {b} (h:xs06.t2 some xs06.l2 v0 v1 v2=some b):xs06.l2 v0 v1 v2=some b:=eqL xs06.u (xs06.t2 (rR xs06.mk) xs06.q2 v0 v1 v2) (by kernel_rfl) (by unfold xs06.t2; repeat' first | exact sR | exact sN | exact sL | apply sC | (apply sB; intro _)) h
def xi0m.t {γ:Type} (ret:(Bool)→Option γ) (v0:List Int) (v1:List Int) (v2:Bool):Option γ :=
 ret (decide ((↑v0.length:Int) > (0:Int)))
theorem xi0m.u:∀ b,xi0m.un (xi0m.mk b)=b:=fun _ => by kernel_rfl
theorem xi0m.eq (v0 v1 v2) {b} (h:xi0m.t some v0 v1 v2=some b):xi0m v0 v1 v2=some b:=eqF xi0m.u Try.f59 (callT_le E tab) rfl rfl rfl (xi0m.t (rR xi0m.mk) v0 v1 v2) (by kernel_rfl) (by unfold xi0m.t; repeat' first | exact sR | exact sN | exact sL | apply sC | (apply sB; intro _)) h
def xi0n.s10 (v0:Int) (v1:List (List Int × List Int × Bool)) (v2:Int) (v3:Int):List Cell:=nn 4 (vc (iL v0)::nn 20 (vc (.d .fro Ya v1)::vc (iL v2)::vc (iL v3)::nn 12 ([])))
def xi0n.q10:=fun v0 v1 v2 v3 => loopAtL E (callT E tab) 60 Try.f60 1 [.r,.r,.r,.l,.r,.b] (xi0n.s10 v0 v1 v2 v3)
def xi0n.l10:=fun v0 v1 v2 v3 => tOf xi0n.mk (xi0n.q10 v0 v1 v2 v3)
def xi0n.s3 (v0:List (Int × Int × Bool)) (v1:List (List Int × List Int × Bool)) (v2:Int) (v3:List (Int × Int × Bool)) (v4:Int) (v5:Int):List Cell:=nn 1 (⟨(.box false),[.d .fro Yb v0,.d .fro Ya v1],false,false,false,0,0⟩::nn 2 (vc (iL v2)::nn 5 (vc (.d .fro Yb v3)::vc (iL v4)::vc (iL v5)::nn 27 ([]))))
def xi0n.q3:=fun v0 v1 v2 v3 v4 v5 => loopAtL E (callT E tab) 60 Try.f60 1 [.r,.r,.l,.r,.b] (xi0n.s3 v0 v1 v2 v3 v4 v5)
def xi0n.l3:=fun v0 v1 v2 v3 v4 v5 => tOf xi0n.mk (xi0n.q3 v0 v1 v2 v3 v4 v5)
def xi0n.t {γ:Type} (ret:(Int × Bool)→Option γ) (lp3:(List (Int × Int × Bool))→(List (List Int × List Int × Bool))→Int→(List (Int × Int × Bool))→Int→Int→Option γ) (v0:List (Int × Int × Bool)) (v1:List (List Int × List Int × Bool)):Option γ :=
 lp3 (v0) (v1) ((0:Int)) (v0) ((↑v0.length:Int)) ((0:Int))
def xi0n.t10 {γ:Type} (ret:(Int × Bool)→Option γ) (lp10:Int→(List (List Int × List Int × Bool))→Int→Int→Option γ) (v0:Int) (v1:List (List Int × List Int × Bool)) (v2:Int) (v3:Int):Option γ :=
 bif decide (v3<v2) then
 bif decide ((0:Int)≤v3) then
 bif decide (v3.toNat<v1.length) then
 bif (v1.getD v3.toNat ([],[],Bool.false)).snd.snd then
 ret ((0:Int),Bool.false)
 else
 (xi1r ((v1.getD v3.toNat ([],[],Bool.false)).snd.fst)).bind fun (r0:Int) =>
 lp10 (IntKind.i64.wrap (v0+r0)) (v1) (v2) (IntKind.i64.wrap (v3+(1:Int)))
 else
 none
 else
 none
 else
 ret (v0,Bool.true)
def xi0n.t3 {γ:Type} (ret:(Int × Bool)→Option γ) (lp10:Int→(List (List Int × List Int × Bool))→Int→Int→Option γ) (lp3:(List (Int × Int × Bool))→(List (List Int × List Int × Bool))→Int→(List (Int × Int × Bool))→Int→Int→Option γ) (v0:List (Int × Int × Bool)) (v1:List (List Int × List Int × Bool)) (v2:Int) (v3:List (Int × Int × Bool)) (v4:Int) (v5:Int):Option γ :=
 bif decide (v5<v4) then
 bif decide ((0:Int)≤v5) then
 bif decide (v5.toNat<v3.length) then
 bif !(v3.getD v5.toNat ((0:Int),(0:Int),Bool.false)).snd.snd then
 ret ((0:Int),Bool.false)
 else
 lp3 (v0) (v1) (IntKind.i64.wrap (v2+(v3.getD v5.toNat ((0:Int),(0:Int),Bool.false)).snd.fst)) (v3) (v4) (IntKind.i64.wrap (v5+(1:Int)))
 else
 none
 else
 none
 else
 lp10 (v2) (v1) ((↑v1.length:Int)) ((0:Int))
theorem xi0n.u:∀ b,xi0n.un (xi0n.mk b)=b:=fun _ => by kernel_rfl
theorem xi0n.eq (v0 v1) {b} (h:xi0n.t some xi0n.l3 v0 v1=some b):xi0n v0 v1=some b:=eqF xi0n.u Try.f60 (callT_le E tab) rfl rfl rfl (xi0n.t (rR xi0n.mk) xi0n.q3 v0 v1) (by kernel_rfl) (by unfold xi0n.t; repeat' first | exact sR | exact sN | exact sL | apply sC | (apply sB; intro _)) h
theorem xi0n.eq10 (v0 v1 v2 v3) {b} (h:xi0n.t10 some xi0n.l10 v0 v1 v2 v3=some b):xi0n.l10 v0 v1 v2 v3=some b:=eqL xi0n.u (xi0n.t10 (rR xi0n.mk) xi0n.q10 v0 v1 v2 v3) (by kernel_rfl) (by unfold xi0n.t10; repeat' first | exact sR | exact sN | exact sL | apply sC | (apply sB; intro _)) h
theorem xi0n.eq3 (v0 v1 v2 v3 v4 v5) {b} (h:xi0n.t3 some xi0n.l10 xi0n.l3 v0 v1 v2 v3 v4 v5=some b):xi0n.l3 v0 v1 v2 v3 v4 v5=some b:=eqL xi0n.u (xi0n.t3 (rR xi0n.mk) xi0n.q10 xi0n.q3 v0 v1 v2 v3 v4 v5) (by kernel_rfl) (by unfold xi0n.t3; repeat' first | exact sR | exact sN | exact sL | apply sC | (apply sB; intro _)) h
def xi0o.t {γ:Type} (ret:((List (Int × Int × Bool)) × (List (List Int × List Int × Bool)) × Bool)→Option γ) (v0:List (Int × Int × Bool)) (v1:List (List Int × List Int × Bool)) (v2:Int) (v3:Int) (v4:Int) (v5:Int):Option γ :=
 (xi13 (v0) (v1)).bind fun (r0:(List (Int × Int × Bool)) × (List (List Int × List Int × Bool))) =>
 (xi0g (r0.fst) (r0.snd) (v2) (v3) (v4) (v5)).bind fun (r1:Bool × (List (Int × Int × Bool)) × (List (List Int × List Int × Bool))) =>
 bif !r1.fst then
 ret ([],[],Bool.false)
 else
 (xi12 (r1.snd.fst) (r1.snd.snd)).bind fun (r2:Bool) =>
 bif !r2 then
 ret ([],[],Bool.false)
 else
 (xi13 (r1.snd.fst) (r1.snd.snd)).bind fun (r3:(List (Int × Int × Bool)) × (List (List Int × List Int × Bool))) =>
 ret (r3.fst,r3.snd,Bool.true)
theorem xi0o.u:∀ b,xi0o.un (xi0o.mk b)=b:=fun _ => by kernel_rfl
theorem xi0o.eq (v0 v1 v2 v3 v4 v5) {b} (h:xi0o.t some v0 v1 v2 v3 v4 v5=some b):xi0o v0 v1 v2 v3 v4 v5=some b:=eqF xi0o.u Try.f48 (callT_le E tab) rfl rfl rfl (xi0o.t (rR xi0o.mk) v0 v1 v2 v3 v4 v5) (by kernel_rfl) (by unfold xi0o.t; repeat' first | exact sR | exact sN | exact sL | apply sC | (apply sB; intro _)) h
def xi0g.t {γ:Type} (ret:(Bool × (List (Int × Int × Bool)) × (List (List Int × List Int × Bool)))→Option γ) (v0:List (Int × Int × Bool)) (v1:List (List Int × List Int × Bool)) (v2:Int) (v3:Int) (v4:Int) (v5:Int):Option γ :=
 (xi1e (v3) ((0:Int)) (IntKind.i64.wrap ((↑v0.length:Int) - (1:Int)))).bind fun (r0:Bool) =>
 bif !r0 then
 ret (Bool.false,v0,v1)
 else
 bif v2 == (3:Int) then
 bif decide ((0:Int)≤v3) then
 bif decide (v3.toNat<v0.length) then
 bif decide (v3.toNat<v0.length) then
 bif !(v0.getD v3.toNat ((0:Int),(0:Int),Bool.false)).snd.snd then
 (xi0e (v0) (v1) (v3) (v3)).bind fun (r1:Bool × (List (Int × Int × Bool)) × (List (List Int × List Int × Bool))) =>
 ret (r1.fst,r1.snd.fst,r1.snd.snd)
 else
 ret (Bool.false,v0,v1)
 else
 none
 else
 none
 else
 none
 else
 (xi1e (v4) ((0:Int)) (IntKind.i64.wrap ((↑v0.length:Int) - (1:Int)))).bind fun (r2:Bool) =>
 bif !r2 then
 ret (Bool.false,v0,v1)
 else
 bif v4 == v3 then
 ret (Bool.false,v0,v1)
 else
 bif v2 == (1:Int) then
 (xi0f (v0) (v1) (v2) (v3) (v4) (v5)).bind fun (r3:Bool × (List (Int × Int × Bool)) × (List (List Int × List Int × Bool))) =>
 ret (r3.fst,r3.snd.fst,r3.snd.snd)
 else
 bif v2 == (2:Int) then
 (xi0h (v0) (v1) (v3) (v4)).bind fun (r4:Bool × (List (Int × Int × Bool)) × (List (List Int × List Int × Bool))) =>
 ret (r4.fst,r4.snd.fst,r4.snd.snd)
 else
 ret (Bool.false,v0,v1)
theorem xi0g.u:∀ b,xi0g.un (xi0g.mk b)=b:=fun _ => by kernel_rfl
theorem xi0g.eq (v0 v1 v2 v3 v4 v5) {b} (h:xi0g.t some v0 v1 v2 v3 v4 v5=some b):xi0g v0 v1 v2 v3 v4 v5=some b:=eqF xi0g.u Try.f81 (callT_le E tab) rfl rfl rfl (xi0g.t (rR xi0g.mk) v0 v1 v2 v3 v4 v5) (by kernel_rfl) (by unfold xi0g.t; repeat' first | exact sR | exact sN | exact sL | apply sC | (apply sB; intro _)) h
def xi0e.s4 (v0:List (Int × Int × Bool)) (v1:List (List Int × List Int × Bool)) (v2:Int) (v3:Int) (v4:Int) (v5:Int):List Cell:=⟨(.val .agg),[.d .deep Yb v0,.d .deep Ya v1],true,false,false,0,0⟩::vc (iL v2)::vc (iL v3)::⟨(.box false),[.lent ⟨0,0,none⟩ none,.lent ⟨0,1,none⟩ none],false,false,false,0,0⟩::nn 22 (vc (iL v4)::vc (iL v5)::nn 34 ([]))
def xi0e.q4:=fun v0 v1 v2 v3 v4 v5 => loopAtL E (callT E tab) 95 Try.f95 3 [.r,.r,.r,.l,.r,.b] (xi0e.s4 v0 v1 v2 v3 v4 v5)
def xi0e.l4:=fun v0 v1 v2 v3 v4 v5 => tOf xi0e.mk (xi0e.q4 v0 v1 v2 v3 v4 v5)
def xi0e.t {γ:Type} (ret:(Bool × (List (Int × Int × Bool)) × (List (List Int × List Int × Bool)))→Option γ) (lp4:(List (Int × Int × Bool))→(List (List Int × List Int × Bool))→Int→Int→Int→Int→Option γ) (v0:List (Int × Int × Bool)) (v1:List (List Int × List Int × Bool)) (v2:Int) (v3:Int):Option γ :=
 bif decide ((0:Int)≤v2) then
 bif decide (v2.toNat<v0.length) then
 bif decide (v2.toNat<v0.length) then
 bif decide (v2.toNat<v0.length) then
 bif decide   (v2.toNat<    (v0.set v2.toNat         ((v0.getD v2.toNat ((0:Int),(0:Int),Bool.false)).fst,          (v0.getD v2.toNat ((0:Int),(0:Int),Bool.false)).fst,          (v0.getD v2.toNat ((0:Int),(0:Int),Bool.false)).snd.snd)).length) then
 lp4 ((v0.set v2.toNat       ((v0.getD v2.toNat ((0:Int),(0:Int),Bool.false)).fst,        (v0.getD v2.toNat ((0:Int),(0:Int),Bool.false)).fst,        (v0.getD v2.toNat ((0:Int),(0:Int),Bool.false)).snd.snd)).set   v2.toNat   (((v0.set v2.toNat             ((v0.getD v2.toNat ((0:Int),(0:Int),Bool.false)).fst,              (v0.getD v2.toNat ((0:Int),(0:Int),Bool.false)).fst,              (v0.getD v2.toNat ((0:Int),(0:Int),Bool.false)).snd.snd)).getD         v2.toNat ((0:Int),(0:Int),Bool.false)).fst,    ((v0.set v2.toNat               ((v0.getD v2.toNat ((0:Int),(0:Int),Bool.false)).fst,                (v0.getD v2.toNat ((0:Int),(0:Int),Bool.false)).fst,                (v0.getD v2.toNat ((0:Int),(0:Int),Bool.false)).snd.snd)).getD           v2.toNat ((0:Int),(0:Int),Bool.false)).snd.fst,    Bool.true)) (v1) (v2) (v3) ((↑((v0.set v2.toNat             ((v0.getD v2.toNat ((0:Int),(0:Int),Bool.false)).fst,              (v0.getD v2.toNat ((0:Int),(0:Int),Bool.false)).fst,              (v0.getD v2.toNat ((0:Int),(0:Int),Bool.false)).snd.snd)).set         v2.toNat         (((v0.set v2.toNat                   ((v0.getD v2.toNat ((0:Int),(0:Int),Bool.false)).fst,                    (v0.getD v2.toNat ((0:Int),(0:Int),Bool.false)).fst,                    (v0.getD v2.toNat ((0:Int),(0:Int),Bool.false)).snd.snd)).getD               v2.toNat ((0:Int),(0:Int),Bool.false)).fst,          ((v0.set v2.toNat                     ((v0.getD v2.toNat ((0:Int),(0:Int),Bool.false)).fst,                      (v0.getD v2.toNat ((0:Int),(0:Int),Bool.false)).fst,                      (v0.getD v2.toNat ((0:Int),(0:Int),Bool.false)).snd.snd)).getD                 v2.toNat ((0:Int),(0:Int),Bool.false)).snd.fst,          Bool.true)).length:  Int)) ((0:Int))
 else
 none
 else
 none
 else
 none
 else
 none
 else
 none
def xi0e.t4 {γ:Type} (ret:(Bool × (List (Int × Int × Bool)) × (List (List Int × List Int × Bool)))→Option γ) (lp4:(List (Int × Int × Bool))→(List (List Int × List Int × Bool))→Int→Int→Int→Int→Option γ) (v0:List (Int × Int × Bool)) (v1:List (List Int × List Int × Bool)) (v2:Int) (v3:Int) (v4:Int) (v5:Int):Option γ :=
 bif decide (v5<v4) then
 bif v5 == v2 then
 lp4 (v0) (v1) (v2) (v3) (v4) (IntKind.i64.wrap (v5+(1:Int)))
 else
 bif decide ((0:Int)≤IntKind.i64.wrap (IntKind.i64.wrap (v5 * (↑v0.length:Int))+v2)) then
 bif decide ((IntKind.i64.wrap (IntKind.i64.wrap (v5 * (↑v0.length:Int))+v2)).toNat<v1.length) then
 bif decide ((IntKind.i64.wrap (IntKind.i64.wrap (v5 * (↑v0.length:Int))+v2)).toNat<v1.length) then
 bif decide ((0:Int)≤IntKind.i64.wrap (IntKind.i64.wrap (v2 * (↑v0.length:Int))+v5)) then
 bif decide   ((IntKind.i64.wrap (IntKind.i64.wrap (v2 * (↑v0.length:Int))+v5)).toNat<    (v1.set (IntKind.i64.wrap (IntKind.i64.wrap (v5 * (↑v0.length:Int))+v2)).toNat         ((v1.getD (IntKind.i64.wrap (IntKind.i64.wrap (v5 * (↑v0.length:Int))+v2)).toNat               ([],[],Bool.false)).fst,          (v1.getD (IntKind.i64.wrap (IntKind.i64.wrap (v5 * (↑v0.length:Int))+v2)).toNat                 ([],[],Bool.false)).snd.fst,          v5 != v3)).length) then
 bif decide   ((IntKind.i64.wrap (IntKind.i64.wrap (v2 * (↑v0.length:Int))+v5)).toNat<    (v1.set (IntKind.i64.wrap (IntKind.i64.wrap (v5 * (↑v0.length:Int))+v2)).toNat         ((v1.getD (IntKind.i64.wrap (IntKind.i64.wrap (v5 * (↑v0.length:Int))+v2)).toNat               ([],[],Bool.false)).fst,          (v1.getD (IntKind.i64.wrap (IntKind.i64.wrap (v5 * (↑v0.length:Int))+v2)).toNat                 ([],[],Bool.false)).snd.fst,          v5 != v3)).length) then
 bif decide   ((IntKind.i64.wrap (IntKind.i64.wrap (v2 * (↑v0.length:Int))+v5)).toNat<    (v1.set (IntKind.i64.wrap (IntKind.i64.wrap (v5 * (↑v0.length:Int))+v2)).toNat         ((v1.getD (IntKind.i64.wrap (IntKind.i64.wrap (v5 * (↑v0.length:Int))+v2)).toNat               ([],[],Bool.false)).fst,          (v1.getD (IntKind.i64.wrap (IntKind.i64.wrap (v5 * (↑v0.length:Int))+v2)).toNat                 ([],[],Bool.false)).snd.fst,          v5 != v3)).length) then
 bif (↑((v1.set (IntKind.i64.wrap (IntKind.i64.wrap (v5 * (↑v0.length:Int))+v2)).toNat                 ((v1.getD (IntKind.i64.wrap (IntKind.i64.wrap (v5 * (↑v0.length:Int))+v2)).toNat                       ([],[],Bool.false)).fst,                  (v1.getD (IntKind.i64.wrap (IntKind.i64.wrap (v5 * (↑v0.length:Int))+v2)).toNat                         ([],[],Bool.false)).snd.fst,                  v5 != v3)).getD             (IntKind.i64.wrap (IntKind.i64.wrap (v2 * (↑v0.length:Int))+v5)).toNat             ([],[],Bool.false)).fst.length:    Int) ==   (12:Int) then
 ret (Bool.false,v0,v1.set (IntKind.i64.wrap (IntKind.i64.wrap (v5 * (↑v0.length:Int))+v2)).toNat   ((v1.getD (IntKind.i64.wrap (IntKind.i64.wrap (v5 * (↑v0.length:Int))+v2)).toNat ([],[],Bool.false)).fst,    (v1.getD (IntKind.i64.wrap (IntKind.i64.wrap (v5 * (↑v0.length:Int))+v2)).toNat           ([],[],Bool.false)).snd.fst,    v5 != v3))
 else
 bif decide   ((IntKind.i64.wrap (IntKind.i64.wrap (v2 * (↑v0.length:Int))+v5)).toNat<    (v1.set (IntKind.i64.wrap (IntKind.i64.wrap (v5 * (↑v0.length:Int))+v2)).toNat         ((v1.getD (IntKind.i64.wrap (IntKind.i64.wrap (v5 * (↑v0.length:Int))+v2)).toNat               ([],[],Bool.false)).fst,          (v1.getD (IntKind.i64.wrap (IntKind.i64.wrap (v5 * (↑v0.length:Int))+v2)).toNat                 ([],[],Bool.false)).snd.fst,          v5 != v3)).length) then
 bif decide   ((IntKind.i64.wrap (IntKind.i64.wrap (v2 * (↑v0.length:Int))+v5)).toNat<    (v1.set (IntKind.i64.wrap (IntKind.i64.wrap (v5 * (↑v0.length:Int))+v2)).toNat         ((v1.getD (IntKind.i64.wrap (IntKind.i64.wrap (v5 * (↑v0.length:Int))+v2)).toNat               ([],[],Bool.false)).fst,          (v1.getD (IntKind.i64.wrap (IntKind.i64.wrap (v5 * (↑v0.length:Int))+v2)).toNat                 ([],[],Bool.false)).snd.fst,          v5 != v3)).length) then
 bif decide   (((v1.set (IntKind.i64.wrap (IntKind.i64.wrap (v5 * (↑v0.length:Int))+v2)).toNat                 ((v1.getD (IntKind.i64.wrap (IntKind.i64.wrap (v5 * (↑v0.length:Int))+v2)).toNat                       ([],[],Bool.false)).fst,                  (v1.getD (IntKind.i64.wrap (IntKind.i64.wrap (v5 * (↑v0.length:Int))+v2)).toNat                         ([],[],Bool.false)).snd.fst,                  v5 != v3)).getD             (IntKind.i64.wrap (IntKind.i64.wrap (v2 * (↑v0.length:Int))+v5)).toNat             ([],[],Bool.false)).fst.length+      [(0:Int)].length≤    (4294967296:Nat)) then
 bif decide   ((IntKind.i64.wrap (IntKind.i64.wrap (v2 * (↑v0.length:Int))+v5)).toNat=    (IntKind.i64.wrap (IntKind.i64.wrap (v2 * (↑v0.length:Int))+v5)).toNat) then
 bif decide   ((IntKind.i64.wrap (IntKind.i64.wrap (v2 * (↑v0.length:Int))+v5)).toNat<    (v1.set (IntKind.i64.wrap (IntKind.i64.wrap (v5 * (↑v0.length:Int))+v2)).toNat         ((v1.getD (IntKind.i64.wrap (IntKind.i64.wrap (v5 * (↑v0.length:Int))+v2)).toNat               ([],[],Bool.false)).fst,          (v1.getD (IntKind.i64.wrap (IntKind.i64.wrap (v5 * (↑v0.length:Int))+v2)).toNat                 ([],[],Bool.false)).snd.fst,          v5 != v3)).length) then
 lp4 (v0) ((v1.set (IntKind.i64.wrap (IntKind.i64.wrap (v5 * (↑v0.length:Int))+v2)).toNat       ((v1.getD (IntKind.i64.wrap (IntKind.i64.wrap (v5 * (↑v0.length:Int))+v2)).toNat             ([],[],Bool.false)).fst,        (v1.getD (IntKind.i64.wrap (IntKind.i64.wrap (v5 * (↑v0.length:Int))+v2)).toNat               ([],[],Bool.false)).snd.fst,        v5 != v3)).set   (IntKind.i64.wrap (IntKind.i64.wrap (v2 * (↑v0.length:Int))+v5)).toNat   (((v1.set (IntKind.i64.wrap (IntKind.i64.wrap (v5 * (↑v0.length:Int))+v2)).toNat               ((v1.getD (IntKind.i64.wrap (IntKind.i64.wrap (v5 * (↑v0.length:Int))+v2)).toNat                     ([],[],Bool.false)).fst,                (v1.getD (IntKind.i64.wrap (IntKind.i64.wrap (v5 * (↑v0.length:Int))+v2)).toNat                       ([],[],Bool.false)).snd.fst,                v5 != v3)).getD           (IntKind.i64.wrap (IntKind.i64.wrap (v2 * (↑v0.length:Int))+v5)).toNat ([],[],Bool.false)).fst ++       [(0:Int)],    ((v1.set (IntKind.i64.wrap (IntKind.i64.wrap (v5 * (↑v0.length:Int))+v2)).toNat             ((v1.getD (IntKind.i64.wrap (IntKind.i64.wrap (v5 * (↑v0.length:Int))+v2)).toNat                   ([],[],Bool.false)).fst,              (v1.getD (IntKind.i64.wrap (IntKind.i64.wrap (v5 * (↑v0.length:Int))+v2)).toNat                     ([],[],Bool.false)).snd.fst,              v5 != v3)).getD         (IntKind.i64.wrap (IntKind.i64.wrap (v2 * (↑v0.length:Int))+v5)).toNat ([],[],Bool.false)).snd)) (v2) (v3) (v4) (IntKind.i64.wrap (v5+(1:Int)))
 else
 none
 else
 none
 else
 none
 else
 none
 else
 none
 else
 none
 else
 none
 else
 none
 else
 none
 else
 none
 else
 none
 else
 none
 else
 ret (Bool.true,v0,v1)
theorem xi0e.u:∀ b,xi0e.un (xi0e.mk b)=b:=fun _ => by kernel_rfl
theorem xi0e.eq (v0 v1 v2 v3) {b} (h:xi0e.t some xi0e.l4 v0 v1 v2 v3=some b):xi0e v0 v1 v2 v3=some b:=eqF xi0e.u Try.f95 (callT_le E tab) rfl rfl rfl (xi0e.t (rR xi0e.mk) xi0e.q4 v0 v1 v2 v3) (by kernel_rfl) (by unfold xi0e.t; repeat' first | exact sR | exact sN | exact sL | apply sC | (apply sB; intro _)) h
theorem xi0e.eq4 (v0 v1 v2 v3 v4 v5) {b} (h:xi0e.t4 some xi0e.l4 v0 v1 v2 v3 v4 v5=some b):xi0e.l4 v0 v1 v2 v3 v4 v5=some b:=eqL xi0e.u (xi0e.t4 (rR xi0e.mk) xi0e.q4 v0 v1 v2 v3 v4 v5) (by kernel_rfl) (by unfold xi0e.t4; repeat' first | exact sR | exact sN | exact sL | apply sC | (apply sB; intro _)) h
def xi0f.t {γ:Type} (ret:(Bool × (List (Int × Int × Bool)) × (List (List Int × List Int × Bool)))→Option γ) (v0:List (Int × Int × Bool)) (v1:List (List Int × List Int × Bool)) (v2:Int) (v3:Int) (v4:Int) (v5:Int):Option γ :=
 bif decide ((0:Int)≤IntKind.i64.wrap (IntKind.i64.wrap (v3 * (↑v0.length:Int))+v4)) then
 bif decide ((IntKind.i64.wrap (IntKind.i64.wrap (v3 * (↑v0.length:Int))+v4)).toNat<v1.length) then
 bif decide ((0:Int)≤v3) then
 bif decide (v3.toNat<v0.length) then
 bif decide (v3.toNat<v0.length) then
 (xi1e (v5) ((1:Int)) (if Bool.true=Bool.true then   if (1000000:Int)<(v0.getD v3.toNat ((0:Int),(0:Int),Bool.false)).fst then (1000000:Int)   else (v0.getD v3.toNat ((0:Int),(0:Int),Bool.false)).fst else   if (1000000:Int) > (v0.getD v3.toNat ((0:Int),(0:Int),Bool.false)).fst then (1000000:Int)   else (v0.getD v3.toNat ((0:Int),(0:Int),Bool.false)).fst)).bind fun (r0:Bool) =>
 bif !r0 then
 ret (Bool.false,v0,v1)
 else
 bif decide ((IntKind.i64.wrap (IntKind.i64.wrap (v3 * (↑v0.length:Int))+v4)).toNat<v1.length) then
 bif decide ((IntKind.i64.wrap (IntKind.i64.wrap (v3 * (↑v0.length:Int))+v4)).toNat<v1.length) then
 bif (↑(v1.getD (IntKind.i64.wrap (IntKind.i64.wrap (v3 * (↑v0.length:Int))+v4)).toNat             ([],[],Bool.false)).fst.length:    Int) ==   (12:Int) then
 ret (Bool.false,v0,v1)
 else
 bif decide ((0:Int)≤v3) then
 bif decide (v3.toNat<v0.length) then
 bif decide (v3.toNat<v0.length) then
 bif decide ((0:Int)≤v3) then
 bif decide (v3.toNat<v0.length) then
 bif decide (v3.toNat<v0.length) then
 bif decide ((IntKind.i64.wrap (IntKind.i64.wrap (v3 * (↑v0.length:Int))+v4)).toNat<v1.length) then
 bif decide ((IntKind.i64.wrap (IntKind.i64.wrap (v3 * (↑v0.length:Int))+v4)).toNat<v1.length) then
 bif decide   ((v1.getD (IntKind.i64.wrap (IntKind.i64.wrap (v3 * (↑v0.length:Int))+v4)).toNat             ([],[],Bool.false)).fst.length+      [v5].length≤    (4294967296:Nat)) then
 bif decide   ((IntKind.i64.wrap (IntKind.i64.wrap (v3 * (↑v0.length:Int))+v4)).toNat=    (IntKind.i64.wrap (IntKind.i64.wrap (v3 * (↑v0.length:Int))+v4)).toNat) then
 bif decide ((IntKind.i64.wrap (IntKind.i64.wrap (v3 * (↑v0.length:Int))+v4)).toNat<v1.length) then
 ret (Bool.true,v0.set v3.toNat   (IntKind.i64.wrap ((v0.getD v3.toNat ((0:Int),(0:Int),Bool.false)).fst - v5),    (v0.getD v3.toNat ((0:Int),(0:Int),Bool.false)).snd),v1.set (IntKind.i64.wrap (IntKind.i64.wrap (v3 * (↑v0.length:Int))+v4)).toNat   ((v1.getD (IntKind.i64.wrap (IntKind.i64.wrap (v3 * (↑v0.length:Int))+v4)).toNat           ([],[],Bool.false)).fst ++       [v5],    (v1.getD (IntKind.i64.wrap (IntKind.i64.wrap (v3 * (↑v0.length:Int))+v4)).toNat ([],[],Bool.false)).snd))
 else
 none
 else
 none
 else
 none
 else
 none
 else
 none
 else
 none
 else
 none
 else
 none
 else
 none
 else
 none
 else
 none
 else
 none
 else
 none
 else
 none
 else
 none
 else
 none
 else
 none
 else
 none
theorem xi0f.u:∀ b,xi0f.un (xi0f.mk b)=b:=fun _ => by kernel_rfl
theorem xi0f.eq (v0 v1 v2 v3 v4 v5) {b} (h:xi0f.t some v0 v1 v2 v3 v4 v5=some b):xi0f v0 v1 v2 v3 v4 v5=some b:=eqF xi0f.u Try.f96 (callT_le E tab) rfl rfl rfl (xi0f.t (rR xi0f.mk) v0 v1 v2 v3 v4 v5) (by kernel_rfl) (by unfold xi0f.t; repeat' first | exact sR | exact sN | exact sL | apply sC | (apply sB; intro _)) h
def xi0h.t {γ:Type} (ret:(Bool × (List (Int × Int × Bool)) × (List (List Int × List Int × Bool)))→Option γ) (v0:List (Int × Int × Bool)) (v1:List (List Int × List Int × Bool)) (v2:Int) (v3:Int):Option γ :=
 bif decide ((0:Int)≤IntKind.i64.wrap (IntKind.i64.wrap (v2 * (↑v0.length:Int))+v3)) then
 bif decide ((IntKind.i64.wrap (IntKind.i64.wrap (v2 * (↑v0.length:Int))+v3)).toNat<v1.length) then
 bif decide ((IntKind.i64.wrap (IntKind.i64.wrap (v2 * (↑v0.length:Int))+v3)).toNat<v1.length) then
 bif decide ((IntKind.i64.wrap (IntKind.i64.wrap (v2 * (↑v0.length:Int))+v3)).toNat<v1.length) then
 bif (↑(v1.getD (IntKind.i64.wrap (IntKind.i64.wrap (v2 * (↑v0.length:Int))+v3)).toNat             ([],[],Bool.false)).fst.length:    Int) ==   (0:Int) then
 ret (Bool.false,v0,v1)
 else
 bif decide ((IntKind.i64.wrap (IntKind.i64.wrap (v2 * (↑v0.length:Int))+v3)).toNat<v1.length) then
 bif decide ((IntKind.i64.wrap (IntKind.i64.wrap (v2 * (↑v0.length:Int))+v3)).toNat<v1.length) then
 bif decide   ((↑(v1.getD (IntKind.i64.wrap (IntKind.i64.wrap (v2 * (↑v0.length:Int))+v3)).toNat                 ([],[],Bool.false)).snd.fst.length:      Int) ≥     (200:Int)) then
 ret (Bool.false,v0,v1)
 else
 bif decide ((IntKind.i64.wrap (IntKind.i64.wrap (v2 * (↑v0.length:Int))+v3)).toNat<v1.length) then
 bif decide ((IntKind.i64.wrap (IntKind.i64.wrap (v2 * (↑v0.length:Int))+v3)).toNat<v1.length) then
 bif decide   (Int.toNat (0:Int)<    (v1.getD (IntKind.i64.wrap (IntKind.i64.wrap (v2 * (↑v0.length:Int))+v3)).toNat           ([],[],Bool.false)).fst.length) then
 bif decide ((IntKind.i64.wrap (IntKind.i64.wrap (v2 * (↑v0.length:Int))+v3)).toNat<v1.length) then
 bif decide   (Int.toNat (0:Int)<    (v1.getD (IntKind.i64.wrap (IntKind.i64.wrap (v2 * (↑v0.length:Int))+v3)).toNat           ([],[],Bool.false)).fst.length) then
 bif decide ((IntKind.i64.wrap (IntKind.i64.wrap (v2 * (↑v0.length:Int))+v3)).toNat<v1.length) then
 bif decide ((IntKind.i64.wrap (IntKind.i64.wrap (v2 * (↑v0.length:Int))+v3)).toNat<v1.length) then
 bif decide ((IntKind.i64.wrap (IntKind.i64.wrap (v2 * (↑v0.length:Int))+v3)).toNat<v1.length) then
 bif decide   ((Option.some (1:Int)).getD (0:Int)≤    (↑(v1.getD (IntKind.i64.wrap (IntKind.i64.wrap (v2 * (↑v0.length:Int))+v3)).toNat               ([],[],Bool.false)).fst.length:      Int)) then
 bif decide ((IntKind.i64.wrap (IntKind.i64.wrap (v2 * (↑v0.length:Int))+v3)).toNat<v1.length) then
 bif decide   ((IntKind.i64.wrap (IntKind.i64.wrap (v2 * (↑v0.length:Int))+v3)).toNat=    (IntKind.i64.wrap (IntKind.i64.wrap (v2 * (↑v0.length:Int))+v3)).toNat) then
 bif decide ((IntKind.i64.wrap (IntKind.i64.wrap (v2 * (↑v0.length:Int))+v3)).toNat<v1.length) then
 bif (v1.getD (IntKind.i64.wrap (IntKind.i64.wrap (v2 * (↑v0.length:Int))+v3)).toNat ([],[],Bool.false)).fst.getD     (Int.toNat (0:Int)) (0:Int) !=   (0:Int) then
 bif decide ((0:Int)≤v3) then
 bif decide (v3.toNat<v0.length) then
 bif decide (v3.toNat<v0.length) then
 bif decide ((0:Int)≤v3) then
 bif decide (v3.toNat<v0.length) then
 bif decide (v3.toNat<v0.length) then
 bif decide   ((IntKind.i64.wrap (IntKind.i64.wrap (v2 * (↑v0.length:Int))+v3)).toNat<    (v1.set (IntKind.i64.wrap (IntKind.i64.wrap (v2 * (↑v0.length:Int))+v3)).toNat         (List.drop ((Option.some (1:Int)).getD (0:Int)).toNat             (v1.getD (IntKind.i64.wrap (IntKind.i64.wrap (v2 * (↑v0.length:Int))+v3)).toNat                 ([],[],Bool.false)).fst,          (v1.getD (IntKind.i64.wrap (IntKind.i64.wrap (v2 * (↑v0.length:Int))+v3)).toNat               ([],[],Bool.false)).snd)).length) then
 bif ((v1.set (IntKind.i64.wrap (IntKind.i64.wrap (v2 * (↑v0.length:Int))+v3)).toNat           (List.drop ((Option.some (1:Int)).getD (0:Int)).toNat               (v1.getD (IntKind.i64.wrap (IntKind.i64.wrap (v2 * (↑v0.length:Int))+v3)).toNat                   ([],[],Bool.false)).fst,            (v1.getD (IntKind.i64.wrap (IntKind.i64.wrap (v2 * (↑v0.length:Int))+v3)).toNat                 ([],[],Bool.false)).snd)).getD       (IntKind.i64.wrap (IntKind.i64.wrap (v2 * (↑v0.length:Int))+v3)).toNat ([],[],Bool.false)).snd.snd then
 bif decide   ((IntKind.i64.wrap (IntKind.i64.wrap (v2 * (↑v0.length:Int))+v3)).toNat<    (v1.set (IntKind.i64.wrap (IntKind.i64.wrap (v2 * (↑v0.length:Int))+v3)).toNat         (List.drop ((Option.some (1:Int)).getD (0:Int)).toNat             (v1.getD (IntKind.i64.wrap (IntKind.i64.wrap (v2 * (↑v0.length:Int))+v3)).toNat                 ([],[],Bool.false)).fst,          (v1.getD (IntKind.i64.wrap (IntKind.i64.wrap (v2 * (↑v0.length:Int))+v3)).toNat               ([],[],Bool.false)).snd)).length) then
 bif decide   ((IntKind.i64.wrap (IntKind.i64.wrap (v2 * (↑v0.length:Int))+v3)).toNat<    (v1.set (IntKind.i64.wrap (IntKind.i64.wrap (v2 * (↑v0.length:Int))+v3)).toNat         (List.drop ((Option.some (1:Int)).getD (0:Int)).toNat             (v1.getD (IntKind.i64.wrap (IntKind.i64.wrap (v2 * (↑v0.length:Int))+v3)).toNat                 ([],[],Bool.false)).fst,          (v1.getD (IntKind.i64.wrap (IntKind.i64.wrap (v2 * (↑v0.length:Int))+v3)).toNat               ([],[],Bool.false)).snd)).length) then
 bif decide   (((v1.set (IntKind.i64.wrap (IntKind.i64.wrap (v2 * (↑v0.length:Int))+v3)).toNat                   (List.drop ((Option.some (1:Int)).getD (0:Int)).toNat                       (v1.getD (IntKind.i64.wrap (IntKind.i64.wrap (v2 * (↑v0.length:Int))+v3)).toNat                           ([],[],Bool.false)).fst,                    (v1.getD (IntKind.i64.wrap (IntKind.i64.wrap (v2 * (↑v0.length:Int))+v3)).toNat                         ([],[],Bool.false)).snd)).getD               (IntKind.i64.wrap (IntKind.i64.wrap (v2 * (↑v0.length:Int))+v3)).toNat               ([],[],Bool.false)).snd.fst.length+      [(v1.getD (IntKind.i64.wrap (IntKind.i64.wrap (v2 * (↑v0.length:Int))+v3)).toNat                   ([],[],Bool.false)).fst.getD             (Int.toNat (0:Int)) (0:Int)].length≤    (4294967296:Nat)) then
 bif decide   ((IntKind.i64.wrap (IntKind.i64.wrap (v2 * (↑v0.length:Int))+v3)).toNat=    (IntKind.i64.wrap (IntKind.i64.wrap (v2 * (↑v0.length:Int))+v3)).toNat) then
 bif decide   ((IntKind.i64.wrap (IntKind.i64.wrap (v2 * (↑v0.length:Int))+v3)).toNat<    (v1.set (IntKind.i64.wrap (IntKind.i64.wrap (v2 * (↑v0.length:Int))+v3)).toNat         (List.drop ((Option.some (1:Int)).getD (0:Int)).toNat             (v1.getD (IntKind.i64.wrap (IntKind.i64.wrap (v2 * (↑v0.length:Int))+v3)).toNat                 ([],[],Bool.false)).fst,          (v1.getD (IntKind.i64.wrap (IntKind.i64.wrap (v2 * (↑v0.length:Int))+v3)).toNat               ([],[],Bool.false)).snd)).length) then
 ret (Bool.true,v0.set v3.toNat   (IntKind.i64.wrap       ((v0.getD v3.toNat ((0:Int),(0:Int),Bool.false)).fst+        (v1.getD (IntKind.i64.wrap (IntKind.i64.wrap (v2 * (↑v0.length:Int))+v3)).toNat                 ([],[],Bool.false)).fst.getD           (Int.toNat (0:Int)) (0:Int)),    (v0.getD v3.toNat ((0:Int),(0:Int),Bool.false)).snd),(v1.set (IntKind.i64.wrap (IntKind.i64.wrap (v2 * (↑v0.length:Int))+v3)).toNat       (List.drop ((Option.some (1:Int)).getD (0:Int)).toNat           (v1.getD (IntKind.i64.wrap (IntKind.i64.wrap (v2 * (↑v0.length:Int))+v3)).toNat               ([],[],Bool.false)).fst,        (v1.getD (IntKind.i64.wrap (IntKind.i64.wrap (v2 * (↑v0.length:Int))+v3)).toNat             ([],[],Bool.false)).snd)).set   (IntKind.i64.wrap (IntKind.i64.wrap (v2 * (↑v0.length:Int))+v3)).toNat   (((v1.set (IntKind.i64.wrap (IntKind.i64.wrap (v2 * (↑v0.length:Int))+v3)).toNat             (List.drop ((Option.some (1:Int)).getD (0:Int)).toNat                 (v1.getD (IntKind.i64.wrap (IntKind.i64.wrap (v2 * (↑v0.length:Int))+v3)).toNat                     ([],[],Bool.false)).fst,              (v1.getD (IntKind.i64.wrap (IntKind.i64.wrap (v2 * (↑v0.length:Int))+v3)).toNat                   ([],[],Bool.false)).snd)).getD         (IntKind.i64.wrap (IntKind.i64.wrap (v2 * (↑v0.length:Int))+v3)).toNat ([],[],Bool.false)).fst,    ((v1.set (IntKind.i64.wrap (IntKind.i64.wrap (v2 * (↑v0.length:Int))+v3)).toNat                 (List.drop ((Option.some (1:Int)).getD (0:Int)).toNat                     (v1.getD (IntKind.i64.wrap (IntKind.i64.wrap (v2 * (↑v0.length:Int))+v3)).toNat                         ([],[],Bool.false)).fst,                  (v1.getD (IntKind.i64.wrap (IntKind.i64.wrap (v2 * (↑v0.length:Int))+v3)).toNat                       ([],[],Bool.false)).snd)).getD             (IntKind.i64.wrap (IntKind.i64.wrap (v2 * (↑v0.length:Int))+v3)).toNat             ([],[],Bool.false)).snd.fst ++       [(v1.getD (IntKind.i64.wrap (IntKind.i64.wrap (v2 * (↑v0.length:Int))+v3)).toNat                 ([],[],Bool.false)).fst.getD           (Int.toNat (0:Int)) (0:Int)],    ((v1.set (IntKind.i64.wrap (IntKind.i64.wrap (v2 * (↑v0.length:Int))+v3)).toNat               (List.drop ((Option.some (1:Int)).getD (0:Int)).toNat                   (v1.getD (IntKind.i64.wrap (IntKind.i64.wrap (v2 * (↑v0.length:Int))+v3)).toNat                       ([],[],Bool.false)).fst,                (v1.getD (IntKind.i64.wrap (IntKind.i64.wrap (v2 * (↑v0.length:Int))+v3)).toNat                     ([],[],Bool.false)).snd)).getD           (IntKind.i64.wrap (IntKind.i64.wrap (v2 * (↑v0.length:Int))+v3)).toNat           ([],[],Bool.false)).snd.snd))
 else
 none
 else
 none
 else
 none
 else
 none
 else
 none
 else
 ret (Bool.true,v0.set v3.toNat   (IntKind.i64.wrap       ((v0.getD v3.toNat ((0:Int),(0:Int),Bool.false)).fst+        (v1.getD (IntKind.i64.wrap (IntKind.i64.wrap (v2 * (↑v0.length:Int))+v3)).toNat                 ([],[],Bool.false)).fst.getD           (Int.toNat (0:Int)) (0:Int)),    (v0.getD v3.toNat ((0:Int),(0:Int),Bool.false)).snd),v1.set (IntKind.i64.wrap (IntKind.i64.wrap (v2 * (↑v0.length:Int))+v3)).toNat   (List.drop ((Option.some (1:Int)).getD (0:Int)).toNat       (v1.getD (IntKind.i64.wrap (IntKind.i64.wrap (v2 * (↑v0.length:Int))+v3)).toNat           ([],[],Bool.false)).fst,    (v1.getD (IntKind.i64.wrap (IntKind.i64.wrap (v2 * (↑v0.length:Int))+v3)).toNat ([],[],Bool.false)).snd))
 else
 none
 else
 none
 else
 none
 else
 none
 else
 none
 else
 none
 else
 none
 else
 bif decide ((0:Int)≤v3) then
 bif decide (v3.toNat<v0.length) then
 bif decide (v3.toNat<v0.length) then
 bif !(v0.getD v3.toNat ((0:Int),(0:Int),Bool.false)).snd.snd then
 (xi0e (v0) (v1.set (IntKind.i64.wrap (IntKind.i64.wrap (v2 * (↑v0.length:Int))+v3)).toNat   (List.drop ((Option.some (1:Int)).getD (0:Int)).toNat       (v1.getD (IntKind.i64.wrap (IntKind.i64.wrap (v2 * (↑v0.length:Int))+v3)).toNat           ([],[],Bool.false)).fst,    (v1.getD (IntKind.i64.wrap (IntKind.i64.wrap (v2 * (↑v0.length:Int))+v3)).toNat ([],[],Bool.false)).snd)) (v3) (v2)).bind fun (r0:Bool × (List (Int × Int × Bool)) × (List (List Int × List Int × Bool))) =>
 ret (r0.fst,r0.snd.fst,r0.snd.snd)
 else
 bif decide   ((IntKind.i64.wrap (IntKind.i64.wrap (v2 * (↑v0.length:Int))+v3)).toNat<    (v1.set (IntKind.i64.wrap (IntKind.i64.wrap (v2 * (↑v0.length:Int))+v3)).toNat         (List.drop ((Option.some (1:Int)).getD (0:Int)).toNat             (v1.getD (IntKind.i64.wrap (IntKind.i64.wrap (v2 * (↑v0.length:Int))+v3)).toNat                 ([],[],Bool.false)).fst,          (v1.getD (IntKind.i64.wrap (IntKind.i64.wrap (v2 * (↑v0.length:Int))+v3)).toNat               ([],[],Bool.false)).snd)).length) then
 ret (Bool.true,v0,(v1.set (IntKind.i64.wrap (IntKind.i64.wrap (v2 * (↑v0.length:Int))+v3)).toNat       (List.drop ((Option.some (1:Int)).getD (0:Int)).toNat           (v1.getD (IntKind.i64.wrap (IntKind.i64.wrap (v2 * (↑v0.length:Int))+v3)).toNat               ([],[],Bool.false)).fst,        (v1.getD (IntKind.i64.wrap (IntKind.i64.wrap (v2 * (↑v0.length:Int))+v3)).toNat             ([],[],Bool.false)).snd)).set   (IntKind.i64.wrap (IntKind.i64.wrap (v2 * (↑v0.length:Int))+v3)).toNat   (((v1.set (IntKind.i64.wrap (IntKind.i64.wrap (v2 * (↑v0.length:Int))+v3)).toNat             (List.drop ((Option.some (1:Int)).getD (0:Int)).toNat                 (v1.getD (IntKind.i64.wrap (IntKind.i64.wrap (v2 * (↑v0.length:Int))+v3)).toNat                     ([],[],Bool.false)).fst,              (v1.getD (IntKind.i64.wrap (IntKind.i64.wrap (v2 * (↑v0.length:Int))+v3)).toNat                   ([],[],Bool.false)).snd)).getD         (IntKind.i64.wrap (IntKind.i64.wrap (v2 * (↑v0.length:Int))+v3)).toNat ([],[],Bool.false)).fst,    ((v1.set (IntKind.i64.wrap (IntKind.i64.wrap (v2 * (↑v0.length:Int))+v3)).toNat               (List.drop ((Option.some (1:Int)).getD (0:Int)).toNat                   (v1.getD (IntKind.i64.wrap (IntKind.i64.wrap (v2 * (↑v0.length:Int))+v3)).toNat                       ([],[],Bool.false)).fst,                (v1.getD (IntKind.i64.wrap (IntKind.i64.wrap (v2 * (↑v0.length:Int))+v3)).toNat                     ([],[],Bool.false)).snd)).getD           (IntKind.i64.wrap (IntKind.i64.wrap (v2 * (↑v0.length:Int))+v3)).toNat           ([],[],Bool.false)).snd.fst,    Bool.false))
 else
 none
 else
 none
 else
 none
 else
 none
 else
 none
 else
 none
 else
 none
 else
 none
 else
 none
 else
 none
 else
 none
 else
 none
 else
 none
 else
 none
 else
 none
 else
 none
 else
 none
 else
 none
 else
 none
 else
 none
 else
 none
 else
 none
theorem xi0h.u:∀ b,xi0h.un (xi0h.mk b)=b:=fun _ => by kernel_rfl
theorem xi0h.eq (v0 v1 v2 v3) {b} (h:xi0h.t some v0 v1 v2 v3=some b):xi0h v0 v1 v2 v3=some b:=eqF xi0h.u Try.f97 (callT_le E tab) rfl rfl rfl (xi0h.t (rR xi0h.mk) v0 v1 v2 v3) (by kernel_rfl) (by unfold xi0h.t; repeat' first | exact sR | exact sN | exact sL | apply sC | (apply sB; intro _)) h
def xl1h.t {γ:Type} (ret:(Bool)→Option γ) (v0:List (Int × Int × Bool)) (v1:List (List Int × List Int × Bool)) (v2:List (Int × Int × Bool)) (v3:List (List Int × List Int × Bool)):Option γ :=
 (xl18 (v0) (v2)).bind fun (r0:Bool) =>
 bif !r0 then
 ret (Bool.false)
 else
 (xl19 (v1) (v3)).bind fun (r1:Bool) =>
 bif !r1 then
 ret (Bool.false)
 else
 ret (Bool.true)
theorem xl1h.u:∀ b,xl1h.un (xl1h.mk b)=b:=fun _ => by kernel_rfl
theorem xl1h.eq (v0 v1 v2 v3) {b} (h:xl1h.t some v0 v1 v2 v3=some b):xl1h v0 v1 v2 v3=some b:=eqF xl1h.u Try.f13 (callT_le E tab) rfl rfl rfl (xl1h.t (rR xl1h.mk) v0 v1 v2 v3) (by kernel_rfl) (by unfold xl1h.t; repeat' first | exact sR | exact sN | exact sL | apply sC | (apply sB; intro _)) h
def xl18.s4 (v0:List (Int × Int × Bool)) (v1:List (Int × Int × Bool)) (v2:Int):List Cell:=vc (.d .fro Yb v0)::vc (.d .fro Yb v1)::nn 3 (vc (iL v2)::nn 21 ([]))
def xl18.q4:=fun v0 v1 v2 => loopAtL E (callT E tab) 49 Try.f49 2 [.r,.r,.l,.r,.b] (xl18.s4 v0 v1 v2)
def xl18.l4:=fun v0 v1 v2 => tOf xl18.mk (xl18.q4 v0 v1 v2)
def xl18.t {γ:Type} (ret:(Bool)→Option γ) (lp4:(List (Int × Int × Bool))→(List (Int × Int × Bool))→Int→Option γ) (v0:List (Int × Int × Bool)) (v1:List (Int × Int × Bool)):Option γ :=
 bif (↑v0.length:Int) != (↑v1.length:Int) then
 ret (Bool.false)
 else
 lp4 (v0) (v1) ((0:Int))
def xl18.t4 {γ:Type} (ret:(Bool)→Option γ) (lp4:(List (Int × Int × Bool))→(List (Int × Int × Bool))→Int→Option γ) (v0:List (Int × Int × Bool)) (v1:List (Int × Int × Bool)) (v2:Int):Option γ :=
 bif decide (v2<(↑v0.length:Int)) then
 bif decide ((0:Int)≤v2) then
 bif decide (v2.toNat<v0.length) then
 bif decide ((0:Int)≤v2) then
 bif decide (v2.toNat<v1.length) then
 (xl1g ((v0.getD v2.toNat ((0:Int),(0:Int),Bool.false)).fst) ((v0.getD v2.toNat ((0:Int),(0:Int),Bool.false)).snd.fst) ((v0.getD v2.toNat ((0:Int),(0:Int),Bool.false)).snd.snd) ((v1.getD v2.toNat ((0:Int),(0:Int),Bool.false)).fst) ((v1.getD v2.toNat ((0:Int),(0:Int),Bool.false)).snd.fst) ((v1.getD v2.toNat ((0:Int),(0:Int),Bool.false)).snd.snd)).bind fun (r0:Bool) =>
 bif !r0 then
 ret (Bool.false)
 else
 lp4 (v0) (v1) (IntKind.i64.wrap (v2+(1:Int)))
 else
 none
 else
 none
 else
 none
 else
 none
 else
 ret (Bool.true)
theorem xl18.u:∀ b,xl18.un (xl18.mk b)=b:=fun _ => by kernel_rfl
theorem xl18.eq (v0 v1) {b} (h:xl18.t some xl18.l4 v0 v1=some b):xl18 v0 v1=some b:=eqF xl18.u Try.f49 (callT_le E tab) rfl rfl rfl (xl18.t (rR xl18.mk) xl18.q4 v0 v1) (by kernel_rfl) (by unfold xl18.t; repeat' first | exact sR | exact sN | exact sL | apply sC | (apply sB; intro _)) h
theorem xl18.eq4 (v0 v1 v2) {b} (h:xl18.t4 some xl18.l4 v0 v1 v2=some b):xl18.l4 v0 v1 v2=some b:=eqL xl18.u (xl18.t4 (rR xl18.mk) xl18.q4 v0 v1 v2) (by kernel_rfl) (by unfold xl18.t4; repeat' first | exact sR | exact sN | exact sL | apply sC | (apply sB; intro _)) h
def xl1g.t {γ:Type} (ret:(Bool)→Option γ) (v0:Int) (v1:Int) (v2:Bool) (v3:Int) (v4:Int) (v5:Bool):Option γ :=
 bif v0 != v3 then
 ret (Bool.false)
 else
 bif v1 != v4 then
 ret (Bool.false)
 else
 bif !v2 == v5 then
 ret (Bool.false)
 else
 ret (Bool.true)
theorem xl1g.u:∀ b,xl1g.un (xl1g.mk b)=b:=fun _ => by kernel_rfl
theorem xl1g.eq (v0 v1 v2 v3 v4 v5) {b} (h:xl1g.t some v0 v1 v2 v3 v4 v5=some b):xl1g v0 v1 v2 v3 v4 v5=some b:=eqF xl1g.u Try.f82 (callT_le E tab) rfl rfl rfl (xl1g.t (rR xl1g.mk) v0 v1 v2 v3 v4 v5) (by kernel_rfl) (by unfold xl1g.t; repeat' first | exact sR | exact sN | exact sL | apply sC | (apply sB; intro _)) h
def xl19.s4 (v0:List (List Int × List Int × Bool)) (v1:List (List Int × List Int × Bool)) (v2:Int):List Cell:=vc (.d .fro Ya v0)::vc (.d .fro Ya v1)::nn 3 (vc (iL v2)::nn 21 ([]))
def xl19.q4:=fun v0 v1 v2 => loopAtL E (callT E tab) 50 Try.f50 2 [.r,.r,.l,.r,.b] (xl19.s4 v0 v1 v2)
def xl19.l4:=fun v0 v1 v2 => tOf xl19.mk (xl19.q4 v0 v1 v2)
def xl19.t {γ:Type} (ret:(Bool)→Option γ) (lp4:(List (List Int × List Int × Bool))→(List (List Int × List Int × Bool))→Int→Option γ) (v0:List (List Int × List Int × Bool)) (v1:List (List Int × List Int × Bool)):Option γ :=
 bif (↑v0.length:Int) != (↑v1.length:Int) then
 ret (Bool.false)
 else
 lp4 (v0) (v1) ((0:Int))
def xl19.t4 {γ:Type} (ret:(Bool)→Option γ) (lp4:(List (List Int × List Int × Bool))→(List (List Int × List Int × Bool))→Int→Option γ) (v0:List (List Int × List Int × Bool)) (v1:List (List Int × List Int × Bool)) (v2:Int):Option γ :=
 bif decide (v2<(↑v0.length:Int)) then
 bif decide ((0:Int)≤v2) then
 bif decide (v2.toNat<v0.length) then
 bif decide ((0:Int)≤v2) then
 bif decide (v2.toNat<v1.length) then
 (xl1i ((v0.getD v2.toNat ([],[],Bool.false)).fst) ((v0.getD v2.toNat ([],[],Bool.false)).snd.fst) ((v0.getD v2.toNat ([],[],Bool.false)).snd.snd) ((v1.getD v2.toNat ([],[],Bool.false)).fst) ((v1.getD v2.toNat ([],[],Bool.false)).snd.fst) ((v1.getD v2.toNat ([],[],Bool.false)).snd.snd)).bind fun (r0:Bool) =>
 bif !r0 then
 ret (Bool.false)
 else
 lp4 (v0) (v1) (IntKind.i64.wrap (v2+(1:Int)))
 else
 none
 else
 none
 else
 none
 else
 none
 else
 ret (Bool.true)
theorem xl19.u:∀ b,xl19.un (xl19.mk b)=b:=fun _ => by kernel_rfl
theorem xl19.eq (v0 v1) {b} (h:xl19.t some xl19.l4 v0 v1=some b):xl19 v0 v1=some b:=eqF xl19.u Try.f50 (callT_le E tab) rfl rfl rfl (xl19.t (rR xl19.mk) xl19.q4 v0 v1) (by kernel_rfl) (by unfold xl19.t; repeat' first | exact sR | exact sN | exact sL | apply sC | (apply sB; intro _)) h
theorem xl19.eq4 (v0 v1 v2) {b} (h:xl19.t4 some xl19.l4 v0 v1 v2=some b):xl19.l4 v0 v1 v2=some b:=eqL xl19.u (xl19.t4 (rR xl19.mk) xl19.q4 v0 v1 v2) (by kernel_rfl) (by unfold xl19.t4; repeat' first | exact sR | exact sN | exact sL | apply sC | (apply sB; intro _)) h
def xl1i.t {γ:Type} (ret:(Bool)→Option γ) (v0:List Int) (v1:List Int) (v2:Bool) (v3:List Int) (v4:List Int) (v5:Bool):Option γ :=
 (xl1f (v0) (v3)).bind fun (r0:Bool) =>
 bif !r0 then
 ret (Bool.false)
 else
 (xl1f (v1) (v4)).bind fun (r1:Bool) =>
 bif !r1 then
 ret (Bool.false)
 else
 bif !v2 == v5 then
 ret (Bool.false)
 else
 ret (Bool.true)
theorem xl1i.u:∀ b,xl1i.un (xl1i.mk b)=b:=fun _ => by kernel_rfl
theorem xl1i.eq (v0 v1 v2 v3 v4 v5) {b} (h:xl1i.t some v0 v1 v2 v3 v4 v5=some b):xl1i v0 v1 v2 v3 v4 v5=some b:=eqF xl1i.u Try.f83 (callT_le E tab) rfl rfl rfl (xl1i.t (rR xl1i.mk) v0 v1 v2 v3 v4 v5) (by kernel_rfl) (by unfold xl1i.t; repeat' first | exact sR | exact sN | exact sL | apply sC | (apply sB; intro _)) h
def xl1f.s4 (v0:List Int) (v1:List Int) (v2:Int):List Cell:=vc (.d .fro (.sl (.int .i64)) v0)::vc (.d .fro (.sl (.int .i64)) v1)::nn 3 (vc (iL v2)::nn 20 ([]))
def xl1f.q4:=fun v0 v1 v2 => loopAtL E (callT E tab) 24 Try.f24 2 [.r,.r,.l,.r,.b] (xl1f.s4 v0 v1 v2)
def xl1f.l4:=fun v0 v1 v2 => tOf xl1f.mk (xl1f.q4 v0 v1 v2)
def xl1f.t {γ:Type} (ret:(Bool)→Option γ) (lp4:(List Int)→(List Int)→Int→Option γ) (v0:List Int) (v1:List Int):Option γ :=
 bif (↑v0.length:Int) != (↑v1.length:Int) then
 ret (Bool.false)
 else
 lp4 (v0) (v1) ((0:Int))
def xl1f.t4 {γ:Type} (ret:(Bool)→Option γ) (lp4:(List Int)→(List Int)→Int→Option γ) (v0:List Int) (v1:List Int) (v2:Int):Option γ :=
 bif decide (v2<(↑v0.length:Int)) then
 bif decide ((0:Int)≤v2) then
 bif decide (v2.toNat<v0.length) then
 bif decide ((0:Int)≤v2) then
 bif decide (v2.toNat<v1.length) then
 bif v0.getD v2.toNat (0:Int) != v1.getD v2.toNat (0:Int) then
 ret (Bool.false)
 else
 lp4 (v0) (v1) (IntKind.i64.wrap (v2+(1:Int)))
 else
 none
 else
 none
 else
 none
 else
 none
 else
 ret (Bool.true)
theorem xl1f.u:∀ b,xl1f.un (xl1f.mk b)=b:=fun _ => by kernel_rfl
theorem xl1f.eq (v0 v1) {b} (h:xl1f.t some xl1f.l4 v0 v1=some b):xl1f v0 v1=some b:=eqF xl1f.u Try.f24 (callT_le E tab) rfl rfl rfl (xl1f.t (rR xl1f.mk) xl1f.q4 v0 v1) (by kernel_rfl) (by unfold xl1f.t; repeat' first | exact sR | exact sN | exact sL | apply sC | (apply sB; intro _)) h
theorem xl1f.eq4 (v0 v1 v2) {b} (h:xl1f.t4 some xl1f.l4 v0 v1 v2=some b):xl1f.l4 v0 v1 v2=some b:=eqL xl1f.u (xl1f.t4 (rR xl1f.mk) xl1f.q4 v0 v1 v2) (by kernel_rfl) (by unfold xl1f.t4; repeat' first | exact sR | exact sN | exact sL | apply sC | (apply sB; intro _)) h
def xl0r.t {γ:Type} (ret:(Int × (List (Int × Int × Bool)) × (List (List Int × List Int × Bool)))→Option γ) (v0:List (Int × Int × Bool)) (v1:List (List Int × List Int × Bool)) (v2:Int):Option γ :=
 (xl0j (v0) (v2)).bind fun (r0:Int × (List (Int × Int × Bool))) =>
 (xl0k (v1) (r0.fst)).bind fun (r1:Int × (List (List Int × List Int × Bool))) =>
 ret (r1.fst,r0.snd,r1.snd)
theorem xl0r.u:∀ b,xl0r.un (xl0r.mk b)=b:=fun _ => by kernel_rfl
theorem xl0r.eq (v0 v1 v2) {b} (h:xl0r.t some v0 v1 v2=some b):xl0r v0 v1 v2=some b:=eqF xl0r.u Try.f14 (callT_le E tab) rfl rfl rfl (xl0r.t (rR xl0r.mk) v0 v1 v2) (by kernel_rfl) (by unfold xl0r.t; repeat' first | exact sR | exact sN | exact sL | apply sC | (apply sB; intro _)) h
def xl0j.s2 (v0:List (Int × Int × Bool)) (v1:Int) (v2:Int):List Cell:=⟨(.val .one),[.d .deep Yb v0],true,false,false,0,0⟩::vc (iL v1)::nn 3 (vc (iL v2)::nn 30 ([]))
def xl0j.q2:=fun v0 v1 v2 => loopAtL E (callT E tab) 51 Try.f51 2 [.r,.l,.r,.b] (xl0j.s2 v0 v1 v2)
def xl0j.l2:=fun v0 v1 v2 => tOf xl0j.mk (xl0j.q2 v0 v1 v2)
def xl0j.t {γ:Type} (ret:(Int × (List (Int × Int × Bool)))→Option γ) (lp2:(List (Int × Int × Bool))→Int→Int→Option γ) (v0:List (Int × Int × Bool)) (v1:Int):Option γ :=
 lp2 (v0) (v1) ((0:Int))
def xl0j.t2 {γ:Type} (ret:(Int × (List (Int × Int × Bool)))→Option γ) (lp2:(List (Int × Int × Bool))→Int→Int→Option γ) (v0:List (Int × Int × Bool)) (v1:Int) (v2:Int):Option γ :=
 bif decide (v2<(↑v0.length:Int)) then
 bif decide ((0:Int)≤v2) then
 bif decide (v2.toNat<v0.length) then
 bif decide (v2.toNat<v0.length) then
 bif decide ((0:Int)≤v2) then
 bif decide (v2.toNat<(v0.set v2.toNat (v1,(v0.getD v2.toNat ((0:Int),(0:Int),Bool.false)).snd)).length) then
 bif decide (v2.toNat<(v0.set v2.toNat (v1,(v0.getD v2.toNat ((0:Int),(0:Int),Bool.false)).snd)).length) then
 bif decide ((0:Int)≤v2) then
 bif decide   (v2.toNat<    ((v0.set v2.toNat (v1,(v0.getD v2.toNat ((0:Int),(0:Int),Bool.false)).snd)).set v2.toNat         (((v0.set v2.toNat (v1,(v0.getD v2.toNat ((0:Int),(0:Int),Bool.false)).snd)).getD v2.toNat               ((0:Int),(0:Int),Bool.false)).fst,          IntKind.i64.wrap (v1+(1:Int)),          ((v0.set v2.toNat (v1,(v0.getD v2.toNat ((0:Int),(0:Int),Bool.false)).snd)).getD v2.toNat                 ((0:Int),(0:Int),Bool.false)).snd.snd)).length) then
 bif decide   (v2.toNat<    ((v0.set v2.toNat (v1,(v0.getD v2.toNat ((0:Int),(0:Int),Bool.false)).snd)).set v2.toNat         (((v0.set v2.toNat (v1,(v0.getD v2.toNat ((0:Int),(0:Int),Bool.false)).snd)).getD v2.toNat               ((0:Int),(0:Int),Bool.false)).fst,          IntKind.i64.wrap (v1+(1:Int)),          ((v0.set v2.toNat (v1,(v0.getD v2.toNat ((0:Int),(0:Int),Bool.false)).snd)).getD v2.toNat                 ((0:Int),(0:Int),Bool.false)).snd.snd)).length) then
 lp2 (((v0.set v2.toNat (v1,(v0.getD v2.toNat ((0:Int),(0:Int),Bool.false)).snd)).set v2.toNat       (((v0.set v2.toNat (v1,(v0.getD v2.toNat ((0:Int),(0:Int),Bool.false)).snd)).getD v2.toNat             ((0:Int),(0:Int),Bool.false)).fst,        IntKind.i64.wrap (v1+(1:Int)),        ((v0.set v2.toNat (v1,(v0.getD v2.toNat ((0:Int),(0:Int),Bool.false)).snd)).getD v2.toNat               ((0:Int),(0:Int),Bool.false)).snd.snd)).set   v2.toNat   ((((v0.set v2.toNat (v1,(v0.getD v2.toNat ((0:Int),(0:Int),Bool.false)).snd)).set v2.toNat             (((v0.set v2.toNat (v1,(v0.getD v2.toNat ((0:Int),(0:Int),Bool.false)).snd)).getD v2.toNat                   ((0:Int),(0:Int),Bool.false)).fst,              IntKind.i64.wrap (v1+(1:Int)),              ((v0.set v2.toNat (v1,(v0.getD v2.toNat ((0:Int),(0:Int),Bool.false)).snd)).getD v2.toNat                     ((0:Int),(0:Int),Bool.false)).snd.snd)).getD         v2.toNat ((0:Int),(0:Int),Bool.false)).fst,    (((v0.set v2.toNat (v1,(v0.getD v2.toNat ((0:Int),(0:Int),Bool.false)).snd)).set v2.toNat               (((v0.set v2.toNat (v1,(v0.getD v2.toNat ((0:Int),(0:Int),Bool.false)).snd)).getD v2.toNat                     ((0:Int),(0:Int),Bool.false)).fst,                IntKind.i64.wrap (v1+(1:Int)),                ((v0.set v2.toNat (v1,(v0.getD v2.toNat ((0:Int),(0:Int),Bool.false)).snd)).getD v2.toNat                       ((0:Int),(0:Int),Bool.false)).snd.snd)).getD           v2.toNat ((0:Int),(0:Int),Bool.false)).snd.fst,    (IntKind.i64.wrap (IntKind.i64.wrap (v1+(1:Int))+(1:Int))).tmod (3:Int) == (0:Int))) (IntKind.i64.wrap (IntKind.i64.wrap (IntKind.i64.wrap (v1+(1:Int))+(1:Int))+(1:Int))) (IntKind.i64.wrap (v2+(1:Int)))
 else
 none
 else
 none
 else
 none
 else
 none
 else
 none
 else
 none
 else
 none
 else
 none
 else
 none
 else
 ret (v1,v0)
theorem xl0j.u:∀ b,xl0j.un (xl0j.mk b)=b:=fun _ => by kernel_rfl
theorem xl0j.eq (v0 v1) {b} (h:xl0j.t some xl0j.l2 v0 v1=some b):xl0j v0 v1=some b:=eqF xl0j.u Try.f51 (callT_le E tab) rfl rfl rfl (xl0j.t (rR xl0j.mk) xl0j.q2 v0 v1) (by kernel_rfl) (by unfold xl0j.t; repeat' first | exact sR | exact sN | exact sL | apply sC | (apply sB; intro _)) h
theorem xl0j.eq2 (v0 v1 v2) {b} (h:xl0j.t2 some xl0j.l2 v0 v1 v2=some b):xl0j.l2 v0 v1 v2=some b:=eqL xl0j.u (xl0j.t2 (rR xl0j.mk) xl0j.q2 v0 v1 v2) (by kernel_rfl) (by unfold xl0j.t2; repeat' first | exact sR | exact sN | exact sL | apply sC | (apply sB; intro _)) h
def xl0k.s2 (v0:List (List Int × List Int × Bool)) (v1:Int) (v2:Int):List Cell:=⟨(.val .one),[.d .deep Ya v0],true,false,false,0,0⟩::vc (iL v1)::nn 3 (vc (iL v2)::nn 30 ([]))
def xl0k.q2:=fun v0 v1 v2 => loopAtL E (callT E tab) 52 Try.f52 2 [.r,.l,.r,.b] (xl0k.s2 v0 v1 v2)
def xl0k.l2:=fun v0 v1 v2 => tOf xl0k.mk (xl0k.q2 v0 v1 v2)
def xl0k.t {γ:Type} (ret:(Int × (List (List Int × List Int × Bool)))→Option γ) (lp2:(List (List Int × List Int × Bool))→Int→Int→Option γ) (v0:List (List Int × List Int × Bool)) (v1:Int):Option γ :=
 lp2 (v0) (v1) ((0:Int))
def xl0k.t2 {γ:Type} (ret:(Int × (List (List Int × List Int × Bool)))→Option γ) (lp2:(List (List Int × List Int × Bool))→Int→Int→Option γ) (v0:List (List Int × List Int × Bool)) (v1:Int) (v2:Int):Option γ :=
 bif decide (v2<(↑v0.length:Int)) then
 bif decide ((0:Int)≤v2) then
 bif decide (v2.toNat<v0.length) then
 bif decide (v2.toNat<v0.length) then
 bif decide (v2.toNat<v0.length) then
 (xl0q ((v0.getD v2.toNat ([],[],Bool.false)).fst) (v1)).bind fun (r0:Int × (List Int)) =>
 bif decide (v2.toNat=v2.toNat) &&   (decide ((0:Nat)+(0:Nat)=(0:Nat)+(0:Nat)) &&     decide ((1:Nat)+((1:Nat)+(1:Nat))=(1:Nat)+((1:Nat)+(1:Nat)))) then
 bif decide (v2.toNat<v0.length) then
 bif decide ((0:Int)≤v2) then
 bif decide (v2.toNat<(v0.set v2.toNat (r0.snd,(v0.getD v2.toNat ([],[],Bool.false)).snd)).length) then
 bif decide (v2.toNat<(v0.set v2.toNat (r0.snd,(v0.getD v2.toNat ([],[],Bool.false)).snd)).length) then
 bif decide (v2.toNat<(v0.set v2.toNat (r0.snd,(v0.getD v2.toNat ([],[],Bool.false)).snd)).length) then
 (xl0q (((v0.set v2.toNat (r0.snd,(v0.getD v2.toNat ([],[],Bool.false)).snd)).getD v2.toNat ([],[],Bool.false)).snd.fst) (r0.fst)).bind fun (r1:Int × (List Int)) =>
 bif decide (v2.toNat=v2.toNat) &&   (decide ((0:Nat)+(1:Nat)=(0:Nat)+(1:Nat)) &&     decide ((1:Nat)+((1:Nat)+(1:Nat))=(1:Nat)+((1:Nat)+(1:Nat)))) then
 bif decide (v2.toNat<(v0.set v2.toNat (r0.snd,(v0.getD v2.toNat ([],[],Bool.false)).snd)).length) then
 bif decide ((0:Int)≤v2) then
 bif decide   (v2.toNat<    ((v0.set v2.toNat (r0.snd,(v0.getD v2.toNat ([],[],Bool.false)).snd)).set v2.toNat         (((v0.set v2.toNat (r0.snd,(v0.getD v2.toNat ([],[],Bool.false)).snd)).getD v2.toNat               ([],[],Bool.false)).fst,          r1.snd,          ((v0.set v2.toNat (r0.snd,(v0.getD v2.toNat ([],[],Bool.false)).snd)).getD v2.toNat                 ([],[],Bool.false)).snd.snd)).length) then
 bif decide   (v2.toNat<    ((v0.set v2.toNat (r0.snd,(v0.getD v2.toNat ([],[],Bool.false)).snd)).set v2.toNat         (((v0.set v2.toNat (r0.snd,(v0.getD v2.toNat ([],[],Bool.false)).snd)).getD v2.toNat               ([],[],Bool.false)).fst,          r1.snd,          ((v0.set v2.toNat (r0.snd,(v0.getD v2.toNat ([],[],Bool.false)).snd)).getD v2.toNat                 ([],[],Bool.false)).snd.snd)).length) then
 lp2 (((v0.set v2.toNat (r0.snd,(v0.getD v2.toNat ([],[],Bool.false)).snd)).set v2.toNat       (((v0.set v2.toNat (r0.snd,(v0.getD v2.toNat ([],[],Bool.false)).snd)).getD v2.toNat ([],[],Bool.false)).fst,        r1.snd,        ((v0.set v2.toNat (r0.snd,(v0.getD v2.toNat ([],[],Bool.false)).snd)).getD v2.toNat               ([],[],Bool.false)).snd.snd)).set   v2.toNat   ((((v0.set v2.toNat (r0.snd,(v0.getD v2.toNat ([],[],Bool.false)).snd)).set v2.toNat             (((v0.set v2.toNat (r0.snd,(v0.getD v2.toNat ([],[],Bool.false)).snd)).getD v2.toNat                   ([],[],Bool.false)).fst,              r1.snd,              ((v0.set v2.toNat (r0.snd,(v0.getD v2.toNat ([],[],Bool.false)).snd)).getD v2.toNat                     ([],[],Bool.false)).snd.snd)).getD         v2.toNat ([],[],Bool.false)).fst,    (((v0.set v2.toNat (r0.snd,(v0.getD v2.toNat ([],[],Bool.false)).snd)).set v2.toNat               (((v0.set v2.toNat (r0.snd,(v0.getD v2.toNat ([],[],Bool.false)).snd)).getD v2.toNat                     ([],[],Bool.false)).fst,                r1.snd,                ((v0.set v2.toNat (r0.snd,(v0.getD v2.toNat ([],[],Bool.false)).snd)).getD v2.toNat                       ([],[],Bool.false)).snd.snd)).getD           v2.toNat ([],[],Bool.false)).snd.fst,    r1.fst.tmod (3:Int) == (0:Int))) (IntKind.i64.wrap (r1.fst+(1:Int))) (IntKind.i64.wrap (v2+(1:Int)))
 else
 none
 else
 none
 else
 none
 else
 none
 else
 none
 else
 none
 else
 none
 else
 none
 else
 none
 else
 none
 else
 none
 else
 none
 else
 none
 else
 none
 else
 none
 else
 ret (v1,v0)
theorem xl0k.u:∀ b,xl0k.un (xl0k.mk b)=b:=fun _ => by kernel_rfl
theorem xl0k.eq (v0 v1) {b} (h:xl0k.t some xl0k.l2 v0 v1=some b):xl0k v0 v1=some b:=eqF xl0k.u Try.f52 (callT_le E tab) rfl rfl rfl (xl0k.t (rR xl0k.mk) xl0k.q2 v0 v1) (by kernel_rfl) (by unfold xl0k.t; repeat' first | exact sR | exact sN | exact sL | apply sC | (apply sB; intro _)) h
theorem xl0k.eq2 (v0 v1 v2) {b} (h:xl0k.t2 some xl0k.l2 v0 v1 v2=some b):xl0k.l2 v0 v1 v2=some b:=eqL xl0k.u (xl0k.t2 (rR xl0k.mk) xl0k.q2 v0 v1 v2) (by kernel_rfl) (by unfold xl0k.t2; repeat' first | exact sR | exact sN | exact sL | apply sC | (apply sB; intro _)) h
end
end GoV

/- Equations of the program's functions (printed by wip/tools/emit.py). -/
namespace GoV
open Go Go.Proofs
set_option maxRecDepth 100000
noncomputable section

def xl0q.s2 (v0:List Int) (v1:Int) (v2:Int):List Cell:=⟨(.val .one),[.d .deep (.sl (.int .i64)) v0],true,false,false,0,0⟩::vc (iL v1)::nn 3 (vc (iL v2)::nn 13 ([]))
def xl0q.q2:=fun v0 v1 v2 => loopAtL E (callT E tab) 26 Try.f26 2 [.r,.l,.r,.b] (xl0q.s2 v0 v1 v2)
def xl0q.l2:=fun v0 v1 v2 => tOf xl0q.mk (xl0q.q2 v0 v1 v2)
def xl0q.t {γ:Type} (ret:(Int × (List Int))→Option γ) (lp2:(List Int)→Int→Int→Option γ) (v0:List Int) (v1:Int):Option γ :=
 lp2 (v0) (v1) ((0:Int))
def xl0q.t2 {γ:Type} (ret:(Int × (List Int))→Option γ) (lp2:(List Int)→Int→Int→Option γ) (v0:List Int) (v1:Int) (v2:Int):Option γ :=
 bif decide (v2<(↑v0.length:Int)) then
 bif decide ((0:Int)≤v2) then
 bif decide (v2.toNat<v0.length) then
 bif decide (v2.toNat<v0.length) then
 lp2 (v0.set v2.toNat v1) (IntKind.i64.wrap (v1+(1:Int))) (IntKind.i64.wrap (v2+(1:Int)))
 else
 none
 else
 none
 else
 none
 else
 ret (v1,v0)
theorem xl0q.u:∀ b,xl0q.un (xl0q.mk b)=b:=fun _ => by kernel_rfl
theorem xl0q.eq (v0 v1) {b} (h:xl0q.t some xl0q.l2 v0 v1=some b):xl0q v0 v1=some b:=eqF xl0q.u Try.f26 (callT_le E tab) rfl rfl rfl (xl0q.t (rR xl0q.mk) xl0q.q2 v0 v1) (by kernel_rfl) (by unfold xl0q.t; repeat' first | exact sR | exact sN | exact sL | apply sC | (apply sB; intro _)) h
theorem xl0q.eq2 (v0 v1 v2) {b} (h:xl0q.t2 some xl0q.l2 v0 v1 v2=some b):xl0q.l2 v0 v1 v2=some b:=eqL xl0q.u (xl0q.t2 (rR xl0q.mk) xl0q.q2 v0 v1 v2) (by kernel_rfl) (by unfold xl0q.t2; repeat' first | exact sR | exact sN | exact sL | apply sC | (apply sB; intro _)) h
def xl15.t {γ:Type} (ret:(Int)→Option γ) (v0:List (Int × Int × Bool)) (v1:List (List Int × List Int × Bool)) (v2:Int):Option γ :=
 (xl0y (v0) (v2)).bind fun (r0:Int) =>
 bif decide (r0<(0:Int)) then
 ret ((-1:Int))
 else
 (xl0z (v1) (r0)).bind fun (r1:Int) =>
 bif decide (r1<(0:Int)) then
 ret ((-1:Int))
 else
 ret (r1)
theorem xl15.u:∀ b,xl15.un (xl15.mk b)=b:=fun _ => by kernel_rfl
theorem xl15.eq (v0 v1 v2) {b} (h:xl15.t some v0 v1 v2=some b):xl15 v0 v1 v2=some b:=eqF xl15.u Try.f15 (callT_le E tab) rfl rfl rfl (xl15.t (rR xl15.mk) v0 v1 v2) (by kernel_rfl) (by unfold xl15.t; repeat' first | exact sR | exact sN | exact sL | apply sC | (apply sB; intro _)) h
def xl0y.s2 (v0:List (Int × Int × Bool)) (v1:Int) (v2:Int):List Cell:=vc (.d .fro Yb v0)::vc (iL v1)::nn 3 (vc (iL v2)::nn 36 ([]))
def xl0y.q2:=fun v0 v1 v2 => loopAtL E (callT E tab) 53 Try.f53 2 [.r,.l,.r,.b] (xl0y.s2 v0 v1 v2)
def xl0y.l2:=fun v0 v1 v2 => tOf xl0y.mk (xl0y.q2 v0 v1 v2)
def xl0y.t {γ:Type} (ret:(Int)→Option γ) (lp2:(List (Int × Int × Bool))→Int→Int→Option γ) (v0:List (Int × Int × Bool)) (v1:Int):Option γ :=
 lp2 (v0) (v1) ((0:Int))
def xl0y.t2 {γ:Type} (ret:(Int)→Option γ) (lp2:(List (Int × Int × Bool))→Int→Int→Option γ) (v0:List (Int × Int × Bool)) (v1:Int) (v2:Int):Option γ :=
 bif decide (v2<(↑v0.length:Int)) then
 bif decide ((0:Int)≤v2) then
 bif decide (v2.toNat<v0.length) then
 bif (v0.getD v2.toNat ((0:Int),(0:Int),Bool.false)).fst != v1 then
 ret ((-1:Int))
 else
 bif decide ((0:Int)≤v2) then
 bif decide (v2.toNat<v0.length) then
 bif (v0.getD v2.toNat ((0:Int),(0:Int),Bool.false)).snd.fst != IntKind.i64.wrap (v1+(1:Int)) then
 ret ((-1:Int))
 else
 bif decide ((0:Int)≤v2) then
 bif decide (v2.toNat<v0.length) then
 bif !(v0.getD v2.toNat ((0:Int),(0:Int),Bool.false)).snd.snd ==     ((IntKind.i64.wrap (IntKind.i64.wrap (v1+(1:Int))+(1:Int))).tmod (3:Int) == (0:Int)) then
 ret ((-1:Int))
 else
 lp2 (v0) (IntKind.i64.wrap (IntKind.i64.wrap (IntKind.i64.wrap (v1+(1:Int))+(1:Int))+(1:Int))) (IntKind.i64.wrap (v2+(1:Int)))
 else
 none
 else
 none
 else
 none
 else
 none
 else
 none
 else
 none
 else
 ret (v1)
theorem xl0y.u:∀ b,xl0y.un (xl0y.mk b)=b:=fun _ => by kernel_rfl
theorem xl0y.eq (v0 v1) {b} (h:xl0y.t some xl0y.l2 v0 v1=some b):xl0y v0 v1=some b:=eqF xl0y.u Try.f53 (callT_le E tab) rfl rfl rfl (xl0y.t (rR xl0y.mk) xl0y.q2 v0 v1) (by kernel_rfl) (by unfold xl0y.t; repeat' first | exact sR | exact sN | exact sL | apply sC | (apply sB; intro _)) h
theorem xl0y.eq2 (v0 v1 v2) {b} (h:xl0y.t2 some xl0y.l2 v0 v1 v2=some b):xl0y.l2 v0 v1 v2=some b:=eqL xl0y.u (xl0y.t2 (rR xl0y.mk) xl0y.q2 v0 v1 v2) (by kernel_rfl) (by unfold xl0y.t2; repeat' first | exact sR | exact sN | exact sL | apply sC | (apply sB; intro _)) h
def xl0z.s2 (v0:List (List Int × List Int × Bool)) (v1:Int) (v2:Int):List Cell:=vc (.d .fro Ya v0)::vc (iL v1)::nn 3 (vc (iL v2)::nn 36 ([]))
def xl0z.q2:=fun v0 v1 v2 => loopAtL E (callT E tab) 54 Try.f54 2 [.r,.l,.r,.b] (xl0z.s2 v0 v1 v2)
def xl0z.l2:=fun v0 v1 v2 => tOf xl0z.mk (xl0z.q2 v0 v1 v2)
def xl0z.t {γ:Type} (ret:(Int)→Option γ) (lp2:(List (List Int × List Int × Bool))→Int→Int→Option γ) (v0:List (List Int × List Int × Bool)) (v1:Int):Option γ :=
 lp2 (v0) (v1) ((0:Int))
def xl0z.t2 {γ:Type} (ret:(Int)→Option γ) (lp2:(List (List Int × List Int × Bool))→Int→Int→Option γ) (v0:List (List Int × List Int × Bool)) (v1:Int) (v2:Int):Option γ :=
 bif decide (v2<(↑v0.length:Int)) then
 bif decide ((0:Int)≤v2) then
 bif decide (v2.toNat<v0.length) then
 (xl14 ((v0.getD v2.toNat ([],[],Bool.false)).fst) (v1)).bind fun (r0:Int) =>
 bif decide (r0<(0:Int)) then
 ret ((-1:Int))
 else
 bif decide ((0:Int)≤v2) then
 bif decide (v2.toNat<v0.length) then
 (xl14 ((v0.getD v2.toNat ([],[],Bool.false)).snd.fst) (r0)).bind fun (r1:Int) =>
 bif decide (r1<(0:Int)) then
 ret ((-1:Int))
 else
 bif decide ((0:Int)≤v2) then
 bif decide (v2.toNat<v0.length) then
 bif !(v0.getD v2.toNat ([],[],Bool.false)).snd.snd == (r1.tmod (3:Int) == (0:Int)) then
 ret ((-1:Int))
 else
 lp2 (v0) (IntKind.i64.wrap (r1+(1:Int))) (IntKind.i64.wrap (v2+(1:Int)))
 else
 none
 else
 none
 else
 none
 else
 none
 else
 none
 else
 none
 else
 ret (v1)
theorem xl0z.u:∀ b,xl0z.un (xl0z.mk b)=b:=fun _ => by kernel_rfl
theorem xl0z.eq (v0 v1) {b} (h:xl0z.t some xl0z.l2 v0 v1=some b):xl0z v0 v1=some b:=eqF xl0z.u Try.f54 (callT_le E tab) rfl rfl rfl (xl0z.t (rR xl0z.mk) xl0z.q2 v0 v1) (by kernel_rfl) (by unfold xl0z.t; repeat' first | exact sR | exact sN | exact sL | apply sC | (apply sB; intro _)) h
theorem xl0z.eq2 (v0 v1 v2) {b} (h:xl0z.t2 some xl0z.l2 v0 v1 v2=some b):xl0z.l2 v0 v1 v2=some b:=eqL xl0z.u (xl0z.t2 (rR xl0z.mk) xl0z.q2 v0 v1 v2) (by kernel_rfl) (by unfold xl0z.t2; repeat' first | exact sR | exact sN | exact sL | apply sC | (apply sB; intro _)) h
def xl14.s2 (v0:List Int) (v1:Int) (v2:Int):List Cell:=vc (.d .fro (.sl (.int .i64)) v0)::vc (iL v1)::nn 3 (vc (iL v2)::nn 15 ([]))
def xl14.q2:=fun v0 v1 v2 => loopAtL E (callT E tab) 84 Try.f84 2 [.r,.l,.r,.b] (xl14.s2 v0 v1 v2)
def xl14.l2:=fun v0 v1 v2 => tOf xl14.mk (xl14.q2 v0 v1 v2)
def xl14.t {γ:Type} (ret:(Int)→Option γ) (lp2:(List Int)→Int→Int→Option γ) (v0:List Int) (v1:Int):Option γ :=
 lp2 (v0) (v1) ((0:Int))
def xl14.t2 {γ:Type} (ret:(Int)→Option γ) (lp2:(List Int)→Int→Int→Option γ) (v0:List Int) (v1:Int) (v2:Int):Option γ :=
 bif decide (v2<(↑v0.length:Int)) then
 bif decide ((0:Int)≤v2) then
 bif decide (v2.toNat<v0.length) then
 bif v0.getD v2.toNat (0:Int) != v1 then
 ret ((-1:Int))
 else
 lp2 (v0) (IntKind.i64.wrap (v1+(1:Int))) (IntKind.i64.wrap (v2+(1:Int)))
 else
 none
 else
 none
 else
 ret (v1)
theorem xl14.u:∀ b,xl14.un (xl14.mk b)=b:=fun _ => by kernel_rfl
theorem xl14.eq (v0 v1) {b} (h:xl14.t some xl14.l2 v0 v1=some b):xl14 v0 v1=some b:=eqF xl14.u Try.f84 (callT_le E tab) rfl rfl rfl (xl14.t (rR xl14.mk) xl14.q2 v0 v1) (by kernel_rfl) (by unfold xl14.t; repeat' first | exact sR | exact sN | exact sL | apply sC | (apply sB; intro _)) h
theorem xl14.eq2 (v0 v1 v2) {b} (h:xl14.t2 some xl14.l2 v0 v1 v2=some b):xl14.l2 v0 v1 v2=some b:=eqL xl14.u (xl14.t2 (rR xl14.mk) xl14.q2 v0 v1 v2) (by kernel_rfl) (by unfold xl14.t2; repeat' first | exact sR | exact sN | exact sL | apply sC | (apply sB; intro _)) h
end
end GoV
