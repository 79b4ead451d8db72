/- A part of the proof of FnPictured: an interpreter of the model over plain data, its soundness, and what it makes of the functions that the statement reaches. Conditions: none beyond what the given statement itself says. -/
import Derived.Test.YtbimgkhikmmhoaaTJ
set_option linter.unusedVariables false
set_option linter.unusedSimpArgs false
set_option linter.unnecessarySimpa false
set_option linter.unusedSectionVars false
/- The functions of the program, each told by what it answers in the end (printed by wip/tools/emit.py). -/
/-! Names of functions here: xs00 = slices_ContainsFunc_int_int_impl_areAll_int_1_impl_Wire_isWire_1, xs01 = slices_ContainsFunc_int_int_impl_areAll_int_1_impl_isAmountWord, xs02 = slices_IndexFunc_int_int_impl_areAll_int_1_impl_Wire_isWire_1, xs03 = slices_IndexFunc_int_int_impl_areAll_int_1_impl_isAmountWord, xs04 = slices_ContainsFunc_impl_Proc_impl_Proc_impl_FinishSnap_1, xs05 = slices_IndexFunc_impl_Proc_impl_Proc_impl_FinishSnap_1, xs06 = slices_IndexFunc_impl_Wire_impl_Wire_impl_FinishSnap_2, xi07 = impl_areAll_int_1_impl_Wire_isWire_1, xi08 = impl_areAll_int_1_impl_isAmountWord, xi09 = impl_areAll_int_impl_Wire_isWire_1, xi0a = impl_areAll_int_impl_isAmountWord, xs0b = slices_Clone_impl_Proc_impl_Proc, xs0c = spec_l1Cur_snapSteps_e61, xs0d = spec_l1Cur_amounts_fee, xs0e = slices_Clone_int_int, xs0f = spec_l1Cur_among_a22, xs0g = spec_l1Cur_next_fee, xs0h = spec_l1Cur_pick_e61, xi0i = impl_Snap_save_f06, xi0j = impl_Snap_send_c40, xi0k = impl_Snap_step_c40, xi0l = impl_Snap_take_f06, xi0m = impl_Wire_isWire_1, xs0n = spec_l1Cur_one_e61, xi0o = impl_FinishSnap_1, xi0p = impl_FinishSnap_2, xi0q = impl_Snap_picture, xi0r = impl_Snap_stepped, xi0s = impl_isAmountWord, xs0t = spec_DrawPlaySnap, xi0u = impl_Wire_isNone, xi0v = impl_Wire_isWire, xs0w = spec_l15Save_6da, xs0x = spec_l15Step_967, xi0y = impl_FinishSnap, xl0z = laws_FnPictured, xi10 = impl_PictureOf, xl11 = laws_sameBools, xl12 = laws_sameSnaps, xs13 = spec_l15Amount, xi14 = impl_GoodSnap, xi15 = impl_PlaySnap, xi16 = impl_Snap_own, xl17 = laws_sameInts, xs18 = spec_GoodSnap, xs19 = spec_PlaySnap, xs1a = spec_StepSnap, xi1b = impl_NewSnap, xi1c = impl_TotalIn, xi1d = impl_newSnap, xs1e = spec_NewSnap, xi1f = impl_within, xs1g = spec_l15Own, xi1h = impl_sumOf, xs1i = spec_l1In -/
namespace GoV
abbrev Ya:Ty:=.sl (.pair (.int .i64) (.pair (.int .i64) (.pair (.int .i64) (.int .i64))))
abbrev Yb:Ty:=.sl (.pair (.sl (.int .i64)) (.pair (.sl (.int .i64)) .bool))
abbrev Yc:Ty:=.sl (.pair (.int .i64) (.pair (.int .i64) .bool))
open Go Go.Proofs
set_option maxRecDepth 100000
noncomputable section

def xl0z.c (v0:List Int):List Cell:=vc (.d .fro (.sl (.int .u8)) v0)::[]
def xl0z.mk (b:Bool):R:=(⟨.one,[bL b]⟩,nn 1 ([]))
def xl0z.un (r:R):Bool:=((leafR r 0).dat .bool)
def xl0z (v0:List Int):Option (Bool):=tOf xl0z.mk (vlim E 6 (xl0z.c v0))
def xs0t.c (v0:List Int):List Cell:=vc (.d .fro (.sl (.int .u8)) v0)::[]
def xs0t.mk (b:(List Int) × (List (Int × Int × Int × Int))):R:=(⟨(.tup [none,none]),[.d .deep (.sl (.int .i64)) b.1,.d .deep Ya b.2]⟩,nn 1 ([]))
def xs0t.un (r:R):(List Int) × (List (Int × Int × Int × Int)):=((leafR r 0).dat (.sl (.int .i64)),(leafR r 1).dat Ya)
def xs0t (v0:List Int):Option ((List Int) × (List (Int × Int × Int × Int))):=tOf xs0t.mk (vlim E 30 (xs0t.c v0))
def xs0d.c (v0:List Int) (v1:Int) (v2:Int):List Cell:=⟨(.box false),[.d .fro (.sl (.int .u8)) v0,iL v1,.d .fro (.int .u64) v2],true,false,false,0,0⟩::[]
def xs0d.mk (b:(List Int) × (List Int) × Int × Int):R:=(⟨.one,[.d .deep (.sl (.int .i64)) b.1]⟩,⟨(.box false),[.d .fro (.sl (.int .u8)) b.2.1,iL b.2.2.1,.d .fro (.int .u64) b.2.2.2],true,false,false,0,0⟩::[])
def xs0d.un (r:R):(List Int) × (List Int) × Int × Int:=((leafR r 0).dat (.sl (.int .i64)),(leafF r 0 0).dat (.sl (.int .u8)),(leafF r 0 1).dat (.int .i64),(leafF r 0 2).dat (.int .u64))
def xs0d (v0:List Int) (v1:Int) (v2:Int):Option ((List Int) × (List Int) × Int × Int):=tOf xs0d.mk (vlim E 64 (xs0d.c v0 v1 v2))
def xs0h.c (v0:List Int) (v1:Int) (v2:Int) (v3:Int):List Cell:=⟨(.box false),[.d .fro (.sl (.int .u8)) v0,iL v1,.d .fro (.int .u64) v2],true,false,false,0,0⟩::vc (iL v3)::[]
def xs0h.mk (b:Int × (List Int) × Int × Int):R:=(⟨.one,[iL b.1]⟩,⟨(.box false),[.d .fro (.sl (.int .u8)) b.2.1,iL b.2.2.1,.d .fro (.int .u64) b.2.2.2],true,false,false,0,0⟩::nn 1 ([]))
def xs0h.un (r:R):Int × (List Int) × Int × Int:=((leafR r 0).dat (.int .i64),(leafF r 0 0).dat (.sl (.int .u8)),(leafF r 0 1).dat (.int .i64),(leafF r 0 2).dat (.int .u64))
def xs0h (v0:List Int) (v1:Int) (v2:Int) (v3:Int):Option (Int × (List Int) × Int × Int):=tOf xs0h.mk (vlim E 72 (xs0h.c v0 v1 v2 v3))
def xs0g.c (v0:List Int) (v1:Int) (v2:Int):List Cell:=⟨(.box false),[.d .fro (.sl (.int .u8)) v0,iL v1,.d .fro (.int .u64) v2],true,false,false,0,0⟩::[]
def xs0g.mk (b:Int × (List Int) × Int × Int):R:=(⟨.one,[iL b.1]⟩,⟨(.box false),[.d .fro (.sl (.int .u8)) b.2.1,iL b.2.2.1,.d .fro (.int .u64) b.2.2.2],true,false,false,0,0⟩::[])
def xs0g.un (r:R):Int × (List Int) × Int × Int:=((leafR r 0).dat (.int .i64),(leafF r 0 0).dat (.sl (.int .u8)),(leafF r 0 1).dat (.int .i64),(leafF r 0 2).dat (.int .u64))
def xs0g (v0:List Int) (v1:Int) (v2:Int):Option (Int × (List Int) × Int × Int):=tOf xs0g.mk (vlim E 93 (xs0g.c v0 v1 v2))
def xs0n.c (v0:List Int) (v1:Int) (v2:Int) (v3:Int):List Cell:=⟨(.box false),[.d .fro (.sl (.int .u8)) v0,iL v1,.d .fro (.int .u64) v2],true,false,false,0,0⟩::vc (iL v3)::[]
def xs0n.mk (b:Bool × (List Int) × Int × Int):R:=(⟨.one,[bL b.1]⟩,⟨(.box false),[.d .fro (.sl (.int .u8)) b.2.1,iL b.2.2.1,.d .fro (.int .u64) b.2.2.2],true,false,false,0,0⟩::nn 1 ([]))
def xs0n.un (r:R):Bool × (List Int) × Int × Int:=((leafR r 0).dat .bool,(leafF r 0 0).dat (.sl (.int .u8)),(leafF r 0 1).dat (.int .i64),(leafF r 0 2).dat (.int .u64))
def xs0n (v0:List Int) (v1:Int) (v2:Int) (v3:Int):Option (Bool × (List Int) × Int × Int):=tOf xs0n.mk (vlim E 73 (xs0n.c v0 v1 v2 v3))
def xs0f.c (v0:List Int) (v1:Int) (v2:Int) (v3:List Int):List Cell:=⟨(.box false),[.d .fro (.sl (.int .u8)) v0,iL v1,.d .fro (.int .u64) v2],true,false,false,0,0⟩::vc (.d .fro (.sl (.int .i64)) v3)::[]
def xs0f.mk (b:Int × (List Int) × Int × Int):R:=(⟨.one,[iL b.1]⟩,⟨(.box false),[.d .fro (.sl (.int .u8)) b.2.1,iL b.2.2.1,.d .fro (.int .u64) b.2.2.2],true,false,false,0,0⟩::nn 1 ([]))
def xs0f.un (r:R):Int × (List Int) × Int × Int:=((leafR r 0).dat (.int .i64),(leafF r 0 0).dat (.sl (.int .u8)),(leafF r 0 1).dat (.int .i64),(leafF r 0 2).dat (.int .u64))
def xs0f (v0:List Int) (v1:Int) (v2:Int) (v3:List Int):Option (Int × (List Int) × Int × Int):=tOf xs0f.mk (vlim E 89 (xs0f.c v0 v1 v2 v3))
def xs0c.c (v0:List Int) (v1:Int) (v2:Int) (v3:Int):List Cell:=⟨(.box false),[.d .fro (.sl (.int .u8)) v0,iL v1,.d .fro (.int .u64) v2],true,false,false,0,0⟩::vc (iL v3)::[]
def xs0c.mk (b:(List (Int × Int × Int × Int)) × (List Int) × Int × Int):R:=(⟨.one,[.d .deep Ya b.1]⟩,⟨(.box false),[.d .fro (.sl (.int .u8)) b.2.1,iL b.2.2.1,.d .fro (.int .u64) b.2.2.2],true,false,false,0,0⟩::nn 1 ([]))
def xs0c.un (r:R):(List (Int × Int × Int × Int)) × (List Int) × Int × Int:=((leafR r 0).dat Ya,(leafF r 0 0).dat (.sl (.int .u8)),(leafF r 0 1).dat (.int .i64),(leafF r 0 2).dat (.int .u64))
def xs0c (v0:List Int) (v1:Int) (v2:Int) (v3:Int):Option ((List (Int × Int × Int × Int)) × (List Int) × Int × Int):=tOf xs0c.mk (vlim E 65 (xs0c.c v0 v1 v2 v3))
def xi15.c (v0:List Int) (v1:List (Int × Int × Int × Int)):List Cell:=vc (.d .fro (.sl (.int .i64)) v0)::vc (.d .fro Ya v1)::[]
def xi15.mk (b:(List (Int × Int × Bool)) × (List (List Int × List Int × Bool)) × (List Bool) × Bool):R:=(⟨(.tup [some 2,none,none]),[.d .deep Yc b.1,.d .deep Yb b.2.1,.d .deep (.sl .bool) b.2.2.1,bL b.2.2.2]⟩,nn 2 ([]))
def xi15.un (r:R):(List (Int × Int × Bool)) × (List (List Int × List Int × Bool)) × (List Bool) × Bool:=((leafR r 0).dat Yc,(leafR r 1).dat Yb,(leafR r 2).dat (.sl .bool),(leafR r 3).dat .bool)
def xi15 (v0:List Int) (v1:List (Int × Int × Int × Int)):Option ((List (Int × Int × Bool)) × (List (List Int × List Int × Bool)) × (List Bool) × Bool):=tOf xi15.mk (vlim E 22 (xi15.c v0 v1))
def xi1b.c (v0:List Int):List Cell:=vc (.d .fro (.sl (.int .i64)) v0)::[]
def xi1b.mk (b:(List (Int × Int × Bool)) × (List (List Int × List Int × Bool)) × Bool):R:=(⟨(.tup [some 2,none]),[.d .deep Yc b.1,.d .deep Yb b.2.1,bL b.2.2]⟩,nn 1 ([]))
def xi1b.un (r:R):(List (Int × Int × Bool)) × (List (List Int × List Int × Bool)) × Bool:=((leafR r 0).dat Yc,(leafR r 1).dat Yb,(leafR r 2).dat .bool)
def xi1b (v0:List Int):Option ((List (Int × Int × Bool)) × (List (List Int × List Int × Bool)) × Bool):=tOf xi1b.mk (vlim E 62 (xi1b.c v0))
def xi1f.c (v0:Int) (v1:Int) (v2:Int):List Cell:=vc (iL v0)::vc (iL v1)::vc (iL v2)::[]
def xi1f.mk (b:Bool):R:=(⟨.one,[bL b]⟩,nn 3 ([]))
def xi1f.un (r:R):Bool:=((leafR r 0).dat .bool)
def xi1f (v0:Int) (v1:Int) (v2:Int):Option (Bool):=tOf xi1f.mk (vlim E 68 (xi1f.c v0 v1 v2))
def xi1d.c (v0:List Int):List Cell:=vc (.d .fro (.sl (.int .i64)) v0)::[]
def xi1d.mk (b:(List (Int × Int × Bool)) × (List (List Int × List Int × Bool))):R:=(⟨.agg,[.d .deep Yc b.1,.d .deep Yb b.2]⟩,nn 1 ([]))
def xi1d.un (r:R):(List (Int × Int × Bool)) × (List (List Int × List Int × Bool)):=((leafR r 0).dat Yc,(leafR r 1).dat Yb)
def xi1d (v0:List Int):Option ((List (Int × Int × Bool)) × (List (List Int × List Int × Bool))):=tOf xi1d.mk (vlim E 88 (xi1d.c v0))
def xi14.c (v0:List (Int × Int × Bool)) (v1:List (List Int × List Int × Bool)):List Cell:=ac [.d .fro Yc v0,.d .fro Yb v1]::[]
def xi14.mk (b:Bool):R:=(⟨.one,[bL b]⟩,nn 1 ([]))
def xi14.un (r:R):Bool:=((leafR r 0).dat .bool)
def xi14 (v0:List (Int × Int × Bool)) (v1:List (List Int × List Int × Bool)):Option (Bool):=tOf xi14.mk (vlim E 34 (xi14.c v0 v1))
def xi0v.c (v0:List Int) (v1:List Int) (v2:Bool) (v3:Int) (v4:Int) (v5:Bool):List Cell:=ac [.d .fro (.sl (.int .i64)) v0,.d .fro (.sl (.int .i64)) v1,bL v2]::ac [iL v3,iL v4,bL v5]::[]
def xi0v.mk (b:Bool):R:=(⟨.one,[bL b]⟩,nn 2 ([]))
def xi0v.un (r:R):Bool:=((leafR r 0).dat .bool)
def xi0v (v0:List Int) (v1:List Int) (v2:Bool) (v3:Int) (v4:Int) (v5:Bool):Option (Bool):=tOf xi0v.mk (vlim E 69 (xi0v.c v0 v1 v2 v3 v4 v5))
def xi09.c (v0:List Int):List Cell:=vc (.d .fro (.sl (.int .i64)) v0)::vc (.fn 91 [])::[]
def xi09.mk (b:Bool):R:=(⟨.one,[bL b]⟩,nn 2 ([]))
def xi09.un (r:R):Bool:=((leafR r 0).dat .bool)
def xi09 (v0:List Int):Option (Bool):=tOf xi09.mk (vlim E 90 (xi09.c v0))
def xs00.c (v0:List Int):List Cell:=vc (.d .fro (.sl (.int .i64)) v0)::vc (.fn 99 [.rp [.fn 91 []] 0])::[]
def xs00.mk (b:Bool):R:=(⟨.one,[bL b]⟩,nn 2 ([]))
def xs00.un (r:R):Bool:=((leafR r 0).dat .bool)
def xs00 (v0:List Int):Option (Bool):=tOf xs00.mk (vlim E 98 (xs00.c v0))
def xs02.c (v0:List Int):List Cell:=vc (.d .fro (.sl (.int .i64)) v0)::vc (.fn 99 [.rp [.fn 91 []] 0])::[]
def xs02.mk (b:Int):R:=(⟨.one,[iL b]⟩,nn 2 ([]))
def xs02.un (r:R):Int:=((leafR r 0).dat (.int .i64))
def xs02 (v0:List Int):Option (Int):=tOf xs02.mk (vlim E 101 (xs02.c v0))
def xi07.c (v0:Int):List Cell:=vc (iL v0)::vc (.rp [.fn 91 []] 0)::[]
def xi07.mk (b:Bool):R:=(⟨.one,[bL b]⟩,nn 2 ([]))
def xi07.un (r:R):Bool:=((leafR r 0).dat .bool)
def xi07 (v0:Int):Option (Bool):=tOf xi07.mk (vlim E 99 (xi07.c v0))
def xi0m.c (v0:Int):List Cell:=vc (iL v0)::[]
def xi0m.mk (b:Bool):R:=(⟨.one,[bL b]⟩,nn 1 ([]))
def xi0m.un (r:R):Bool:=((leafR r 0).dat .bool)
def xi0m (v0:Int):Option (Bool):=tOf xi0m.mk (vlim E 91 (xi0m.c v0))
def xi0s.c (v0:Int):List Cell:=vc (iL v0)::[]
def xi0s.mk (b:Bool):R:=(⟨.one,[bL b]⟩,nn 1 ([]))
def xi0s.un (r:R):Bool:=((leafR r 0).dat .bool)
def xi0s (v0:Int):Option (Bool):=tOf xi0s.mk (vlim E 92 (xi0s.c v0))
def xi0a.c (v0:List Int):List Cell:=vc (.d .fro (.sl (.int .i64)) v0)::vc (.fn 92 [])::[]
def xi0a.mk (b:Bool):R:=(⟨.one,[bL b]⟩,nn 2 ([]))
def xi0a.un (r:R):Bool:=((leafR r 0).dat .bool)
def xi0a (v0:List Int):Option (Bool):=tOf xi0a.mk (vlim E 90 (xi0a.c v0))
def xs01.c (v0:List Int):List Cell:=vc (.d .fro (.sl (.int .i64)) v0)::vc (.fn 99 [.rp [.fn 92 []] 0])::[]
def xs01.mk (b:Bool):R:=(⟨.one,[bL b]⟩,nn 2 ([]))
def xs01.un (r:R):Bool:=((leafR r 0).dat .bool)
def xs01 (v0:List Int):Option (Bool):=tOf xs01.mk (vlim E 98 (xs01.c v0))
def xs03.c (v0:List Int):List Cell:=vc (.d .fro (.sl (.int .i64)) v0)::vc (.fn 99 [.rp [.fn 92 []] 0])::[]
def xs03.mk (b:Int):R:=(⟨.one,[iL b]⟩,nn 2 ([]))
def xs03.un (r:R):Int:=((leafR r 0).dat (.int .i64))
def xs03 (v0:List Int):Option (Int):=tOf xs03.mk (vlim E 101 (xs03.c v0))
def xi08.c (v0:Int):List Cell:=vc (iL v0)::vc (.rp [.fn 92 []] 0)::[]
def xi08.mk (b:Bool):R:=(⟨.one,[bL b]⟩,nn 2 ([]))
def xi08.un (r:R):Bool:=((leafR r 0).dat .bool)
def xi08 (v0:Int):Option (Bool):=tOf xi08.mk (vlim E 99 (xi08.c v0))
def xi0u.c (v0:List Int) (v1:List Int) (v2:Bool):List Cell:=ac [.d .fro (.sl (.int .i64)) v0,.d .fro (.sl (.int .i64)) v1,bL v2]::[]
def xi0u.mk (b:Bool):R:=(⟨.one,[bL b]⟩,nn 1 ([]))
def xi0u.un (r:R):Bool:=((leafR r 0).dat .bool)
def xi0u (v0:List Int) (v1:List Int) (v2:Bool):Option (Bool):=tOf xi0u.mk (vlim E 70 (xi0u.c v0 v1 v2))
def xi1h.c (v0:List Int):List Cell:=vc (.d .fro (.sl (.int .i64)) v0)::[]
def xi1h.mk (b:Int):R:=(⟨.one,[iL b]⟩,nn 1 ([]))
def xi1h.un (r:R):Int:=((leafR r 0).dat (.int .i64))
def xi1h (v0:List Int):Option (Int):=tOf xi1h.mk (vlim E 67 (xi1h.c v0))
def xi0r.c (v0:List (Int × Int × Bool)) (v1:List (List Int × List Int × Bool)) (v2:Int) (v3:Int) (v4:Int) (v5:Int):List Cell:=ac [.d .fro Yc v0,.d .fro Yb v1]::ac [iL v2,iL v3,iL v4,iL v5]::[]
def xi0r.mk (b:(List (Int × Int × Bool)) × (List (List Int × List Int × Bool)) × Bool):R:=(⟨(.tup [some 2,none]),[.d .deep Yc b.1,.d .deep Yb b.2.1,bL b.2.2]⟩,nn 2 ([]))
def xi0r.un (r:R):(List (Int × Int × Bool)) × (List (List Int × List Int × Bool)) × Bool:=((leafR r 0).dat Yc,(leafR r 1).dat Yb,(leafR r 2).dat .bool)
def xi0r (v0:List (Int × Int × Bool)) (v1:List (List Int × List Int × Bool)) (v2:Int) (v3:Int) (v4:Int) (v5:Int):Option ((List (Int × Int × Bool)) × (List (List Int × List Int × Bool)) × Bool):=tOf xi0r.mk (vlim E 48 (xi0r.c v0 v1 v2 v3 v4 v5))
def xi16.c (v0:List (Int × Int × Bool)) (v1:List (List Int × List Int × Bool)):List Cell:=ac [.d .fro Yc v0,.d .fro Yb v1]::[]
def xi16.mk (b:(List (Int × Int × Bool)) × (List (List Int × List Int × Bool))):R:=(⟨.agg,[.d .deep Yc b.1,.d .deep Yb b.2]⟩,nn 1 ([]))
def xi16.un (r:R):(List (Int × Int × Bool)) × (List (List Int × List Int × Bool)):=((leafR r 0).dat Yc,(leafR r 1).dat Yb)
def xi16 (v0:List (Int × Int × Bool)) (v1:List (List Int × List Int × Bool)):Option ((List (Int × Int × Bool)) × (List (List Int × List Int × Bool))):=tOf xi16.mk (vlim E 57 (xi16.c v0 v1))
def xs0b.c (v0:List (Int × Int × Bool)):List Cell:=vc (.d .fro Yc v0)::[]
def xs0b.mk (b:(List (Int × Int × Bool))):R:=(⟨.one,[.d .deep Yc b]⟩,nn 1 ([]))
def xs0b.un (r:R):(List (Int × Int × Bool)):=((leafR r 0).dat Yc)
def xs0b (v0:List (Int × Int × Bool)):Option ((List (Int × Int × Bool))):=tOf xs0b.mk (vlim E 86 (xs0b.c v0))
def xs0e.c (v0:List Int):List Cell:=vc (.d .fro (.sl (.int .i64)) v0)::[]
def xs0e.mk (b:(List Int)):R:=(⟨.one,[.d .deep (.sl (.int .i64)) b]⟩,nn 1 ([]))
def xs0e.un (r:R):(List Int):=((leafR r 0).dat (.sl (.int .i64)))
def xs0e (v0:List Int):Option ((List Int)):=tOf xs0e.mk (vlim E 87 (xs0e.c v0))
def xi0k.c (v0:List (Int × Int × Bool)) (v1:List (List Int × List Int × Bool)) (v2:Int) (v3:Int) (v4:Int) (v5:Int):List Cell:=⟨(.val .agg),[.d .deep Yc v0,.d .deep Yb v1],true,false,false,0,0⟩::ac [iL v2,iL v3,iL v4,iL v5]::[]
def xi0k.mk (b:Bool × (List (Int × Int × Bool)) × (List (List Int × List Int × Bool))):R:=(⟨.one,[bL b.1]⟩,⟨(.val .agg),[.d .deep Yc b.2.1,.d .deep Yb b.2.2],true,false,false,0,0⟩::nn 1 ([]))
def xi0k.un (r:R):Bool × (List (Int × Int × Bool)) × (List (List Int × List Int × Bool)):=((leafR r 0).dat .bool,(leafF r 0 0).dat Yc,(leafF r 0 1).dat Yb)
def xi0k (v0:List (Int × Int × Bool)) (v1:List (List Int × List Int × Bool)) (v2:Int) (v3:Int) (v4:Int) (v5:Int):Option (Bool × (List (Int × Int × Bool)) × (List (List Int × List Int × Bool))):=tOf xi0k.mk (vlim E 81 (xi0k.c v0 v1 v2 v3 v4 v5))
def xi0i.c (v0:List (Int × Int × Bool)) (v1:List (List Int × List Int × Bool)) (v2:Int) (v3:Int):List Cell:=⟨(.val .agg),[.d .deep Yc v0,.d .deep Yb v1],true,false,false,0,0⟩::vc (iL v2)::vc (iL v3)::[]
def xi0i.mk (b:Bool × (List (Int × Int × Bool)) × (List (List Int × List Int × Bool))):R:=(⟨.one,[bL b.1]⟩,⟨(.val .agg),[.d .deep Yc b.2.1,.d .deep Yb b.2.2],true,false,false,0,0⟩::nn 2 ([]))
def xi0i.un (r:R):Bool × (List (Int × Int × Bool)) × (List (List Int × List Int × Bool)):=((leafR r 0).dat .bool,(leafF r 0 0).dat Yc,(leafF r 0 1).dat Yb)
def xi0i (v0:List (Int × Int × Bool)) (v1:List (List Int × List Int × Bool)) (v2:Int) (v3:Int):Option (Bool × (List (Int × Int × Bool)) × (List (List Int × List Int × Bool))):=tOf xi0i.mk (vlim E 95 (xi0i.c v0 v1 v2 v3))
def xi0j.c (v0:List (Int × Int × Bool)) (v1:List (List Int × List Int × Bool)) (v2:Int) (v3:Int) (v4:Int) (v5:Int):List Cell:=⟨(.val .agg),[.d .deep Yc v0,.d .deep Yb v1],true,false,false,0,0⟩::ac [iL v2,iL v3,iL v4,iL v5]::[]
def xi0j.mk (b:Bool × (List (Int × Int × Bool)) × (List (List Int × List Int × Bool))):R:=(⟨.one,[bL b.1]⟩,⟨(.val .agg),[.d .deep Yc b.2.1,.d .deep Yb b.2.2],true,false,false,0,0⟩::nn 1 ([]))
def xi0j.un (r:R):Bool × (List (Int × Int × Bool)) × (List (List Int × List Int × Bool)):=((leafR r 0).dat .bool,(leafF r 0 0).dat Yc,(leafF r 0 1).dat Yb)
def xi0j (v0:List (Int × Int × Bool)) (v1:List (List Int × List Int × Bool)) (v2:Int) (v3:Int) (v4:Int) (v5:Int):Option (Bool × (List (Int × Int × Bool)) × (List (List Int × List Int × Bool))):=tOf xi0j.mk (vlim E 96 (xi0j.c v0 v1 v2 v3 v4 v5))
def xi0l.c (v0:List (Int × Int × Bool)) (v1:List (List Int × List Int × Bool)) (v2:Int) (v3:Int):List Cell:=⟨(.val .agg),[.d .deep Yc v0,.d .deep Yb v1],true,false,false,0,0⟩::vc (iL v2)::vc (iL v3)::[]
def xi0l.mk (b:Bool × (List (Int × Int × Bool)) × (List (List Int × List Int × Bool))):R:=(⟨.one,[bL b.1]⟩,⟨(.val .agg),[.d .deep Yc b.2.1,.d .deep Yb b.2.2],true,false,false,0,0⟩::nn 2 ([]))
def xi0l.un (r:R):Bool × (List (Int × Int × Bool)) × (List (List Int × List Int × Bool)):=((leafR r 0).dat .bool,(leafF r 0 0).dat Yc,(leafF r 0 1).dat Yb)
def xi0l (v0:List (Int × Int × Bool)) (v1:List (List Int × List Int × Bool)) (v2:Int) (v3:Int):Option (Bool × (List (Int × Int × Bool)) × (List (List Int × List Int × Bool))):=tOf xi0l.mk (vlim E 97 (xi0l.c v0 v1 v2 v3))
def xs19.c (v0:List Int) (v1:List (Int × Int × Int × Int)):List Cell:=vc (.d .fro (.sl (.int .i64)) v0)::vc (.d .fro Ya v1)::[]
def xs19.mk (b:(List (Int × Int × Bool)) × (List (List Int × List Int × Bool)) × (List Bool) × Bool):R:=(⟨(.tup [some 2,none,none]),[.d .deep Yc b.1,.d .deep Yb b.2.1,.d .deep (.sl .bool) b.2.2.1,bL b.2.2.2]⟩,nn 2 ([]))
def xs19.un (r:R):(List (Int × Int × Bool)) × (List (List Int × List Int × Bool)) × (List Bool) × Bool:=((leafR r 0).dat Yc,(leafR r 1).dat Yb,(leafR r 2).dat (.sl .bool),(leafR r 3).dat .bool)
def xs19 (v0:List Int) (v1:List (Int × Int × Int × Int)):Option ((List (Int × Int × Bool)) × (List (List Int × List Int × Bool)) × (List Bool) × Bool):=tOf xs19.mk (vlim E 19 (xs19.c v0 v1))
def xs1e.c (v0:List Int):List Cell:=vc (.d .fro (.sl (.int .i64)) v0)::[]
def xs1e.mk (b:(List (Int × Int × Bool)) × (List (List Int × List Int × Bool)) × Bool):R:=(⟨(.tup [some 2,none]),[.d .deep Yc b.1,.d .deep Yb b.2.1,bL b.2.2]⟩,nn 1 ([]))
def xs1e.un (r:R):(List (Int × Int × Bool)) × (List (List Int × List Int × Bool)) × Bool:=((leafR r 0).dat Yc,(leafR r 1).dat Yb,(leafR r 2).dat .bool)
def xs1e (v0:List Int):Option ((List (Int × Int × Bool)) × (List (List Int × List Int × Bool)) × Bool):=tOf xs1e.mk (vlim E 61 (xs1e.c v0))
def xs18.c (v0:List (Int × Int × Bool)) (v1:List (List Int × List Int × Bool)):List Cell:=ac [.d .fro Yc v0,.d .fro Yb v1]::[]
def xs18.mk (b:Bool):R:=(⟨.one,[bL b]⟩,nn 1 ([]))
def xs18.un (r:R):Bool:=((leafR r 0).dat .bool)
def xs18 (v0:List (Int × Int × Bool)) (v1:List (List Int × List Int × Bool)):Option (Bool):=tOf xs18.mk (vlim E 43 (xs18.c v0 v1))
def xs1i.c (v0:Int) (v1:Int) (v2:Int):List Cell:=vc (iL v0)::vc (iL v1)::vc (iL v2)::[]
def xs1i.mk (b:Bool):R:=(⟨.one,[bL b]⟩,nn 3 ([]))
def xs1i.un (r:R):Bool:=((leafR r 0).dat .bool)
def xs1i (v0:Int) (v1:Int) (v2:Int):Option (Bool):=tOf xs1i.mk (vlim E 76 (xs1i.c v0 v1 v2))
def xs13.c (v0:Int):List Cell:=vc (iL v0)::[]
def xs13.mk (b:Bool):R:=(⟨.one,[bL b]⟩,nn 1 ([]))
def xs13.un (r:R):Bool:=((leafR r 0).dat .bool)
def xs13 (v0:Int):Option (Bool):=tOf xs13.mk (vlim E 77 (xs13.c v0))
def xs1a.c (v0:List (Int × Int × Bool)) (v1:List (List Int × List Int × Bool)) (v2:Int) (v3:Int) (v4:Int) (v5:Int):List Cell:=ac [.d .fro Yc v0,.d .fro Yb v1]::ac [iL v2,iL v3,iL v4,iL v5]::[]
def xs1a.mk (b:(List (Int × Int × Bool)) × (List (List Int × List Int × Bool)) × Bool):R:=(⟨(.tup [some 2,none]),[.d .deep Yc b.1,.d .deep Yb b.2.1,bL b.2.2]⟩,nn 2 ([]))
def xs1a.un (r:R):(List (Int × Int × Bool)) × (List (List Int × List Int × Bool)) × Bool:=((leafR r 0).dat Yc,(leafR r 1).dat Yb,(leafR r 2).dat .bool)
def xs1a (v0:List (Int × Int × Bool)) (v1:List (List Int × List Int × Bool)) (v2:Int) (v3:Int) (v4:Int) (v5:Int):Option ((List (Int × Int × Bool)) × (List (List Int × List Int × Bool)) × Bool):=tOf xs1a.mk (vlim E 9 (xs1a.c v0 v1 v2 v3 v4 v5))
def xs1g.c (v0:List (Int × Int × Bool)) (v1:List (List Int × List Int × Bool)):List Cell:=ac [.d .fro Yc v0,.d .fro Yb v1]::[]
def xs1g.mk (b:(List (Int × Int × Bool)) × (List (List Int × List Int × Bool))):R:=(⟨.agg,[.d .deep Yc b.1,.d .deep Yb b.2]⟩,nn 1 ([]))
def xs1g.un (r:R):(List (Int × Int × Bool)) × (List (List Int × List Int × Bool)):=((leafR r 0).dat Yc,(leafR r 1).dat Yb)
def xs1g (v0:List (Int × Int × Bool)) (v1:List (List Int × List Int × Bool)):Option ((List (Int × Int × Bool)) × (List (List Int × List Int × Bool))):=tOf xs1g.mk (vlim E 45 (xs1g.c v0 v1))
def xs0x.c (v0:List (Int × Int × Bool)) (v1:List (List Int × List Int × Bool)) (v2:Int) (v3:Int) (v4:Int) (v5:Int):List Cell:=ac [.d .deep Yc v0,.d .deep Yb v1]::ac [iL v2,iL v3,iL v4,iL v5]::[]
def xs0x.mk (b:(List (Int × Int × Bool)) × (List (List Int × List Int × Bool)) × Bool):R:=(⟨(.tup [some 2,none]),[.d .deep Yc b.1,.d .deep Yb b.2.1,bL b.2.2]⟩,nn 2 ([]))
def xs0x.un (r:R):(List (Int × Int × Bool)) × (List (List Int × List Int × Bool)) × Bool:=((leafR r 0).dat Yc,(leafR r 1).dat Yb,(leafR r 2).dat .bool)
def xs0x (v0:List (Int × Int × Bool)) (v1:List (List Int × List Int × Bool)) (v2:Int) (v3:Int) (v4:Int) (v5:Int):Option ((List (Int × Int × Bool)) × (List (List Int × List Int × Bool)) × Bool):=tOf xs0x.mk (vlim E 44 (xs0x.c v0 v1 v2 v3 v4 v5))
def xs0w.c (v0:List (Int × Int × Bool)) (v1:List (List Int × List Int × Bool)) (v2:Int) (v3:Int):List Cell:=ac [.d .deep Yc v0,.d .deep Yb v1]::vc (iL v2)::vc (iL v3)::[]
def xs0w.mk (b:(List (Int × Int × Bool)) × (List (List Int × List Int × Bool)) × Bool):R:=(⟨(.tup [some 2,none]),[.d .deep Yc b.1,.d .deep Yb b.2.1,bL b.2.2]⟩,nn 3 ([]))
def xs0w.un (r:R):(List (Int × Int × Bool)) × (List (List Int × List Int × Bool)) × Bool:=((leafR r 0).dat Yc,(leafR r 1).dat Yb,(leafR r 2).dat .bool)
def xs0w (v0:List (Int × Int × Bool)) (v1:List (List Int × List Int × Bool)) (v2:Int) (v3:Int):Option ((List (Int × Int × Bool)) × (List (List Int × List Int × Bool)) × Bool):=tOf xs0w.mk (vlim E 78 (xs0w.c v0 v1 v2 v3))
def xl11.c (v0:List Bool) (v1:List Bool):List Cell:=vc (.d .fro (.sl .bool) v0)::vc (.d .fro (.sl .bool) v1)::[]
def xl11.mk (b:Bool):R:=(⟨.one,[bL b]⟩,nn 2 ([]))
def xl11.un (r:R):Bool:=((leafR r 0).dat .bool)
def xl11 (v0:List Bool) (v1:List Bool):Option (Bool):=tOf xl11.mk (vlim E 31 (xl11.c v0 v1))
def xl12.c (v0:List (Int × Int × Bool)) (v1:List (List Int × List Int × Bool)) (v2:List (Int × Int × Bool)) (v3:List (List Int × List Int × Bool)):List Cell:=ac [.d .fro Yc v0,.d .fro Yb v1]::ac [.d .fro Yc v2,.d .fro Yb v3]::[]
def xl12.mk (b:Bool):R:=(⟨.one,[bL b]⟩,nn 2 ([]))
def xl12.un (r:R):Bool:=((leafR r 0).dat .bool)
def xl12 (v0:List (Int × Int × Bool)) (v1:List (List Int × List Int × Bool)) (v2:List (Int × Int × Bool)) (v3:List (List Int × List Int × Bool)):Option (Bool):=tOf xl12.mk (vlim E 32 (xl12.c v0 v1 v2 v3))
def xl17.c (v0:List Int) (v1:List Int):List Cell:=vc (.d .fro (.sl (.int .i64)) v0)::vc (.d .fro (.sl (.int .i64)) v1)::[]
def xl17.mk (b:Bool):R:=(⟨.one,[bL b]⟩,nn 2 ([]))
def xl17.un (r:R):Bool:=((leafR r 0).dat .bool)
def xl17 (v0:List Int) (v1:List Int):Option (Bool):=tOf xl17.mk (vlim E 66 (xl17.c v0 v1))
def xi1c.c (v0:List (Int × Int × Bool)) (v1:List (List Int × List Int × Bool)):List Cell:=ac [.d .fro Yc v0,.d .fro Yb v1]::[]
def xi1c.mk (b:Int × Bool):R:=(⟨(.tup [none,none]),[iL b.1,bL b.2]⟩,nn 1 ([]))
def xi1c.un (r:R):Int × Bool:=((leafR r 0).dat (.int .i64),(leafR r 1).dat .bool)
def xi1c (v0:List (Int × Int × Bool)) (v1:List (List Int × List Int × Bool)):Option (Int × Bool):=tOf xi1c.mk (vlim E 33 (xi1c.c v0 v1))
def xi10.c (v0:List (Int × Int × Bool)) (v1:List (List Int × List Int × Bool)):List Cell:=ac [.d .fro Yc v0,.d .fro Yb v1]::[]
def xi10.mk (b:Int × Bool):R:=(⟨(.tup [none,none]),[iL b.1,bL b.2]⟩,nn 1 ([]))
def xi10.un (r:R):Int × Bool:=((leafR r 0).dat (.int .i64),(leafR r 1).dat .bool)
def xi10 (v0:List (Int × Int × Bool)) (v1:List (List Int × List Int × Bool)):Option (Int × Bool):=tOf xi10.mk (vlim E 35 (xi10.c v0 v1))
def xi0q.c (v0:List (Int × Int × Bool)) (v1:List (List Int × List Int × Bool)):List Cell:=ac [.d .fro Yc v0,.d .fro Yb v1]::[]
def xi0q.mk (b:Int × Bool):R:=(⟨(.tup [none,none]),[iL b.1,bL b.2]⟩,nn 1 ([]))
def xi0q.un (r:R):Int × Bool:=((leafR r 0).dat (.int .i64),(leafR r 1).dat .bool)
def xi0q (v0:List (Int × Int × Bool)) (v1:List (List Int × List Int × Bool)):Option (Int × Bool):=tOf xi0q.mk (vlim E 60 (xi0q.c v0 v1))
def xi0y.c (v0:List (Int × Int × Bool)) (v1:List (List Int × List Int × Bool)):List Cell:=ac [.d .fro Yc v0,.d .fro Yb v1]::[]
def xi0y.mk (b:(List (Int × Int × Bool)) × (List (List Int × List Int × Bool)) × Int × Bool):R:=(⟨(.tup [some 2,none,none]),[.d .deep Yc b.1,.d .deep Yb b.2.1,iL b.2.2.1,bL b.2.2.2]⟩,nn 1 ([]))
def xi0y.un (r:R):(List (Int × Int × Bool)) × (List (List Int × List Int × Bool)) × Int × Bool:=((leafR r 0).dat Yc,(leafR r 1).dat Yb,(leafR r 2).dat (.int .i64),(leafR r 3).dat .bool)
def xi0y (v0:List (Int × Int × Bool)) (v1:List (List Int × List Int × Bool)):Option ((List (Int × Int × Bool)) × (List (List Int × List Int × Bool)) × Int × Bool):=tOf xi0y.mk (vlim E 17 (xi0y.c v0 v1))
def xs04.c (v0:List (Int × Int × Bool)):List Cell:=vc (.d .fro Yc v0)::vc (.fn 56 [])::[]
def xs04.mk (b:Bool):R:=(⟨.one,[bL b]⟩,nn 2 ([]))
def xs04.un (r:R):Bool:=((leafR r 0).dat .bool)
def xs04 (v0:List (Int × Int × Bool)):Option (Bool):=tOf xs04.mk (vlim E 55 (xs04.c v0))
def xs05.c (v0:List (Int × Int × Bool)):List Cell:=vc (.d .fro Yc v0)::vc (.fn 56 [])::[]
def xs05.mk (b:Int):R:=(⟨.one,[iL b]⟩,nn 2 ([]))
def xs05.un (r:R):Int:=((leafR r 0).dat (.int .i64))
def xs05 (v0:List (Int × Int × Bool)):Option (Int):=tOf xs05.mk (vlim E 85 (xs05.c v0))
def xi0o.c (v0:Int) (v1:Int) (v2:Bool):List Cell:=ac [iL v0,iL v1,bL v2]::[]
def xi0o.mk (b:Bool):R:=(⟨.one,[bL b]⟩,nn 1 ([]))
def xi0o.un (r:R):Bool:=((leafR r 0).dat .bool)
def xi0o (v0:Int) (v1:Int) (v2:Bool):Option (Bool):=tOf xi0o.mk (vlim E 56 (xi0o.c v0 v1 v2))
def xs06.c (v0:List (List Int × List Int × Bool)):List Cell:=vc (.d .fro Yb v0)::vc (.fn 59 [])::[]
def xs06.mk (b:Int):R:=(⟨.one,[iL b]⟩,nn 2 ([]))
def xs06.un (r:R):Int:=((leafR r 0).dat (.int .i64))
def xs06 (v0:List (List Int × List Int × Bool)):Option (Int):=tOf xs06.mk (vlim E 58 (xs06.c v0))
def xi0p.c (v0:List Int) (v1:List Int) (v2:Bool):List Cell:=ac [.d .fro (.sl (.int .i64)) v0,.d .fro (.sl (.int .i64)) v1,bL v2]::[]
def xi0p.mk (b:Bool):R:=(⟨.one,[bL b]⟩,nn 1 ([]))
def xi0p.un (r:R):Bool:=((leafR r 0).dat .bool)
def xi0p (v0:List Int) (v1:List Int) (v2:Bool):Option (Bool):=tOf xi0p.mk (vlim E 59 (xi0p.c v0 v1 v2))
def tabT : List (Nat × List (List Cell × Tb)) := [
 (6,[(xl0z.c [],.one (Bool) xl0z.mk)]),
 (9,[(xs1a.c [] [] 0 0 0 0,.one ((List (Int × Int × Bool)) × (List (List Int × List Int × Bool)) × Bool) xs1a.mk)]),
 (17,[(xi0y.c [] [],.one ((List (Int × Int × Bool)) × (List (List Int × List Int × Bool)) × Int × Bool) xi0y.mk)]),
 (19,[(xs19.c [] [],.one ((List (Int × Int × Bool)) × (List (List Int × List Int × Bool)) × (List Bool) × Bool) xs19.mk)]),
 (22,[(xi15.c [] [],.one ((List (Int × Int × Bool)) × (List (List Int × List Int × Bool)) × (List Bool) × Bool) xi15.mk)]),
 (30,[(xs0t.c [],.one ((List Int) × (List (Int × Int × Int × Int))) xs0t.mk)]),
 (31,[(xl11.c [] [],.one (Bool) xl11.mk)]),
 (32,[(xl12.c [] [] [] [],.one (Bool) xl12.mk)]),
 (33,[(xi1c.c [] [],.one (Int × Bool) xi1c.mk)]),
 (34,[(xi14.c [] [],.one (Bool) xi14.mk)]),
 (35,[(xi10.c [] [],.one (Int × Bool) xi10.mk)]),
 (43,[(xs18.c [] [],.one (Bool) xs18.mk)]),
 (44,[(xs0x.c [] [] 0 0 0 0,.one ((List (Int × Int × Bool)) × (List (List Int × List Int × Bool)) × Bool) xs0x.mk)]),
 (45,[(xs1g.c [] [],.one ((List (Int × Int × Bool)) × (List (List Int × List Int × Bool))) xs1g.mk)]),
 (48,[(xi0r.c [] [] 0 0 0 0,.one ((List (Int × Int × Bool)) × (List (List Int × List Int × Bool)) × Bool) xi0r.mk)]),
 (55,[(xs04.c [],.one (Bool) xs04.mk)]),
 (56,[(xi0o.c 0 0 false,.one (Bool) xi0o.mk)]),
 (57,[(xi16.c [] [],.one ((List (Int × Int × Bool)) × (List (List Int × List Int × Bool))) xi16.mk)]),
 (58,[(xs06.c [],.one (Int) xs06.mk)]),
 (59,[(xi0p.c [] [] false,.one (Bool) xi0p.mk)]),
 (60,[(xi0q.c [] [],.one (Int × Bool) xi0q.mk)]),
 (61,[(xs1e.c [],.one ((List (Int × Int × Bool)) × (List (List Int × List Int × Bool)) × Bool) xs1e.mk)]),
 (62,[(xi1b.c [],.one ((List (Int × Int × Bool)) × (List (List Int × List Int × Bool)) × Bool) xi1b.mk)]),
 (64,[(xs0d.c [] 0 0,.one ((List Int) × (List Int) × Int × Int) xs0d.mk)]),
 (65,[(xs0c.c [] 0 0 0,.one ((List (Int × Int × Int × Int)) × (List Int) × Int × Int) xs0c.mk)]),
 (66,[(xl17.c [] [],.one (Bool) xl17.mk)]),
 (67,[(xi1h.c [],.one (Int) xi1h.mk)]),
 (68,[(xi1f.c 0 0 0,.one (Bool) xi1f.mk)]),
 (69,[(xi0v.c [] [] false 0 0 false,.one (Bool) xi0v.mk)]),
 (70,[(xi0u.c [] [] false,.one (Bool) xi0u.mk)]),
 (72,[(xs0h.c [] 0 0 0,.one (Int × (List Int) × Int × Int) xs0h.mk)]),
 (73,[(xs0n.c [] 0 0 0,.one (Bool × (List Int) × Int × Int) xs0n.mk)]),
 (76,[(xs1i.c 0 0 0,.one (Bool) xs1i.mk)]),
 (77,[(xs13.c 0,.one (Bool) xs13.mk)]),
 (78,[(xs0w.c [] [] 0 0,.one ((List (Int × Int × Bool)) × (List (List Int × List Int × Bool)) × Bool) xs0w.mk)]),
 (81,[(xi0k.c [] [] 0 0 0 0,.one (Bool × (List (Int × Int × Bool)) × (List (List Int × List Int × Bool))) xi0k.mk)]),
 (85,[(xs05.c [],.one (Int) xs05.mk)]),
 (86,[(xs0b.c [],.one ((List (Int × Int × Bool))) xs0b.mk)]),
 (87,[(xs0e.c [],.one ((List Int)) xs0e.mk)]),
 (88,[(xi1d.c [],.one ((List (Int × Int × Bool)) × (List (List Int × List Int × Bool))) xi1d.mk)]),
 (89,[(xs0f.c [] 0 0 [],.one (Int × (List Int) × Int × Int) xs0f.mk)]),
 (90,[(xi09.c [],.one (Bool) xi09.mk),(xi0a.c [],.one (Bool) xi0a.mk)]),
 (91,[(xi0m.c 0,.one (Bool) xi0m.mk)]),
 (92,[(xi0s.c 0,.one (Bool) xi0s.mk)]),
 (93,[(xs0g.c [] 0 0,.one (Int × (List Int) × Int × Int) xs0g.mk)]),
 (95,[(xi0i.c [] [] 0 0,.one (Bool × (List (Int × Int × Bool)) × (List (List Int × List Int × Bool))) xi0i.mk)]),
 (96,[(xi0j.c [] [] 0 0 0 0,.one (Bool × (List (Int × Int × Bool)) × (List (List Int × List Int × Bool))) xi0j.mk)]),
 (97,[(xi0l.c [] [] 0 0,.one (Bool × (List (Int × Int × Bool)) × (List (List Int × List Int × Bool))) xi0l.mk)]),
 (98,[(xs00.c [],.one (Bool) xs00.mk),(xs01.c [],.one (Bool) xs01.mk)]),
 (99,[(xi07.c 0,.one (Bool) xi07.mk),(xi08.c 0,.one (Bool) xi08.mk)]),
 (101,[(xs02.c [],.one (Int) xs02.mk),(xs03.c [],.one (Int) xs03.mk)])]
def tab:FuncId→List Cell→Tb:=fun g cs => match assoc tabT g with | some l => pickT l cs | none => .no
end
end GoV

/- Equations of the program's functions (printed by wip/tools/emit.py). -/
namespace GoV
open Go Go.Proofs
set_option maxRecDepth 100000
noncomputable section

def xl0z.s12 (v0:List Int) (v1:List (Int × Int × Bool)) (v2:List (List Int × List Int × Bool)) (v3:Int) (v4:Int) (v5:Int):List Cell:=nn 3 (vc (.d .deep (.sl (.int .i64)) v0)::nn 1 (⟨(.box false),[.d .deep Yc v1,.d .deep Yb v2],false,false,false,0,0⟩::nn 5 (vc (iL v3)::nn 55 (vc (.lent ⟨3,0,none⟩ none)::vc (iL v4)::vc (iL v5)::nn 67 ([])))))
def xl0z.q12:=fun v0 v1 v2 v3 v4 v5 => loopAtL E (callT E tab) 6 Try.f6 1 [.r,.r,.r,.r,.r,.r,.r,.r,.l,.r,.b] (xl0z.s12 v0 v1 v2 v3 v4 v5)
def xl0z.l12:=fun v0 v1 v2 v3 v4 v5 => tOf xl0z.mk (xl0z.q12 v0 v1 v2 v3 v4 v5)
def xl0z.t {γ:Type} (ret:(Bool)→Option γ) (lp12:(List Int)→(List (Int × Int × Bool))→(List (List Int × List Int × Bool))→Int→Int→Int→Option γ) (v0:List Int):Option γ :=
 bif decide ((↑v0.length:Int) > (1048576:Int)) then
 ret (Bool.true)
 else
 (xs0t (v0)).bind fun (r0:(List Int) × (List (Int × Int × Int × Int))) =>
 (xi15 (r0.fst) (r0.snd)).bind fun (r1:(List (Int × Int × Bool)) × (List (List Int × List Int × Bool)) × (List Bool) × Bool) =>
 (xs19 (r0.fst) (r0.snd)).bind fun (r2:(List (Int × Int × Bool)) × (List (List Int × List Int × Bool)) × (List Bool) × Bool) =>
 bif !r1.snd.snd.snd == r2.snd.snd.snd then
 ret (Bool.false)
 else
 (xl11 (r1.snd.snd.fst) (r2.snd.snd.fst)).bind fun (r3:Bool) =>
 bif !r3 then
 ret (Bool.false)
 else
 (xl12 (r1.fst) (r1.snd.fst) (r2.fst) (r2.snd.fst)).bind fun (r4:Bool) =>
 bif !r4 then
 ret (Bool.false)
 else
 bif !r1.snd.snd.snd then
 ret ((↑r1.snd.snd.fst.length:Int) == (0:Int))
 else
 lp12 (r0.fst) (r1.fst) (r1.snd.fst) ((0:Int)) ((↑r0.fst.length:Int)) ((0:Int))
def xl0z.t12 {γ:Type} (ret:(Bool)→Option γ) (lp12:(List Int)→(List (Int × Int × Bool))→(List (List Int × List Int × Bool))→Int→Int→Int→Option γ) (v0:List Int) (v1:List (Int × Int × Bool)) (v2:List (List Int × List Int × Bool)) (v3:Int) (v4:Int) (v5:Int):Option γ :=
 bif decide (v5<v4) then
 bif decide ((0:Int)≤v5) then
 bif decide (v5.toNat<v0.length) then
 bif decide (v5.toNat<v0.length) then
 lp12 (v0) (v1) (v2) (IntKind.i64.wrap (v3+v0.getD v5.toNat (0:Int))) (v4) (IntKind.i64.wrap (v5+(1:Int)))
 else
 none
 else
 none
 else
 none
 else
 (xi1c (v1) (v2)).bind fun (r5:Int × Bool) =>
 bif !r5.snd then
 ret (Bool.false)
 else
 bif r5.fst != v3 then
 ret (Bool.false)
 else
 (xi14 (v1) (v2)).bind fun (r6:Bool) =>
 bif !r6 then
 ret (Bool.false)
 else
 (xi10 (v1) (v2)).bind fun (r7:Int × Bool) =>
 bif r7.snd then
 bif r7.fst != v3 then
 ret (Bool.false)
 else
 (xi0y (v1) (v2)).bind fun (r8:(List (Int × Int × Bool)) × (List (List Int × List Int × Bool)) × Int × Bool) =>
 bif !r8.snd.snd.snd then
 ret (Bool.true)
 else
 (xi10 (r8.fst) (r8.snd.fst)).bind fun (r9:Int × Bool) =>
 (xi1c (r8.fst) (r8.snd.fst)).bind fun (r10:Int × Bool) =>
 bif r9.snd then
 bif r9.fst == v3 then
 bif r10.snd then
 ret (r10.fst == v3)
 else
 ret (Bool.false)
 else
 ret (Bool.false)
 else
 ret (Bool.false)
 else
 (xi0y (v1) (v2)).bind fun (r11:(List (Int × Int × Bool)) × (List (List Int × List Int × Bool)) × Int × Bool) =>
 bif !r11.snd.snd.snd then
 ret (Bool.true)
 else
 (xi10 (r11.fst) (r11.snd.fst)).bind fun (r12:Int × Bool) =>
 (xi1c (r11.fst) (r11.snd.fst)).bind fun (r13:Int × Bool) =>
 bif r12.snd then
 bif r12.fst == v3 then
 bif r13.snd then
 ret (r13.fst == v3)
 else
 ret (Bool.false)
 else
 ret (Bool.false)
 else
 ret (Bool.false)
theorem xl0z.u:∀ b,xl0z.un (xl0z.mk b)=b:=fun _ => by kernel_rfl
theorem xl0z.eq (v0) {b} (h:xl0z.t some xl0z.l12 v0=some b):xl0z v0=some b:=eqF xl0z.u Try.f6 (callT_le E tab) rfl rfl rfl (xl0z.t (rR xl0z.mk) xl0z.q12 v0) (by kernel_rfl) (by unfold xl0z.t; repeat' first | exact sR | exact sN | exact sL | apply sC | (apply sB; intro _)) h
theorem xl0z.eq12 (v0 v1 v2 v3 v4 v5) {b} (h:xl0z.t12 some xl0z.l12 v0 v1 v2 v3 v4 v5=some b):xl0z.l12 v0 v1 v2 v3 v4 v5=some b:=eqL xl0z.u (xl0z.t12 (rR xl0z.mk) xl0z.q12 v0 v1 v2 v3 v4 v5) (by kernel_rfl) (by unfold xl0z.t12; repeat' first | exact sR | exact sN | exact sL | apply sC | (apply sB; intro _)) h
def xs0t.t {γ:Type} (ret:((List Int) × (List (Int × Int × Int × Int)))→Option γ) (v0:List Int):Option γ :=
 (xs0d (v0) ((0:Int)) ((0:Int))).bind fun (r0:(List Int) × (List Int) × Int × Int) =>
 (xs0c (r0.snd.fst) (r0.snd.snd.fst) (r0.snd.snd.snd) ((↑r0.fst.length:Int))).bind fun (r1:(List (Int × Int × Int × Int)) × (List Int) × Int × Int) =>
 ret (r0.fst,r1.fst)
theorem xs0t.u:∀ b,xs0t.un (xs0t.mk b)=b:=fun _ => by kernel_rfl
theorem xs0t.eq (v0) {b} (h:xs0t.t some v0=some b):xs0t v0=some b:=eqF xs0t.u Try.f30 (callT_le E tab) rfl rfl rfl (xs0t.t (rR xs0t.mk) v0) (by kernel_rfl) (by unfold xs0t.t; repeat' first | exact sR | exact sN | exact sL | apply sC | (apply sB; intro _)) h
def xs0d.s3 (v0:List Int) (v1:Int) (v2:Int) (v3:List Int) (v4:Int):List Cell:=⟨(.box false),[.d .fro (.sl (.int .u8)) v0,iL v1,.d .fro (.int .u64) v2],true,false,false,0,0⟩::nn 2 (vc (.d .deep (.sl (.int .i64)) v3)::vc (iL v4)::nn 20 ([]))
def xs0d.q3:=fun v0 v1 v2 v3 v4 => loopAtL E (callT E tab) 64 Try.f64 1 [.r,.r,.l,.r,.b] (xs0d.s3 v0 v1 v2 v3 v4)
def xs0d.l3:=fun v0 v1 v2 v3 v4 => tOf xs0d.mk (xs0d.q3 v0 v1 v2 v3 v4)
def xs0d.t {γ:Type} (ret:((List Int) × (List Int) × Int × Int)→Option γ) (lp3:(List Int)→Int→Int→(List Int)→Int→Option γ) (v0:List Int) (v1:Int) (v2:Int):Option γ :=
 (xs0h (v0) (v1) (v2) ((3:Int))).bind fun (r0:Int × (List Int) × Int × Int) =>
 lp3 (r0.snd.fst) (r0.snd.snd.fst) (r0.snd.snd.snd) ([]) (IntKind.i64.wrap ((2:Int)+r0.fst))
def xs0d.t3 {γ:Type} (ret:((List Int) × (List Int) × Int × Int)→Option γ) (lp3:(List Int)→Int→Int→(List Int)→Int→Option γ) (v0:List Int) (v1:Int) (v2:Int) (v3:List Int) (v4:Int):Option γ :=
 bif decide (v4 > (0:Int)) then
 (xs0h (v0) (v1) (v2) ((50:Int))).bind fun (r1:Int × (List Int) × Int × Int) =>
 bif decide (v3.length+[r1.fst].length≤(4294967296:Nat)) then
 lp3 (r1.snd.fst) (r1.snd.snd.fst) (r1.snd.snd.snd) (v3 ++ [r1.fst]) (IntKind.i64.wrap (v4 - (1:Int)))
 else
 none
 else
 (xs0n (v0) (v1) (v2) ((20:Int))).bind fun (r2:Bool × (List Int) × Int × Int) =>
 bif r2.fst then
 (xs0f (r2.snd.fst) (r2.snd.snd.fst) (r2.snd.snd.snd) ([(-1:Int),(1000000:Int),(2000000001:Int)])).bind fun (r3:Int × (List Int) × Int × Int) =>
 bif decide (Int.toNat (0:Int)<v3.length) then
 bif decide (Int.toNat (0:Int)<v3.length) then
 ret (v3.set (Int.toNat (0:Int)) r3.fst,r3.snd.fst,r3.snd.snd.fst,r3.snd.snd.snd)
 else
 none
 else
 none
 else
 ret (v3,r2.snd.fst,r2.snd.snd.fst,r2.snd.snd.snd)
theorem xs0d.u:∀ b,xs0d.un (xs0d.mk b)=b:=fun _ => by kernel_rfl
theorem xs0d.eq (v0 v1 v2) {b} (h:xs0d.t some xs0d.l3 v0 v1 v2=some b):xs0d v0 v1 v2=some b:=eqF xs0d.u Try.f64 (callT_le E tab) rfl rfl rfl (xs0d.t (rR xs0d.mk) xs0d.q3 v0 v1 v2) (by kernel_rfl) (by unfold xs0d.t; repeat' first | exact sR | exact sN | exact sL | apply sC | (apply sB; intro _)) h
theorem xs0d.eq3 (v0 v1 v2 v3 v4) {b} (h:xs0d.t3 some xs0d.l3 v0 v1 v2 v3 v4=some b):xs0d.l3 v0 v1 v2 v3 v4=some b:=eqL xs0d.u (xs0d.t3 (rR xs0d.mk) xs0d.q3 v0 v1 v2 v3 v4) (by kernel_rfl) (by unfold xs0d.t3; repeat' first | exact sR | exact sN | exact sL | apply sC | (apply sB; intro _)) h
def xs0h.t {γ:Type} (ret:(Int × (List Int) × Int × Int)→Option γ) (v0:List Int) (v1:Int) (v2:Int) (v3:Int):Option γ :=
 bif decide (v3≤(1:Int)) then
 ret ((0:Int),v0,v1,v2)
 else
 (xs0g (v0) (v1) (v2)).bind fun (r0:Int × (List Int) × Int × Int) =>
 bif decide (v3 > (200:Int)) then
 (xs0g (r0.snd.fst) (r0.snd.snd.fst) (r0.snd.snd.snd)).bind fun (r1:Int × (List Int) × Int × Int) =>
 bif decide (v3≠(0:Int)) then
 ret ((IntKind.i64.wrap (IntKind.i64.wrap (r0.fst * (256:Int))+r1.fst)).tmod v3,r1.snd.fst,r1.snd.snd.fst,r1.snd.snd.snd)
 else
 none
 else
 bif decide (v3≠(0:Int)) then
 ret (r0.fst.tmod v3,r0.snd.fst,r0.snd.snd.fst,r0.snd.snd.snd)
 else
 none
theorem xs0h.u:∀ b,xs0h.un (xs0h.mk b)=b:=fun _ => by kernel_rfl
theorem xs0h.eq (v0 v1 v2 v3) {b} (h:xs0h.t some v0 v1 v2 v3=some b):xs0h v0 v1 v2 v3=some b:=eqF xs0h.u Try.f72 (callT_le E tab) rfl rfl rfl (xs0h.t (rR xs0h.mk) v0 v1 v2 v3) (by kernel_rfl) (by unfold xs0h.t; repeat' first | exact sR | exact sN | exact sL | apply sC | (apply sB; intro _)) h
def xs0g.t {γ:Type} (ret:(Int × (List Int) × Int × Int)→Option γ) (v0:List Int) (v1:Int) (v2:Int):Option γ :=
 bif decide (v1<(↑v0.length:Int)) then
 bif decide ((0:Int)≤v1) then
 bif decide (v1.toNat<v0.length) then
 bif decide (IntKind.i64.wrap (v1+(1:Int))≤(↑v0.length:Int)) then
 ret (IntKind.i64.wrap (v0.getD v1.toNat (0:Int)),v0,IntKind.i64.wrap (v1+(1:Int)),IntKind.u64.wrap   (IntKind.u64.wrap       (IntKind.u64.wrap (v2 * (6364136223846793005:Int))+        IntKind.u64.wrap (IntKind.i64.wrap (v0.getD v1.toNat (0:Int))))+    (1442695040888963407:Int)))
 else
 ret (IntKind.i64.wrap   (IntKind.u64.wrap     (↑(BitVec.ofInt IntKind.u64.bits               ((IntKind.u64.wrap                     (IntKind.u64.wrap                         (IntKind.u64.wrap (v2 * (6364136223846793005:Int))+                          IntKind.u64.wrap (IntKind.i64.wrap (v0.getD v1.toNat (0:Int))))+                      (1442695040888963407:Int))).fdiv                 ((2:Int) ^ Min.min (Int.toNat (40:Int)) IntKind.u64.bits)) &&&             BitVec.ofInt IntKind.u64.bits (255:Int)).toNat:      Int)),v0,IntKind.i64.wrap (v1+(1:Int)),IntKind.u64.wrap   (IntKind.u64.wrap       (IntKind.u64.wrap (v2 * (6364136223846793005:Int))+        IntKind.u64.wrap (IntKind.i64.wrap (v0.getD v1.toNat (0:Int))))+    (1442695040888963407:Int)))
 else
 none
 else
 none
 else
 bif decide (IntKind.i64.wrap (v1+(1:Int))≤(↑v0.length:Int)) then
 ret ((0:Int),v0,IntKind.i64.wrap (v1+(1:Int)),IntKind.u64.wrap   (IntKind.u64.wrap (IntKind.u64.wrap (v2 * (6364136223846793005:Int))+IntKind.u64.wrap (0:Int))+    (1442695040888963407:Int)))
 else
 ret (IntKind.i64.wrap   (IntKind.u64.wrap     (↑(BitVec.ofInt IntKind.u64.bits               ((IntKind.u64.wrap                     (IntKind.u64.wrap                         (IntKind.u64.wrap (v2 * (6364136223846793005:Int))+IntKind.u64.wrap (0:Int))+                      (1442695040888963407:Int))).fdiv                 ((2:Int) ^ Min.min (Int.toNat (40:Int)) IntKind.u64.bits)) &&&             BitVec.ofInt IntKind.u64.bits (255:Int)).toNat:      Int)),v0,IntKind.i64.wrap (v1+(1:Int)),IntKind.u64.wrap   (IntKind.u64.wrap (IntKind.u64.wrap (v2 * (6364136223846793005:Int))+IntKind.u64.wrap (0:Int))+    (1442695040888963407:Int)))
theorem xs0g.u:∀ b,xs0g.un (xs0g.mk b)=b:=fun _ => by kernel_rfl
theorem xs0g.eq (v0 v1 v2) {b} (h:xs0g.t some v0 v1 v2=some b):xs0g v0 v1 v2=some b:=eqF xs0g.u Try.f93 (callT_le E tab) rfl rfl rfl (xs0g.t (rR xs0g.mk) v0 v1 v2) (by kernel_rfl) (by unfold xs0g.t; repeat' first | exact sR | exact sN | exact sL | apply sC | (apply sB; intro _)) h
def xs0n.t {γ:Type} (ret:(Bool × (List Int) × Int × Int)→Option γ) (v0:List Int) (v1:Int) (v2:Int) (v3:Int):Option γ :=
 (xs0h (v0) (v1) (v2) (v3)).bind fun (r0:Int × (List Int) × Int × Int) =>
 ret (r0.fst == (0:Int),r0.snd.fst,r0.snd.snd.fst,r0.snd.snd.snd)
theorem xs0n.u:∀ b,xs0n.un (xs0n.mk b)=b:=fun _ => by kernel_rfl
theorem xs0n.eq (v0 v1 v2 v3) {b} (h:xs0n.t some v0 v1 v2 v3=some b):xs0n v0 v1 v2 v3=some b:=eqF xs0n.u Try.f73 (callT_le E tab) rfl rfl rfl (xs0n.t (rR xs0n.mk) v0 v1 v2 v3) (by kernel_rfl) (by unfold xs0n.t; repeat' first | exact sR | exact sN | exact sL | apply sC | (apply sB; intro _)) h
def xs0f.t {γ:Type} (ret:(Int × (List Int) × Int × Int)→Option γ) (v0:List Int) (v1:Int) (v2:Int) (v3:List Int):Option γ :=
 (xs0h (v0) (v1) (v2) ((↑v3.length:Int))).bind fun (r0:Int × (List Int) × Int × Int) =>
 bif decide ((0:Int)≤r0.fst) then
 bif decide (r0.fst.toNat<v3.length) then
 ret (v3.getD r0.fst.toNat (0:Int),r0.snd.fst,r0.snd.snd.fst,r0.snd.snd.snd)
 else
 none
 else
 none
theorem xs0f.u:∀ b,xs0f.un (xs0f.mk b)=b:=fun _ => by kernel_rfl
theorem xs0f.eq (v0 v1 v2 v3) {b} (h:xs0f.t some v0 v1 v2 v3=some b):xs0f v0 v1 v2 v3=some b:=eqF xs0f.u Try.f89 (callT_le E tab) rfl rfl rfl (xs0f.t (rR xs0f.mk) v0 v1 v2 v3) (by kernel_rfl) (by unfold xs0f.t; repeat' first | exact sR | exact sN | exact sL | apply sC | (apply sB; intro _)) h
def xs0c.s5 (v0:List Int) (v1:Int) (v2:Int) (v3:Int) (v4:List (Int × Int × Int × Int)) (v5:Int):List Cell:=⟨(.box false),[.d .fro (.sl (.int .u8)) v0,iL v1,.d .fro (.int .u64) v2],true,false,false,0,0⟩::vc (iL v3)::nn 3 (vc (.d .deep Ya v4)::vc (iL v5)::nn 47 ([]))
def xs0c.q5:=fun v0 v1 v2 v3 v4 v5 => loopAtL E (callT E tab) 65 Try.f65 2 [.r,.r,.r,.r,.l,.b] (xs0c.s5 v0 v1 v2 v3 v4 v5)
def xs0c.l5:=fun v0 v1 v2 v3 v4 v5 => tOf xs0c.mk (xs0c.q5 v0 v1 v2 v3 v4 v5)
def xs0c.t {γ:Type} (ret:((List (Int × Int × Int × Int)) × (List Int) × Int × Int)→Option γ) (lp5:(List Int)→Int→Int→Int→(List (Int × Int × Int × Int))→Int→Option γ) (v0:List Int) (v1:Int) (v2:Int) (v3:Int):Option γ :=
 (xs0h (v0) (v1) (v2) ((30:Int))).bind fun (r0:Int × (List Int) × Int × Int) =>
 (xs0n (r0.snd.fst) (r0.snd.snd.fst) (r0.snd.snd.snd) ((12:Int))).bind fun (r1:Bool × (List Int) × Int × Int) =>
 bif r1.fst then
 (xs0h (r1.snd.fst) (r1.snd.snd.fst) (r1.snd.snd.snd) ((32:Int))).bind fun (r2:Int × (List Int) × Int × Int) =>
 lp5 (r2.snd.fst) (r2.snd.snd.fst) (r2.snd.snd.snd) (v3) ([]) (IntKind.i64.wrap ((90:Int)+r2.fst))
 else
 lp5 (r1.snd.fst) (r1.snd.snd.fst) (r1.snd.snd.snd) (v3) ([]) (r0.fst)
def xs0c.t5 {γ:Type} (ret:((List (Int × Int × Int × Int)) × (List Int) × Int × Int)→Option γ) (lp5:(List Int)→Int→Int→Int→(List (Int × Int × Int × Int))→Int→Option γ) (v0:List Int) (v1:Int) (v2:Int) (v3:Int) (v4:List (Int × Int × Int × Int)) (v5:Int):Option γ :=
 bif decide (v5 > (0:Int)) then
 (xs0f (v0) (v1) (v2) ([(1:Int),(1:Int),(2:Int),(2:Int),(2:Int),(2:Int)])).bind fun (r3:Int × (List Int) × Int × Int) =>
 (xs0h (r3.snd.fst) (r3.snd.snd.fst) (r3.snd.snd.snd) (v3)).bind fun (r4:Int × (List Int) × Int × Int) =>
 (xs0h (r4.snd.fst) (r4.snd.snd.fst) (r4.snd.snd.snd) (v3)).bind fun (r5:Int × (List Int) × Int × Int) =>
 (xs0h (r5.snd.fst) (r5.snd.snd.fst) (r5.snd.snd.snd) ((9:Int))).bind fun (r6:Int × (List Int) × Int × Int) =>
 (xs0n (r6.snd.fst) (r6.snd.snd.fst) (r6.snd.snd.snd) ((10:Int))).bind fun (r7:Bool × (List Int) × Int × Int) =>
 bif r7.fst then
 (xs0n (r7.snd.fst) (r7.snd.snd.fst) (r7.snd.snd.snd) ((60:Int))).bind fun (r8:Bool × (List Int) × Int × Int) =>
 bif r8.fst then
 (xs0h (r8.snd.fst) (r8.snd.snd.fst) (r8.snd.snd.snd) ((5:Int))).bind fun (r9:Int × (List Int) × Int × Int) =>
 (xs0h (r9.snd.fst) (r9.snd.snd.fst) (r9.snd.snd.snd) ((7:Int))).bind fun (r10:Int × (List Int) × Int × Int) =>
 (xs0h (r10.snd.fst) (r10.snd.snd.fst) (r10.snd.snd.snd) ((7:Int))).bind fun (r11:Int × (List Int) × Int × Int) =>
 (xs0f (r11.snd.fst) (r11.snd.snd.fst) (r11.snd.snd.snd) ([(0:Int),(1:Int),(1000001:Int)])).bind fun (r12:Int × (List Int) × Int × Int) =>
 bif decide   (v4.length+      [(r9.fst,IntKind.i64.wrap (r10.fst - (1:Int)),IntKind.i64.wrap (r11.fst - (1:Int)),r12.fst)].length≤    (4294967296:Nat)) then
 lp5 (r12.snd.fst) (r12.snd.snd.fst) (r12.snd.snd.snd) (v3) (v4 ++ [(r9.fst,IntKind.i64.wrap (r10.fst - (1:Int)),IntKind.i64.wrap (r11.fst - (1:Int)),r12.fst)]) (IntKind.i64.wrap (v5 - (1:Int)))
 else
 none
 else
 bif decide   (v4.length+[((3:Int),r4.fst,r5.fst,IntKind.i64.wrap ((1:Int)+r6.fst))].length≤(4294967296:Nat)) then
 lp5 (r8.snd.fst) (r8.snd.snd.fst) (r8.snd.snd.snd) (v3) (v4 ++ [((3:Int),r4.fst,r5.fst,IntKind.i64.wrap ((1:Int)+r6.fst))]) (IntKind.i64.wrap (v5 - (1:Int)))
 else
 none
 else
 (xs0n (r7.snd.fst) (r7.snd.snd.fst) (r7.snd.snd.snd) ((60:Int))).bind fun (r13:Bool × (List Int) × Int × Int) =>
 bif r13.fst then
 (xs0h (r13.snd.fst) (r13.snd.snd.fst) (r13.snd.snd.snd) ((5:Int))).bind fun (r14:Int × (List Int) × Int × Int) =>
 (xs0h (r14.snd.fst) (r14.snd.snd.fst) (r14.snd.snd.snd) ((7:Int))).bind fun (r15:Int × (List Int) × Int × Int) =>
 (xs0h (r15.snd.fst) (r15.snd.snd.fst) (r15.snd.snd.snd) ((7:Int))).bind fun (r16:Int × (List Int) × Int × Int) =>
 (xs0f (r16.snd.fst) (r16.snd.snd.fst) (r16.snd.snd.snd) ([(0:Int),(1:Int),(1000001:Int)])).bind fun (r17:Int × (List Int) × Int × Int) =>
 bif decide   (v4.length+      [(r14.fst,IntKind.i64.wrap (r15.fst - (1:Int)),IntKind.i64.wrap (r16.fst - (1:Int)),            r17.fst)].length≤    (4294967296:Nat)) then
 lp5 (r17.snd.fst) (r17.snd.snd.fst) (r17.snd.snd.snd) (v3) (v4 ++ [(r14.fst,IntKind.i64.wrap (r15.fst - (1:Int)),IntKind.i64.wrap (r16.fst - (1:Int)),r17.fst)]) (IntKind.i64.wrap (v5 - (1:Int)))
 else
 none
 else
 bif decide   (v4.length+[(r3.fst,r4.fst,r5.fst,IntKind.i64.wrap ((1:Int)+r6.fst))].length≤(4294967296:Nat)) then
 lp5 (r13.snd.fst) (r13.snd.snd.fst) (r13.snd.snd.snd) (v3) (v4 ++ [(r3.fst,r4.fst,r5.fst,IntKind.i64.wrap ((1:Int)+r6.fst))]) (IntKind.i64.wrap (v5 - (1:Int)))
 else
 none
 else
 ret (v4,v0,v1,v2)
theorem xs0c.u:∀ b,xs0c.un (xs0c.mk b)=b:=fun _ => by kernel_rfl
theorem xs0c.eq (v0 v1 v2 v3) {b} (h:xs0c.t some xs0c.l5 v0 v1 v2 v3=some b):xs0c v0 v1 v2 v3=some b:=eqF xs0c.u Try.f65 (callT_le E tab) rfl rfl rfl (xs0c.t (rR xs0c.mk) xs0c.q5 v0 v1 v2 v3) (by kernel_rfl) (by unfold xs0c.t; repeat' first | exact sR | exact sN | exact sL | apply sC | (apply sB; intro _)) h
theorem xs0c.eq5 (v0 v1 v2 v3 v4 v5) {b} (h:xs0c.t5 some xs0c.l5 v0 v1 v2 v3 v4 v5=some b):xs0c.l5 v0 v1 v2 v3 v4 v5=some b:=eqL xs0c.u (xs0c.t5 (rR xs0c.mk) xs0c.q5 v0 v1 v2 v3 v4 v5) (by kernel_rfl) (by unfold xs0c.t5; repeat' first | exact sR | exact sN | exact sL | apply sC | (apply sB; intro _)) h
def xi15.s6 (v0:List (Int × Int × Bool)) (v1:List (List Int × List Int × Bool)) (v2:List (Int × Int × Bool)) (v3:List (List Int × List Int × Bool)) (v4:List Bool) (v5:List (Int × Int × Int × Int)) (v6:Int) (v7:Int):List Cell:=nn 4 (⟨(.box false),[.d .deep Yc v0,.d .deep Yb v1],false,false,false,0,0⟩::nn 2 (⟨(.box false),[.d .deep Yc v2,.d .deep Yb v3],false,false,false,0,0⟩::nn 1 (vc (.d .deep (.sl .bool) v4)::nn 17 (vc (.d .fro Ya v5)::vc (iL v6)::vc (iL v7)::nn 18 ([])))))
def xi15.q6:=fun v0 v1 v2 v3 v4 v5 v6 v7 => loopAtL E (callT E tab) 22 Try.f22 2 [.r,.r,.r,.r,.l,.r,.b] (xi15.s6 v0 v1 v2 v3 v4 v5 v6 v7)
def xi15.l6:=fun v0 v1 v2 v3 v4 v5 v6 v7 => tOf xi15.mk (xi15.q6 v0 v1 v2 v3 v4 v5 v6 v7)
def xi15.t {γ:Type} (ret:((List (Int × Int × Bool)) × (List (List Int × List Int × Bool)) × (List Bool) × Bool)→Option γ) (lp6:(List (Int × Int × Bool))→(List (List Int × List Int × Bool))→(List (Int × Int × Bool))→(List (List Int × List Int × Bool))→(List Bool)→(List (Int × Int × Int × Int))→Int→Int→Option γ) (v0:List Int) (v1:List (Int × Int × Int × Int)):Option γ :=
 (xi1b (v0)).bind fun (r0:(List (Int × Int × Bool)) × (List (List Int × List Int × Bool)) × Bool) =>
 bif !r0.snd.snd then
 ret ([],[],[],Bool.false)
 else
 bif decide ((↑v1.length:Int) > (120:Int)) then
 ret ([],[],[],Bool.false)
 else
 lp6 ([]) ([]) (r0.fst) (r0.snd.fst) ([]) (v1) ((↑v1.length:Int)) ((0:Int))
def xi15.t6 {γ:Type} (ret:((List (Int × Int × Bool)) × (List (List Int × List Int × Bool)) × (List Bool) × Bool)→Option γ) (lp6:(List (Int × Int × Bool))→(List (List Int × List Int × Bool))→(List (Int × Int × Bool))→(List (List Int × List Int × Bool))→(List Bool)→(List (Int × Int × Int × Int))→Int→Int→Option γ) (v0:List (Int × Int × Bool)) (v1:List (List Int × List Int × Bool)) (v2:List (Int × Int × Bool)) (v3:List (List Int × List Int × Bool)) (v4:List Bool) (v5:List (Int × Int × Int × Int)) (v6:Int) (v7:Int):Option γ :=
 bif decide (v7<v6) then
 bif decide ((0:Int)≤v7) then
 bif decide (v7.toNat<v5.length) then
 (xi0r (v2) (v3) ((v5.getD v7.toNat ((0:Int),(0:Int),(0:Int),(0:Int))).fst) ((v5.getD v7.toNat ((0:Int),(0:Int),(0:Int),(0:Int))).snd.fst) ((v5.getD v7.toNat ((0:Int),(0:Int),(0:Int),(0:Int))).snd.snd.fst) ((v5.getD v7.toNat ((0:Int),(0:Int),(0:Int),(0:Int))).snd.snd.snd)).bind fun (r1:(List (Int × Int × Bool)) × (List (List Int × List Int × Bool)) × Bool) =>
 bif r1.snd.snd then
 bif decide (v4.length+[r1.snd.snd].length≤(4294967296:Nat)) then
 lp6 (v0) (v1) (r1.fst) (r1.snd.fst) (v4 ++ [r1.snd.snd]) (v5) (v6) (IntKind.i64.wrap (v7+(1:Int)))
 else
 none
 else
 bif decide (v4.length+[r1.snd.snd].length≤(4294967296:Nat)) then
 lp6 (v0) (v1) (v2) (v3) (v4 ++ [r1.snd.snd]) (v5) (v6) (IntKind.i64.wrap (v7+(1:Int)))
 else
 none
 else
 none
 else
 none
 else
 ret (v2,v3,v4,Bool.true)
theorem xi15.u:∀ b,xi15.un (xi15.mk b)=b:=fun _ => by kernel_rfl
theorem xi15.eq (v0 v1) {b} (h:xi15.t some xi15.l6 v0 v1=some b):xi15 v0 v1=some b:=eqF xi15.u Try.f22 (callT_le E tab) rfl rfl rfl (xi15.t (rR xi15.mk) xi15.q6 v0 v1) (by kernel_rfl) (by unfold xi15.t; repeat' first | exact sR | exact sN | exact sL | apply sC | (apply sB; intro _)) h
theorem xi15.eq6 (v0 v1 v2 v3 v4 v5 v6 v7) {b} (h:xi15.t6 some xi15.l6 v0 v1 v2 v3 v4 v5 v6 v7=some b):xi15.l6 v0 v1 v2 v3 v4 v5 v6 v7=some b:=eqL xi15.u (xi15.t6 (rR xi15.mk) xi15.q6 v0 v1 v2 v3 v4 v5 v6 v7) (by kernel_rfl) (by unfold xi15.t6; repeat' first | exact sR | exact sN | exact sL | apply sC | (apply sB; intro _)) h
def xi1b.t {γ:Type} (ret:((List (Int × Int × Bool)) × (List (List Int × List Int × Bool)) × Bool)→Option γ) (v0:List Int):Option γ :=
 (xi1f ((↑v0.length:Int)) ((2:Int)) ((4:Int))).bind fun (r0:Bool) =>
 bif !r0 then
 ret ([],[],Bool.false)
 else
 (xi1d (v0)).bind fun (r1:(List (Int × Int × Bool)) × (List (List Int × List Int × Bool))) =>
 (xi14 (r1.fst) (r1.snd)).bind fun (r2:Bool) =>
 bif !r2 then
 ret ([],[],Bool.false)
 else
 ret (r1.fst,r1.snd,Bool.true)
theorem xi1b.u:∀ b,xi1b.un (xi1b.mk b)=b:=fun _ => by kernel_rfl
theorem xi1b.eq (v0) {b} (h:xi1b.t some v0=some b):xi1b v0=some b:=eqF xi1b.u Try.f62 (callT_le E tab) rfl rfl rfl (xi1b.t (rR xi1b.mk) v0) (by kernel_rfl) (by unfold xi1b.t; repeat' first | exact sR | exact sN | exact sL | apply sC | (apply sB; intro _)) h
def xi1f.t {γ:Type} (ret:(Bool)→Option γ) (v0:Int) (v1:Int) (v2:Int):Option γ :=
 bif decide (v1≤v0) then
 ret (decide (v0≤v2))
 else
 ret (Bool.false)
theorem xi1f.u:∀ b,xi1f.un (xi1f.mk b)=b:=fun _ => by kernel_rfl
theorem xi1f.eq (v0 v1 v2) {b} (h:xi1f.t some v0 v1 v2=some b):xi1f v0 v1 v2=some b:=eqF xi1f.u Try.f68 (callT_le E tab) rfl rfl rfl (xi1f.t (rR xi1f.mk) v0 v1 v2) (by kernel_rfl) (by unfold xi1f.t; repeat' first | exact sR | exact sN | exact sL | apply sC | (apply sB; intro _)) h
def xi1d.s3 (v0:List Int) (v1:List (Int × Int × Bool)) (v2:List (List Int × List Int × Bool)) (v3:List (Int × Int × Bool)) (v4:List (List Int × List Int × Bool)) (v5:List Int) (v6:Int) (v7:Int):List Cell:=vc (.d .fro (.sl (.int .i64)) v0)::nn 1 (⟨(.box false),[.d .deep Yc v1,.d .deep Yb v2],false,false,false,0,0⟩::⟨(.box false),[.d .deep Yc v3,.d .deep Yb v4],false,false,false,0,0⟩::nn 2 (vc (.d .fro (.sl (.int .i64)) v5)::vc (iL v6)::vc (iL v7)::nn 19 ([])))
def xi1d.q3:=fun v0 v1 v2 v3 v4 v5 v6 v7 => loopAtL E (callT E tab) 88 Try.f88 1 [.r,.r,.l,.r,.b] (xi1d.s3 v0 v1 v2 v3 v4 v5 v6 v7)
def xi1d.l3:=fun v0 v1 v2 v3 v4 v5 v6 v7 => tOf xi1d.mk (xi1d.q3 v0 v1 v2 v3 v4 v5 v6 v7)
def xi1d.t {γ:Type} (ret:((List (Int × Int × Bool)) × (List (List Int × List Int × Bool)))→Option γ) (lp3:(List Int)→(List (Int × Int × Bool))→(List (List Int × List Int × Bool))→(List (Int × Int × Bool))→(List (List Int × List Int × Bool))→(List Int)→Int→Int→Option γ) (v0:List Int):Option γ :=
 lp3 (v0) ([]) ([]) ([]) ([]) (v0) ((↑v0.length:Int)) ((0:Int))
def xi1d.t3 {γ:Type} (ret:((List (Int × Int × Bool)) × (List (List Int × List Int × Bool)))→Option γ) (lp3:(List Int)→(List (Int × Int × Bool))→(List (List Int × List Int × Bool))→(List (Int × Int × Bool))→(List (List Int × List Int × Bool))→(List Int)→Int→Int→Option γ) (v0:List Int) (v1:List (Int × Int × Bool)) (v2:List (List Int × List Int × Bool)) (v3:List (Int × Int × Bool)) (v4:List (List Int × List Int × Bool)) (v5:List Int) (v6:Int) (v7:Int):Option γ :=
 bif decide (v7<v6) then
 bif decide ((0:Int)≤v7) then
 bif decide (v7.toNat<v5.length) then
 bif decide (v3.length+[(v5.getD v7.toNat (0:Int),(0:Int),Bool.false)].length≤(4294967296:Nat)) then
 lp3 (v0) (v1) (v2) (v3 ++ [(v5.getD v7.toNat (0:Int),(0:Int),Bool.false)]) (v4) (v5) (v6) (IntKind.i64.wrap (v7+(1:Int)))
 else
 none
 else
 none
 else
 none
 else
 bif decide   (IntKind.i64.wrap ((↑v0.length:Int) * (↑v0.length:Int))=    IntKind.i64.wrap ((↑v0.length:Int) * (↑v0.length:Int))) then
 bif decide ((0:Int)≤IntKind.i64.wrap ((↑v0.length:Int) * (↑v0.length:Int))) then
 bif decide   (IntKind.i64.wrap ((↑v0.length:Int) * (↑v0.length:Int)) * (↑((1:Nat)+((1:Nat)+(1:Nat))):Int)≤    (4398046511104:Int)) then
 ret (v3,List.replicate (IntKind.i64.wrap ((↑v0.length:Int) * (↑v0.length:Int))).toNat ([],[],Bool.false))
 else
 none
 else
 none
 else
 none
theorem xi1d.u:∀ b,xi1d.un (xi1d.mk b)=b:=fun _ => by kernel_rfl
theorem xi1d.eq (v0) {b} (h:xi1d.t some xi1d.l3 v0=some b):xi1d v0=some b:=eqF xi1d.u Try.f88 (callT_le E tab) rfl rfl rfl (xi1d.t (rR xi1d.mk) xi1d.q3 v0) (by kernel_rfl) (by unfold xi1d.t; repeat' first | exact sR | exact sN | exact sL | apply sC | (apply sB; intro _)) h
theorem xi1d.eq3 (v0 v1 v2 v3 v4 v5 v6 v7) {b} (h:xi1d.t3 some xi1d.l3 v0 v1 v2 v3 v4 v5 v6 v7=some b):xi1d.l3 v0 v1 v2 v3 v4 v5 v6 v7=some b:=eqL xi1d.u (xi1d.t3 (rR xi1d.mk) xi1d.q3 v0 v1 v2 v3 v4 v5 v6 v7) (by kernel_rfl) (by unfold xi1d.t3; repeat' first | exact sR | exact sN | exact sL | apply sC | (apply sB; intro _)) h
def xi14.s13 (v0:List (Int × Int × Bool)) (v1:List (List Int × List Int × Bool)) (v2:Int) (v3:Int) (v4:List (List Int × List Int × Bool)) (v5:Int) (v6:Int):List Cell:=nn 1 (⟨(.box false),[.d .fro Yc v0,.d .fro Yb v1],false,false,false,0,0⟩::nn 1 (vc (iL v2)::vc (iL v3)::nn 55 (vc (.d .fro Yb v4)::vc (iL v5)::vc (iL v6)::nn 40 ([]))))
def xi14.q13:=fun v0 v1 v2 v3 v4 v5 v6 => loopAtL E (callT E tab) 34 Try.f34 1 [.r,.r,.r,.r,.r,.l,.r,.b] (xi14.s13 v0 v1 v2 v3 v4 v5 v6)
def xi14.l13:=fun v0 v1 v2 v3 v4 v5 v6 => tOf xi14.mk (xi14.q13 v0 v1 v2 v3 v4 v5 v6)
def xi14.s6 (v0:List (Int × Int × Bool)) (v1:List (List Int × List Int × Bool)) (v2:Int) (v3:Int) (v4:List (Int × Int × Bool)) (v5:Int) (v6:Int):List Cell:=nn 1 (⟨(.box false),[.d .fro Yc v0,.d .fro Yb v1],false,false,false,0,0⟩::nn 1 (vc (iL v2)::vc (iL v3)::nn 20 (vc (.d .fro Yc v4)::vc (iL v5)::vc (iL v6)::nn 75 ([]))))
def xi14.q6:=fun v0 v1 v2 v3 v4 v5 v6 => loopAtL E (callT E tab) 34 Try.f34 1 [.r,.r,.r,.r,.l,.r,.b] (xi14.s6 v0 v1 v2 v3 v4 v5 v6)
def xi14.l6:=fun v0 v1 v2 v3 v4 v5 v6 => tOf xi14.mk (xi14.q6 v0 v1 v2 v3 v4 v5 v6)
def xi14.t {γ:Type} (ret:(Bool)→Option γ) (lp6:(List (Int × Int × Bool))→(List (List Int × List Int × Bool))→Int→Int→(List (Int × Int × Bool))→Int→Int→Option γ) (v0:List (Int × Int × Bool)) (v1:List (List Int × List Int × Bool)):Option γ :=
 (xi1f ((↑v0.length:Int)) ((2:Int)) ((4:Int))).bind fun (r0:Bool) =>
 bif !r0 then
 ret (Bool.false)
 else
 bif (↑v1.length:Int) != IntKind.i64.wrap ((↑v0.length:Int) * (↑v0.length:Int)) then
 ret (Bool.false)
 else
 lp6 (v0) (v1) ((↑v0.length:Int)) ((0:Int)) (v0) ((↑v0.length:Int)) ((0:Int))
def xi14.t13 {γ:Type} (ret:(Bool)→Option γ) (lp13:(List (Int × Int × Bool))→(List (List Int × List Int × Bool))→Int→Int→(List (List Int × List Int × Bool))→Int→Int→Option γ) (v0:List (Int × Int × Bool)) (v1:List (List Int × List Int × Bool)) (v2:Int) (v3:Int) (v4:List (List Int × List Int × Bool)) (v5:Int) (v6:Int):Option γ :=
 bif decide (v6<v5) then
 bif decide ((0:Int)≤v6) then
 bif decide (v6.toNat<v4.length) then
 bif decide (v2≠(0:Int)) then
 bif decide ((0:Int)≤v6.tmod v2) then
 bif decide ((v6.tmod v2).toNat<v0.length) then
 (xi0v ((v4.getD v6.toNat ([],[],Bool.false)).fst) ((v4.getD v6.toNat ([],[],Bool.false)).snd.fst) ((v4.getD v6.toNat ([],[],Bool.false)).snd.snd) ((v0.getD (v6.tmod v2).toNat ((0:Int),(0:Int),Bool.false)).fst) ((v0.getD (v6.tmod v2).toNat ((0:Int),(0:Int),Bool.false)).snd.fst) ((v0.getD (v6.tmod v2).toNat ((0:Int),(0:Int),Bool.false)).snd.snd)).bind fun (r3:Bool) =>
 bif !r3 then
 ret (Bool.false)
 else
 bif decide (v2≠(0:Int)) then
 bif decide (v2≠(0:Int)) then
 bif IntKind.i64.wrap (v6.tdiv v2) == v6.tmod v2 then
 (xi0u ((v4.getD v6.toNat ([],[],Bool.false)).fst) ((v4.getD v6.toNat ([],[],Bool.false)).snd.fst) ((v4.getD v6.toNat ([],[],Bool.false)).snd.snd)).bind fun (r4:Bool) =>
 bif !r4 then
 ret (Bool.false)
 else
 (xi1h ((v4.getD v6.toNat ([],[],Bool.false)).fst)).bind fun (r5:Int) =>
 (xi1h ((v4.getD v6.toNat ([],[],Bool.false)).snd.fst)).bind fun (r6:Int) =>
 lp13 (v0) (v1) (v2) (IntKind.i64.wrap (v3+IntKind.i64.wrap (r5+r6))) (v4) (v5) (IntKind.i64.wrap (v6+(1:Int)))
 else
 (xi1h ((v4.getD v6.toNat ([],[],Bool.false)).fst)).bind fun (r7:Int) =>
 (xi1h ((v4.getD v6.toNat ([],[],Bool.false)).snd.fst)).bind fun (r8:Int) =>
 lp13 (v0) (v1) (v2) (IntKind.i64.wrap (v3+IntKind.i64.wrap (r7+r8))) (v4) (v5) (IntKind.i64.wrap (v6+(1:Int)))
 else
 none
 else
 none
 else
 none
 else
 none
 else
 none
 else
 none
 else
 none
 else
 ret (decide (v3≤(2000000000:Int)))
def xi14.t6 {γ:Type} (ret:(Bool)→Option γ) (lp13:(List (Int × Int × Bool))→(List (List Int × List Int × Bool))→Int→Int→(List (List Int × List Int × Bool))→Int→Int→Option γ) (lp6:(List (Int × Int × Bool))→(List (List Int × List Int × Bool))→Int→Int→(List (Int × Int × Bool))→Int→Int→Option γ) (v0:List (Int × Int × Bool)) (v1:List (List Int × List Int × Bool)) (v2:Int) (v3:Int) (v4:List (Int × Int × Bool)) (v5:Int) (v6:Int):Option γ :=
 bif decide (v6<v5) then
 bif decide ((0:Int)≤v6) then
 bif decide (v6.toNat<v4.length) then
 (xi1f ((v4.getD v6.toNat ((0:Int),(0:Int),Bool.false)).fst) ((0:Int)) ((2000000000:Int))).bind fun (r1:Bool) =>
 bif !r1 then
 ret (Bool.false)
 else
 (xi1f ((v4.getD v6.toNat ((0:Int),(0:Int),Bool.false)).snd.fst) ((0:Int)) ((2000000000:Int))).bind fun (r2:Bool) =>
 bif !r2 then
 ret (Bool.false)
 else
 bif !(v4.getD v6.toNat ((0:Int),(0:Int),Bool.false)).snd.snd then
 bif (v4.getD v6.toNat ((0:Int),(0:Int),Bool.false)).snd.fst != (0:Int) then
 ret (Bool.false)
 else
 lp6 (v0) (v1) (v2) (IntKind.i64.wrap   (v3+    IntKind.i64.wrap       ((v4.getD v6.toNat ((0:Int),(0:Int),Bool.false)).fst+        (v4.getD v6.toNat ((0:Int),(0:Int),Bool.false)).snd.fst))) (v4) (v5) (IntKind.i64.wrap (v6+(1:Int)))
 else
 lp6 (v0) (v1) (v2) (IntKind.i64.wrap   (v3+    IntKind.i64.wrap       ((v4.getD v6.toNat ((0:Int),(0:Int),Bool.false)).fst+        (v4.getD v6.toNat ((0:Int),(0:Int),Bool.false)).snd.fst))) (v4) (v5) (IntKind.i64.wrap (v6+(1:Int)))
 else
 none
 else
 none
 else
 lp13 (v0) (v1) (v2) (v3) (v1) ((↑v1.length:Int)) ((0:Int))
theorem xi14.u:∀ b,xi14.un (xi14.mk b)=b:=fun _ => by kernel_rfl
theorem xi14.eq (v0 v1) {b} (h:xi14.t some xi14.l6 v0 v1=some b):xi14 v0 v1=some b:=eqF xi14.u Try.f34 (callT_le E tab) rfl rfl rfl (xi14.t (rR xi14.mk) xi14.q6 v0 v1) (by kernel_rfl) (by unfold xi14.t; repeat' first | exact sR | exact sN | exact sL | apply sC | (apply sB; intro _)) h
theorem xi14.eq13 (v0 v1 v2 v3 v4 v5 v6) {b} (h:xi14.t13 some xi14.l13 v0 v1 v2 v3 v4 v5 v6=some b):xi14.l13 v0 v1 v2 v3 v4 v5 v6=some b:=eqL xi14.u (xi14.t13 (rR xi14.mk) xi14.q13 v0 v1 v2 v3 v4 v5 v6) (by kernel_rfl) (by unfold xi14.t13; repeat' first | exact sR | exact sN | exact sL | apply sC | (apply sB; intro _)) h
theorem xi14.eq6 (v0 v1 v2 v3 v4 v5 v6) {b} (h:xi14.t6 some xi14.l13 xi14.l6 v0 v1 v2 v3 v4 v5 v6=some b):xi14.l6 v0 v1 v2 v3 v4 v5 v6=some b:=eqL xi14.u (xi14.t6 (rR xi14.mk) xi14.q13 xi14.q6 v0 v1 v2 v3 v4 v5 v6) (by kernel_rfl) (by unfold xi14.t6; repeat' first | exact sR | exact sN | exact sL | apply sC | (apply sB; intro _)) h
def xi0v.t {γ:Type} (ret:(Bool)→Option γ) (v0:List Int) (v1:List Int) (v2:Bool) (v3:Int) (v4:Int) (v5:Bool):Option γ :=
 bif decide ((↑v0.length:Int)≤(12:Int)) then
 (xi09 (v0)).bind fun (r0:Bool) =>
 bif r0 then
 bif decide ((↑v1.length:Int)≤(200:Int)) then
 (xi0a (v1)).bind fun (r1:Bool) =>
 bif r1 then
 bif v5 then
 ret (Bool.true)
 else
 bif !v2 then
 ret ((↑v1.length:Int) == (0:Int))
 else
 ret (Bool.false)
 else
 ret (Bool.false)
 else
 ret (Bool.false)
 else
 ret (Bool.false)
 else
 ret (Bool.false)
theorem xi0v.u:∀ b,xi0v.un (xi0v.mk b)=b:=fun _ => by kernel_rfl
theorem xi0v.eq (v0 v1 v2 v3 v4 v5) {b} (h:xi0v.t some v0 v1 v2 v3 v4 v5=some b):xi0v v0 v1 v2 v3 v4 v5=some b:=eqF xi0v.u Try.f69 (callT_le E tab) rfl rfl rfl (xi0v.t (rR xi0v.mk) v0 v1 v2 v3 v4 v5) (by kernel_rfl) (by unfold xi0v.t; repeat' first | exact sR | exact sN | exact sL | apply sC | (apply sB; intro _)) h
def xi09.t {γ:Type} (ret:(Bool)→Option γ) (v0:List Int):Option γ :=
 (xs00 (v0)).bind fun (r0:Bool) =>
 ret (!r0)
theorem xi09.u:∀ b,xi09.un (xi09.mk b)=b:=fun _ => by kernel_rfl
theorem xi09.eq (v0) {b} (h:xi09.t some v0=some b):xi09 v0=some b:=eqF xi09.u Try.f90 (callT_le E tab) rfl rfl rfl (xi09.t (rR xi09.mk) v0) (by kernel_rfl) (by unfold xi09.t; repeat' first | exact sR | exact sN | exact sL | apply sC | (apply sB; intro _)) h
def xs00.t {γ:Type} (ret:(Bool)→Option γ) (v0:List Int):Option γ :=
 (xs02 (v0)).bind fun (r0:Int) =>
 ret (decide (r0 ≥ (0:Int)))
theorem xs00.u:∀ b,xs00.un (xs00.mk b)=b:=fun _ => by kernel_rfl
theorem xs00.eq (v0) {b} (h:xs00.t some v0=some b):xs00 v0=some b:=eqF xs00.u Try.f98 (callT_le E tab) rfl rfl rfl (xs00.t (rR xs00.mk) v0) (by kernel_rfl) (by unfold xs00.t; repeat' first | exact sR | exact sN | exact sL | apply sC | (apply sB; intro _)) h
def xs02.s2 (v0:List Int) (v1:Int) (v2:Int):List Cell:=vc (.d .fro (.sl (.int .i64)) v0)::vc (.fn 99 [.rp [.fn 91 []] 0])::nn 5 (vc (iL v1)::vc (iL v2)::nn 10 ([]))
def xs02.q2:=fun v0 v1 v2 => loopAtL E (callT E tab) 101 Try.f101 2 [.r,.l,.r,.b] (xs02.s2 v0 v1 v2)
def xs02.l2:=fun v0 v1 v2 => tOf xs02.mk (xs02.q2 v0 v1 v2)
def xs02.t {γ:Type} (ret:(Int)→Option γ) (lp2:(List Int)→Int→Int→Option γ) (v0:List Int):Option γ :=
 lp2 (v0) ((↑v0.length:Int)) ((0:Int))
def xs02.t2 {γ:Type} (ret:(Int)→Option γ) (lp2:(List Int)→Int→Int→Option γ) (v0:List Int) (v1:Int) (v2:Int):Option γ :=
 bif decide (v2<v1) then
 bif decide ((0:Int)≤v2) then
 bif decide (v2.toNat<v0.length) then
 (xi07 (v0.getD v2.toNat (0:Int))).bind fun (r0:Bool) =>
 bif r0 then
 ret (v2)
 else
 lp2 (v0) (v1) (IntKind.i64.wrap (v2+(1:Int)))
 else
 none
 else
 none
 else
 ret ((-1:Int))
theorem xs02.u:∀ b,xs02.un (xs02.mk b)=b:=fun _ => by kernel_rfl
theorem xs02.eq (v0) {b} (h:xs02.t some xs02.l2 v0=some b):xs02 v0=some b:=eqF xs02.u Try.f101 (callT_le E tab) rfl rfl rfl (xs02.t (rR xs02.mk) xs02.q2 v0) (by kernel_rfl) (by unfold xs02.t; repeat' first | exact sR | exact sN | exact sL | apply sC | (apply sB; intro _)) h
theorem xs02.eq2 (v0 v1 v2) {b} (h:xs02.t2 some xs02.l2 v0 v1 v2=some b):xs02.l2 v0 v1 v2=some b:=eqL xs02.u (xs02.t2 (rR xs02.mk) xs02.q2 v0 v1 v2) (by kernel_rfl) (by unfold xs02.t2; repeat' first | exact sR | exact sN | exact sL | apply sC | (apply sB; intro _)) h
def xi07.t {γ:Type} (ret:(Bool)→Option γ) (v0:Int):Option γ :=
 (xi0m (v0)).bind fun (r0:Bool) =>
 ret (!r0)
theorem xi07.u:∀ b,xi07.un (xi07.mk b)=b:=fun _ => by kernel_rfl
theorem xi07.eq (v0) {b} (h:xi07.t some v0=some b):xi07 v0=some b:=eqF xi07.u Try.f99 (callT_le E tab) rfl rfl rfl (xi07.t (rR xi07.mk) v0) (by kernel_rfl) (by unfold xi07.t; repeat' first | exact sR | exact sN | exact sL | apply sC | (apply sB; intro _)) h
def xi0m.t {γ:Type} (ret:(Bool)→Option γ) (v0:Int):Option γ :=
 bif v0 == (0:Int) then
 ret (Bool.true)
 else
 (xi0s (v0)).bind fun (r0:Bool) =>
 ret (r0)
theorem xi0m.u:∀ b,xi0m.un (xi0m.mk b)=b:=fun _ => by kernel_rfl
theorem xi0m.eq (v0) {b} (h:xi0m.t some v0=some b):xi0m v0=some b:=eqF xi0m.u Try.f91 (callT_le E tab) rfl rfl rfl (xi0m.t (rR xi0m.mk) v0) (by kernel_rfl) (by unfold xi0m.t; repeat' first | exact sR | exact sN | exact sL | apply sC | (apply sB; intro _)) h
def xi0s.t {γ:Type} (ret:(Bool)→Option γ) (v0:Int):Option γ :=
 (xi1f (v0) ((1:Int)) ((1000000:Int))).bind fun (r0:Bool) =>
 ret (r0)
theorem xi0s.u:∀ b,xi0s.un (xi0s.mk b)=b:=fun _ => by kernel_rfl
theorem xi0s.eq (v0) {b} (h:xi0s.t some v0=some b):xi0s v0=some b:=eqF xi0s.u Try.f92 (callT_le E tab) rfl rfl rfl (xi0s.t (rR xi0s.mk) v0) (by kernel_rfl) (by unfold xi0s.t; repeat' first | exact sR | exact sN | exact sL | apply sC | (apply sB; intro _)) h
end
end GoV

/- Equations of the program's functions (printed by wip/tools/emit.py). -/
namespace GoV
open Go Go.Proofs
set_option maxRecDepth 100000
noncomputable section

def xi0a.t {γ:Type} (ret:(Bool)→Option γ) (v0:List Int):Option γ :=
 (xs01 (v0)).bind fun (r0:Bool) =>
 ret (!r0)
theorem xi0a.u:∀ b,xi0a.un (xi0a.mk b)=b:=fun _ => by kernel_rfl
theorem xi0a.eq (v0) {b} (h:xi0a.t some v0=some b):xi0a v0=some b:=eqF xi0a.u Try.f90 (callT_le E tab) rfl rfl rfl (xi0a.t (rR xi0a.mk) v0) (by kernel_rfl) (by unfold xi0a.t; repeat' first | exact sR | exact sN | exact sL | apply sC | (apply sB; intro _)) h
def xs01.t {γ:Type} (ret:(Bool)→Option γ) (v0:List Int):Option γ :=
 (xs03 (v0)).bind fun (r0:Int) =>
 ret (decide (r0 ≥ (0:Int)))
theorem xs01.u:∀ b,xs01.un (xs01.mk b)=b:=fun _ => by kernel_rfl
theorem xs01.eq (v0) {b} (h:xs01.t some v0=some b):xs01 v0=some b:=eqF xs01.u Try.f98 (callT_le E tab) rfl rfl rfl (xs01.t (rR xs01.mk) v0) (by kernel_rfl) (by unfold xs01.t; repeat' first | exact sR | exact sN | exact sL | apply sC | (apply sB; intro _)) h
def xs03.s2 (v0:List Int) (v1:Int) (v2:Int):List Cell:=vc (.d .fro (.sl (.int .i64)) v0)::vc (.fn 99 [.rp [.fn 92 []] 0])::nn 5 (vc (iL v1)::vc (iL v2)::nn 10 ([]))
def xs03.q2:=fun v0 v1 v2 => loopAtL E (callT E tab) 101 Try.f101 2 [.r,.l,.r,.b] (xs03.s2 v0 v1 v2)
def xs03.l2:=fun v0 v1 v2 => tOf xs03.mk (xs03.q2 v0 v1 v2)
def xs03.t {γ:Type} (ret:(Int)→Option γ) (lp2:(List Int)→Int→Int→Option γ) (v0:List Int):Option γ :=
 lp2 (v0) ((↑v0.length:Int)) ((0:Int))
def xs03.t2 {γ:Type} (ret:(Int)→Option γ) (lp2:(List Int)→Int→Int→Option γ) (v0:List Int) (v1:Int) (v2:Int):Option γ :=
 bif decide (v2<v1) then
 bif decide ((0:Int)≤v2) then
 bif decide (v2.toNat<v0.length) then
 (xi08 (v0.getD v2.toNat (0:Int))).bind fun (r0:Bool) =>
 bif r0 then
 ret (v2)
 else
 lp2 (v0) (v1) (IntKind.i64.wrap (v2+(1:Int)))
 else
 none
 else
 none
 else
 ret ((-1:Int))
theorem xs03.u:∀ b,xs03.un (xs03.mk b)=b:=fun _ => by kernel_rfl
theorem xs03.eq (v0) {b} (h:xs03.t some xs03.l2 v0=some b):xs03 v0=some b:=eqF xs03.u Try.f101 (callT_le E tab) rfl rfl rfl (xs03.t (rR xs03.mk) xs03.q2 v0) (by kernel_rfl) (by unfold xs03.t; repeat' first | exact sR | exact sN | exact sL | apply sC | (apply sB; intro _)) h
theorem xs03.eq2 (v0 v1 v2) {b} (h:xs03.t2 some xs03.l2 v0 v1 v2=some b):xs03.l2 v0 v1 v2=some b:=eqL xs03.u (xs03.t2 (rR xs03.mk) xs03.q2 v0 v1 v2) (by kernel_rfl) (by unfold xs03.t2; repeat' first | exact sR | exact sN | exact sL | apply sC | (apply sB; intro _)) h
def xi08.t {γ:Type} (ret:(Bool)→Option γ) (v0:Int):Option γ :=
 (xi0s (v0)).bind fun (r0:Bool) =>
 ret (!r0)
theorem xi08.u:∀ b,xi08.un (xi08.mk b)=b:=fun _ => by kernel_rfl
theorem xi08.eq (v0) {b} (h:xi08.t some v0=some b):xi08 v0=some b:=eqF xi08.u Try.f99 (callT_le E tab) rfl rfl rfl (xi08.t (rR xi08.mk) v0) (by kernel_rfl) (by unfold xi08.t; repeat' first | exact sR | exact sN | exact sL | apply sC | (apply sB; intro _)) h
def xi0u.t {γ:Type} (ret:(Bool)→Option γ) (v0:List Int) (v1:List Int) (v2:Bool):Option γ :=
 bif (↑v0.length:Int) == (0:Int) then
 bif (↑v1.length:Int) == (0:Int) then
 ret (!v2)
 else
 ret (Bool.false)
 else
 ret (Bool.false)
theorem xi0u.u:∀ b,xi0u.un (xi0u.mk b)=b:=fun _ => by kernel_rfl
theorem xi0u.eq (v0 v1 v2) {b} (h:xi0u.t some v0 v1 v2=some b):xi0u v0 v1 v2=some b:=eqF xi0u.u Try.f70 (callT_le E tab) rfl rfl rfl (xi0u.t (rR xi0u.mk) v0 v1 v2) (by kernel_rfl) (by unfold xi0u.t; repeat' first | exact sR | exact sN | exact sL | apply sC | (apply sB; intro _)) h
def xi1h.s3 (v0:Int) (v1:List Int) (v2:Int) (v3:Int):List Cell:=nn 3 (vc (iL v0)::nn 2 (vc (.d .fro (.sl (.int .i64)) v1)::vc (iL v2)::vc (iL v3)::nn 8 ([])))
def xi1h.q3:=fun v0 v1 v2 v3 => loopAtL E (callT E tab) 67 Try.f67 1 [.r,.r,.l,.r,.b] (xi1h.s3 v0 v1 v2 v3)
def xi1h.l3:=fun v0 v1 v2 v3 => tOf xi1h.mk (xi1h.q3 v0 v1 v2 v3)
def xi1h.t {γ:Type} (ret:(Int)→Option γ) (lp3:Int→(List Int)→Int→Int→Option γ) (v0:List Int):Option γ :=
 lp3 ((0:Int)) (v0) ((↑v0.length:Int)) ((0:Int))
def xi1h.t3 {γ:Type} (ret:(Int)→Option γ) (lp3:Int→(List Int)→Int→Int→Option γ) (v0:Int) (v1:List Int) (v2:Int) (v3:Int):Option γ :=
 bif decide (v3<v2) then
 bif decide ((0:Int)≤v3) then
 bif decide (v3.toNat<v1.length) then
 lp3 (IntKind.i64.wrap (v0+v1.getD v3.toNat (0:Int))) (v1) (v2) (IntKind.i64.wrap (v3+(1:Int)))
 else
 none
 else
 none
 else
 ret (v0)
theorem xi1h.u:∀ b,xi1h.un (xi1h.mk b)=b:=fun _ => by kernel_rfl
theorem xi1h.eq (v0) {b} (h:xi1h.t some xi1h.l3 v0=some b):xi1h v0=some b:=eqF xi1h.u Try.f67 (callT_le E tab) rfl rfl rfl (xi1h.t (rR xi1h.mk) xi1h.q3 v0) (by kernel_rfl) (by unfold xi1h.t; repeat' first | exact sR | exact sN | exact sL | apply sC | (apply sB; intro _)) h
theorem xi1h.eq3 (v0 v1 v2 v3) {b} (h:xi1h.t3 some xi1h.l3 v0 v1 v2 v3=some b):xi1h.l3 v0 v1 v2 v3=some b:=eqL xi1h.u (xi1h.t3 (rR xi1h.mk) xi1h.q3 v0 v1 v2 v3) (by kernel_rfl) (by unfold xi1h.t3; repeat' first | exact sR | exact sN | exact sL | apply sC | (apply sB; intro _)) h
def xi0r.t {γ:Type} (ret:((List (Int × Int × Bool)) × (List (List Int × List Int × Bool)) × Bool)→Option γ) (v0:List (Int × Int × Bool)) (v1:List (List Int × List Int × Bool)) (v2:Int) (v3:Int) (v4:Int) (v5:Int):Option γ :=
 (xi16 (v0) (v1)).bind fun (r0:(List (Int × Int × Bool)) × (List (List Int × List Int × Bool))) =>
 (xi0k (r0.fst) (r0.snd) (v2) (v3) (v4) (v5)).bind fun (r1:Bool × (List (Int × Int × Bool)) × (List (List Int × List Int × Bool))) =>
 bif !r1.fst then
 ret ([],[],Bool.false)
 else
 (xi14 (r1.snd.fst) (r1.snd.snd)).bind fun (r2:Bool) =>
 bif !r2 then
 ret ([],[],Bool.false)
 else
 (xi16 (r1.snd.fst) (r1.snd.snd)).bind fun (r3:(List (Int × Int × Bool)) × (List (List Int × List Int × Bool))) =>
 ret (r3.fst,r3.snd,Bool.true)
theorem xi0r.u:∀ b,xi0r.un (xi0r.mk b)=b:=fun _ => by kernel_rfl
theorem xi0r.eq (v0 v1 v2 v3 v4 v5) {b} (h:xi0r.t some v0 v1 v2 v3 v4 v5=some b):xi0r v0 v1 v2 v3 v4 v5=some b:=eqF xi0r.u Try.f48 (callT_le E tab) rfl rfl rfl (xi0r.t (rR xi0r.mk) v0 v1 v2 v3 v4 v5) (by kernel_rfl) (by unfold xi0r.t; repeat' first | exact sR | exact sN | exact sL | apply sC | (apply sB; intro _)) h
def xi16.s3 (v0:List (Int × Int × Bool)) (v1:List (List Int × List Int × Bool)) (v2:List (Int × Int × Bool)) (v3:List (List Int × List Int × Bool)) (v4:List (List Int × List Int × Bool)) (v5:Int) (v6:Int):List Cell:=nn 2 (⟨(.box false),[.d .deep Yc v0,.d .deep Yb v1],false,false,false,0,0⟩::⟨(.box false),[.d .deep Yc v2,.d .deep Yb v3],false,false,false,0,0⟩::nn 7 (vc (.d .fro Yb v4)::vc (iL v5)::vc (iL v6)::nn 19 ([])))
def xi16.q3:=fun v0 v1 v2 v3 v4 v5 v6 => loopAtL E (callT E tab) 57 Try.f57 1 [.r,.r,.l,.r,.b] (xi16.s3 v0 v1 v2 v3 v4 v5 v6)
def xi16.l3:=fun v0 v1 v2 v3 v4 v5 v6 => tOf xi16.mk (xi16.q3 v0 v1 v2 v3 v4 v5 v6)
def xi16.t {γ:Type} (ret:((List (Int × Int × Bool)) × (List (List Int × List Int × Bool)))→Option γ) (lp3:(List (Int × Int × Bool))→(List (List Int × List Int × Bool))→(List (Int × Int × Bool))→(List (List Int × List Int × Bool))→(List (List Int × List Int × Bool))→Int→Int→Option γ) (v0:List (Int × Int × Bool)) (v1:List (List Int × List Int × Bool)):Option γ :=
 (xs0b (v0)).bind fun (r0:(List (Int × Int × Bool))) =>
 lp3 ([]) ([]) (r0) ([]) (v1) ((↑v1.length:Int)) ((0:Int))
def xi16.t3 {γ:Type} (ret:((List (Int × Int × Bool)) × (List (List Int × List Int × Bool)))→Option γ) (lp3:(List (Int × Int × Bool))→(List (List Int × List Int × Bool))→(List (Int × Int × Bool))→(List (List Int × List Int × Bool))→(List (List Int × List Int × Bool))→Int→Int→Option γ) (v0:List (Int × Int × Bool)) (v1:List (List Int × List Int × Bool)) (v2:List (Int × Int × Bool)) (v3:List (List Int × List Int × Bool)) (v4:List (List Int × List Int × Bool)) (v5:Int) (v6:Int):Option γ :=
 bif decide (v6<v5) then
 bif decide ((0:Int)≤v6) then
 bif decide (v6.toNat<v4.length) then
 (xs0e ((v4.getD v6.toNat ([],[],Bool.false)).fst)).bind fun (r1:(List Int)) =>
 (xs0e ((v4.getD v6.toNat ([],[],Bool.false)).snd.fst)).bind fun (r2:(List Int)) =>
 bif decide (v3.length+[(r1,r2,(v4.getD v6.toNat ([],[],Bool.false)).snd.snd)].length≤(4294967296:Nat)) then
 lp3 (v0) (v1) (v2) (v3 ++ [(r1,r2,(v4.getD v6.toNat ([],[],Bool.false)).snd.snd)]) (v4) (v5) (IntKind.i64.wrap (v6+(1:Int)))
 else
 none
 else
 none
 else
 none
 else
 ret (v2,v3)
theorem xi16.u:∀ b,xi16.un (xi16.mk b)=b:=fun _ => by kernel_rfl
theorem xi16.eq (v0 v1) {b} (h:xi16.t some xi16.l3 v0 v1=some b):xi16 v0 v1=some b:=eqF xi16.u Try.f57 (callT_le E tab) rfl rfl rfl (xi16.t (rR xi16.mk) xi16.q3 v0 v1) (by kernel_rfl) (by unfold xi16.t; repeat' first | exact sR | exact sN | exact sL | apply sC | (apply sB; intro _)) h
theorem xi16.eq3 (v0 v1 v2 v3 v4 v5 v6) {b} (h:xi16.t3 some xi16.l3 v0 v1 v2 v3 v4 v5 v6=some b):xi16.l3 v0 v1 v2 v3 v4 v5 v6=some b:=eqL xi16.u (xi16.t3 (rR xi16.mk) xi16.q3 v0 v1 v2 v3 v4 v5 v6) (by kernel_rfl) (by unfold xi16.t3; repeat' first | exact sR | exact sN | exact sL | apply sC | (apply sB; intro _)) h
def xs0b.t {γ:Type} (ret:((List (Int × Int × Bool)))→Option γ) (v0:List (Int × Int × Bool)):Option γ :=
 bif decide (v0.length≤(4294967296:Nat)) then
 ret (v0)
 else
 none
theorem xs0b.k (v0:List (Int × Int × Bool)):extOf 86 (xs0b.c v0)=xs0b.t (fun b => some (xs0b.mk b)) v0:=by kernel_rfl
theorem xs0b.eq (v0:List (Int × Int × Bool)) {b:(List (Int × Int × Bool))} (h:xs0b.t some v0=some b):xs0b v0=some b:=tOf_intro xs0b.un (fun _ => by kernel_rfl) (vlim_ext (g:=extOf 86) rfl ((xs0b.k v0).trans ((by unfold xs0b.t; repeat' first | exact Sub.ret | exact Sub.none | exact Sub.loop | apply Sub.cond | (apply Sub.bind; intro _):Sub xs0b.mk _ _) b h)))
def xs0e.t {γ:Type} (ret:((List Int))→Option γ) (v0:List Int):Option γ :=
 bif decide (v0.length≤(4294967296:Nat)) then
 ret (v0)
 else
 none
theorem xs0e.k (v0:List Int):extOf 87 (xs0e.c v0)=xs0e.t (fun b => some (xs0e.mk b)) v0:=by kernel_rfl
theorem xs0e.eq (v0:List Int) {b:(List Int)} (h:xs0e.t some v0=some b):xs0e v0=some b:=tOf_intro xs0e.un (fun _ => by kernel_rfl) (vlim_ext (g:=extOf 87) rfl ((xs0e.k v0).trans ((by unfold xs0e.t; repeat' first | exact Sub.ret | exact Sub.none | exact Sub.loop | apply Sub.cond | (apply Sub.bind; intro _):Sub xs0e.mk _ _) b h)))
def xi0k.t {γ:Type} (ret:(Bool × (List (Int × Int × Bool)) × (List (List Int × List Int × Bool)))→Option γ) (v0:List (Int × Int × Bool)) (v1:List (List Int × List Int × Bool)) (v2:Int) (v3:Int) (v4:Int) (v5:Int):Option γ :=
 (xi1f (v3) ((0:Int)) (IntKind.i64.wrap ((↑v0.length:Int) - (1:Int)))).bind fun (r0:Bool) =>
 bif !r0 then
 ret (Bool.false,v0,v1)
 else
 bif v2 == (3:Int) then
 bif decide ((0:Int)≤v3) then
 bif decide (v3.toNat<v0.length) then
 bif decide (v3.toNat<v0.length) then
 bif !(v0.getD v3.toNat ((0:Int),(0:Int),Bool.false)).snd.snd then
 (xi0i (v0) (v1) (v3) (v3)).bind fun (r1:Bool × (List (Int × Int × Bool)) × (List (List Int × List Int × Bool))) =>
 ret (r1.fst,r1.snd.fst,r1.snd.snd)
 else
 ret (Bool.false,v0,v1)
 else
 none
 else
 none
 else
 none
 else
 (xi1f (v4) ((0:Int)) (IntKind.i64.wrap ((↑v0.length:Int) - (1:Int)))).bind fun (r2:Bool) =>
 bif !r2 then
 ret (Bool.false,v0,v1)
 else
 bif v4 == v3 then
 ret (Bool.false,v0,v1)
 else
 bif v2 == (1:Int) then
 (xi0j (v0) (v1) (v2) (v3) (v4) (v5)).bind fun (r3:Bool × (List (Int × Int × Bool)) × (List (List Int × List Int × Bool))) =>
 ret (r3.fst,r3.snd.fst,r3.snd.snd)
 else
 bif v2 == (2:Int) then
 (xi0l (v0) (v1) (v3) (v4)).bind fun (r4:Bool × (List (Int × Int × Bool)) × (List (List Int × List Int × Bool))) =>
 ret (r4.fst,r4.snd.fst,r4.snd.snd)
 else
 ret (Bool.false,v0,v1)
theorem xi0k.u:∀ b,xi0k.un (xi0k.mk b)=b:=fun _ => by kernel_rfl
theorem xi0k.eq (v0 v1 v2 v3 v4 v5) {b} (h:xi0k.t some v0 v1 v2 v3 v4 v5=some b):xi0k v0 v1 v2 v3 v4 v5=some b:=eqF xi0k.u Try.f81 (callT_le E tab) rfl rfl rfl (xi0k.t (rR xi0k.mk) v0 v1 v2 v3 v4 v5) (by kernel_rfl) (by unfold xi0k.t; repeat' first | exact sR | exact sN | exact sL | apply sC | (apply sB; intro _)) h
def xi0i.s4 (v0:List (Int × Int × Bool)) (v1:List (List Int × List Int × Bool)) (v2:Int) (v3:Int) (v4:Int) (v5:Int):List Cell:=⟨(.val .agg),[.d .deep Yc v0,.d .deep Yb v1],true,false,false,0,0⟩::vc (iL v2)::vc (iL v3)::⟨(.box false),[.lent ⟨0,0,none⟩ none,.lent ⟨0,1,none⟩ none],false,false,false,0,0⟩::nn 22 (vc (iL v4)::vc (iL v5)::nn 34 ([]))
def xi0i.q4:=fun v0 v1 v2 v3 v4 v5 => loopAtL E (callT E tab) 95 Try.f95 3 [.r,.r,.r,.l,.r,.b] (xi0i.s4 v0 v1 v2 v3 v4 v5)
def xi0i.l4:=fun v0 v1 v2 v3 v4 v5 => tOf xi0i.mk (xi0i.q4 v0 v1 v2 v3 v4 v5)
def xi0i.t {γ:Type} (ret:(Bool × (List (Int × Int × Bool)) × (List (List Int × List Int × Bool)))→Option γ) (lp4:(List (Int × Int × Bool))→(List (List Int × List Int × Bool))→Int→Int→Int→Int→Option γ) (v0:List (Int × Int × Bool)) (v1:List (List Int × List Int × Bool)) (v2:Int) (v3:Int):Option γ :=
 bif decide ((0:Int)≤v2) then
 bif decide (v2.toNat<v0.length) then
 bif decide (v2.toNat<v0.length) then
 bif decide (v2.toNat<v0.length) then
 bif decide   (v2.toNat<    (v0.set v2.toNat         ((v0.getD v2.toNat ((0:Int),(0:Int),Bool.false)).fst,          (v0.getD v2.toNat ((0:Int),(0:Int),Bool.false)).fst,          (v0.getD v2.toNat ((0:Int),(0:Int),Bool.false)).snd.snd)).length) then
 lp4 ((v0.set v2.toNat       ((v0.getD v2.toNat ((0:Int),(0:Int),Bool.false)).fst,        (v0.getD v2.toNat ((0:Int),(0:Int),Bool.false)).fst,        (v0.getD v2.toNat ((0:Int),(0:Int),Bool.false)).snd.snd)).set   v2.toNat   (((v0.set v2.toNat             ((v0.getD v2.toNat ((0:Int),(0:Int),Bool.false)).fst,              (v0.getD v2.toNat ((0:Int),(0:Int),Bool.false)).fst,              (v0.getD v2.toNat ((0:Int),(0:Int),Bool.false)).snd.snd)).getD         v2.toNat ((0:Int),(0:Int),Bool.false)).fst,    ((v0.set v2.toNat               ((v0.getD v2.toNat ((0:Int),(0:Int),Bool.false)).fst,                (v0.getD v2.toNat ((0:Int),(0:Int),Bool.false)).fst,                (v0.getD v2.toNat ((0:Int),(0:Int),Bool.false)).snd.snd)).getD           v2.toNat ((0:Int),(0:Int),Bool.false)).snd.fst,    Bool.true)) (v1) (v2) (v3) ((↑((v0.set v2.toNat             ((v0.getD v2.toNat ((0:Int),(0:Int),Bool.false)).fst,              (v0.getD v2.toNat ((0:Int),(0:Int),Bool.false)).fst,              (v0.getD v2.toNat ((0:Int),(0:Int),Bool.false)).snd.snd)).set         v2.toNat         (((v0.set v2.toNat                   ((v0.getD v2.toNat ((0:Int),(0:Int),Bool.false)).fst,                    (v0.getD v2.toNat ((0:Int),(0:Int),Bool.false)).fst,                    (v0.getD v2.toNat ((0:Int),(0:Int),Bool.false)).snd.snd)).getD               v2.toNat ((0:Int),(0:Int),Bool.false)).fst,          ((v0.set v2.toNat                     ((v0.getD v2.toNat ((0:Int),(0:Int),Bool.false)).fst,                      (v0.getD v2.toNat ((0:Int),(0:Int),Bool.false)).fst,                      (v0.getD v2.toNat ((0:Int),(0:Int),Bool.false)).snd.snd)).getD                 v2.toNat ((0:Int),(0:Int),Bool.false)).snd.fst,          Bool.true)).length:  Int)) ((0:Int))
 else
 none
 else
 none
 else
 none
 else
 none
 else
 none
def xi0i.t4 {γ:Type} (ret:(Bool × (List (Int × Int × Bool)) × (List (List Int × List Int × Bool)))→Option γ) (lp4:(List (Int × Int × Bool))→(List (List Int × List Int × Bool))→Int→Int→Int→Int→Option γ) (v0:List (Int × Int × Bool)) (v1:List (List Int × List Int × Bool)) (v2:Int) (v3:Int) (v4:Int) (v5:Int):Option γ :=
 bif decide (v5<v4) then
 bif v5 == v2 then
 lp4 (v0) (v1) (v2) (v3) (v4) (IntKind.i64.wrap (v5+(1:Int)))
 else
 bif decide ((0:Int)≤IntKind.i64.wrap (IntKind.i64.wrap (v5 * (↑v0.length:Int))+v2)) then
 bif decide ((IntKind.i64.wrap (IntKind.i64.wrap (v5 * (↑v0.length:Int))+v2)).toNat<v1.length) then
 bif decide ((IntKind.i64.wrap (IntKind.i64.wrap (v5 * (↑v0.length:Int))+v2)).toNat<v1.length) then
 bif decide ((0:Int)≤IntKind.i64.wrap (IntKind.i64.wrap (v2 * (↑v0.length:Int))+v5)) then
 bif decide   ((IntKind.i64.wrap (IntKind.i64.wrap (v2 * (↑v0.length:Int))+v5)).toNat<    (v1.set (IntKind.i64.wrap (IntKind.i64.wrap (v5 * (↑v0.length:Int))+v2)).toNat         ((v1.getD (IntKind.i64.wrap (IntKind.i64.wrap (v5 * (↑v0.length:Int))+v2)).toNat               ([],[],Bool.false)).fst,          (v1.getD (IntKind.i64.wrap (IntKind.i64.wrap (v5 * (↑v0.length:Int))+v2)).toNat                 ([],[],Bool.false)).snd.fst,          v5 != v3)).length) then
 bif decide   ((IntKind.i64.wrap (IntKind.i64.wrap (v2 * (↑v0.length:Int))+v5)).toNat<    (v1.set (IntKind.i64.wrap (IntKind.i64.wrap (v5 * (↑v0.length:Int))+v2)).toNat         ((v1.getD (IntKind.i64.wrap (IntKind.i64.wrap (v5 * (↑v0.length:Int))+v2)).toNat               ([],[],Bool.false)).fst,          (v1.getD (IntKind.i64.wrap (IntKind.i64.wrap (v5 * (↑v0.length:Int))+v2)).toNat                 ([],[],Bool.false)).snd.fst,          v5 != v3)).length) then
 bif decide   ((IntKind.i64.wrap (IntKind.i64.wrap (v2 * (↑v0.length:Int))+v5)).toNat<    (v1.set (IntKind.i64.wrap (IntKind.i64.wrap (v5 * (↑v0.length:Int))+v2)).toNat         ((v1.getD (IntKind.i64.wrap (IntKind.i64.wrap (v5 * (↑v0.length:Int))+v2)).toNat               ([],[],Bool.false)).fst,          (v1.getD (IntKind.i64.wrap (IntKind.i64.wrap (v5 * (↑v0.length:Int))+v2)).toNat                 ([],[],Bool.false)).snd.fst,          v5 != v3)).length) then
 bif (↑((v1.set (IntKind.i64.wrap (IntKind.i64.wrap (v5 * (↑v0.length:Int))+v2)).toNat                 ((v1.getD (IntKind.i64.wrap (IntKind.i64.wrap (v5 * (↑v0.length:Int))+v2)).toNat                       ([],[],Bool.false)).fst,                  (v1.getD (IntKind.i64.wrap (IntKind.i64.wrap (v5 * (↑v0.length:Int))+v2)).toNat                         ([],[],Bool.false)).snd.fst,                  v5 != v3)).getD             (IntKind.i64.wrap (IntKind.i64.wrap (v2 * (↑v0.length:Int))+v5)).toNat             ([],[],Bool.false)).fst.length:    Int) ==   (12:Int) then
 ret (Bool.false,v0,v1.set (IntKind.i64.wrap (IntKind.i64.wrap (v5 * (↑v0.length:Int))+v2)).toNat   ((v1.getD (IntKind.i64.wrap (IntKind.i64.wrap (v5 * (↑v0.length:Int))+v2)).toNat ([],[],Bool.false)).fst,    (v1.getD (IntKind.i64.wrap (IntKind.i64.wrap (v5 * (↑v0.length:Int))+v2)).toNat           ([],[],Bool.false)).snd.fst,    v5 != v3))
 else
 bif decide   ((IntKind.i64.wrap (IntKind.i64.wrap (v2 * (↑v0.length:Int))+v5)).toNat<    (v1.set (IntKind.i64.wrap (IntKind.i64.wrap (v5 * (↑v0.length:Int))+v2)).toNat         ((v1.getD (IntKind.i64.wrap (IntKind.i64.wrap (v5 * (↑v0.length:Int))+v2)).toNat               ([],[],Bool.false)).fst,          (v1.getD (IntKind.i64.wrap (IntKind.i64.wrap (v5 * (↑v0.length:Int))+v2)).toNat                 ([],[],Bool.false)).snd.fst,          v5 != v3)).length) then
 bif decide   ((IntKind.i64.wrap (IntKind.i64.wrap (v2 * (↑v0.length:Int))+v5)).toNat<    (v1.set (IntKind.i64.wrap (IntKind.i64.wrap (v5 * (↑v0.length:Int))+v2)).toNat         ((v1.getD (IntKind.i64.wrap (IntKind.i64.wrap (v5 * (↑v0.length:Int))+v2)).toNat               ([],[],Bool.false)).fst,          (v1.getD (IntKind.i64.wrap (IntKind.i64.wrap (v5 * (↑v0.length:Int))+v2)).toNat                 ([],[],Bool.false)).snd.fst,          v5 != v3)).length) then
 bif decide   (((v1.set (IntKind.i64.wrap (IntKind.i64.wrap (v5 * (↑v0.length:Int))+v2)).toNat                 ((v1.getD (IntKind.i64.wrap (IntKind.i64.wrap (v5 * (↑v0.length:Int))+v2)).toNat                       ([],[],Bool.false)).fst,                  (v1.getD (IntKind.i64.wrap (IntKind.i64.wrap (v5 * (↑v0.length:Int))+v2)).toNat                         ([],[],Bool.false)).snd.fst,                  v5 != v3)).getD             (IntKind.i64.wrap (IntKind.i64.wrap (v2 * (↑v0.length:Int))+v5)).toNat             ([],[],Bool.false)).fst.length+      [(0:Int)].length≤    (4294967296:Nat)) then
 bif decide   ((IntKind.i64.wrap (IntKind.i64.wrap (v2 * (↑v0.length:Int))+v5)).toNat=    (IntKind.i64.wrap (IntKind.i64.wrap (v2 * (↑v0.length:Int))+v5)).toNat) then
 bif decide   ((IntKind.i64.wrap (IntKind.i64.wrap (v2 * (↑v0.length:Int))+v5)).toNat<    (v1.set (IntKind.i64.wrap (IntKind.i64.wrap (v5 * (↑v0.length:Int))+v2)).toNat         ((v1.getD (IntKind.i64.wrap (IntKind.i64.wrap (v5 * (↑v0.length:Int))+v2)).toNat               ([],[],Bool.false)).fst,          (v1.getD (IntKind.i64.wrap (IntKind.i64.wrap (v5 * (↑v0.length:Int))+v2)).toNat                 ([],[],Bool.false)).snd.fst,          v5 != v3)).length) then
 lp4 (v0) ((v1.set (IntKind.i64.wrap (IntKind.i64.wrap (v5 * (↑v0.length:Int))+v2)).toNat       ((v1.getD (IntKind.i64.wrap (IntKind.i64.wrap (v5 * (↑v0.length:Int))+v2)).toNat             ([],[],Bool.false)).fst,        (v1.getD (IntKind.i64.wrap (IntKind.i64.wrap (v5 * (↑v0.length:Int))+v2)).toNat               ([],[],Bool.false)).snd.fst,        v5 != v3)).set   (IntKind.i64.wrap (IntKind.i64.wrap (v2 * (↑v0.length:Int))+v5)).toNat   (((v1.set (IntKind.i64.wrap (IntKind.i64.wrap (v5 * (↑v0.length:Int))+v2)).toNat               ((v1.getD (IntKind.i64.wrap (IntKind.i64.wrap (v5 * (↑v0.length:Int))+v2)).toNat                     ([],[],Bool.false)).fst,                (v1.getD (IntKind.i64.wrap (IntKind.i64.wrap (v5 * (↑v0.length:Int))+v2)).toNat                       ([],[],Bool.false)).snd.fst,                v5 != v3)).getD           (IntKind.i64.wrap (IntKind.i64.wrap (v2 * (↑v0.length:Int))+v5)).toNat ([],[],Bool.false)).fst ++       [(0:Int)],    ((v1.set (IntKind.i64.wrap (IntKind.i64.wrap (v5 * (↑v0.length:Int))+v2)).toNat             ((v1.getD (IntKind.i64.wrap (IntKind.i64.wrap (v5 * (↑v0.length:Int))+v2)).toNat                   ([],[],Bool.false)).fst,              (v1.getD (IntKind.i64.wrap (IntKind.i64.wrap (v5 * (↑v0.length:Int))+v2)).toNat                     ([],[],Bool.false)).snd.fst,              v5 != v3)).getD         (IntKind.i64.wrap (IntKind.i64.wrap (v2 * (↑v0.length:Int))+v5)).toNat ([],[],Bool.false)).snd)) (v2) (v3) (v4) (IntKind.i64.wrap (v5+(1:Int)))
 else
 none
 else
 none
 else
 none
 else
 none
 else
 none
 else
 none
 else
 none
 else
 none
 else
 none
 else
 none
 else
 none
 else
 none
 else
 ret (Bool.true,v0,v1)
theorem xi0i.u:∀ b,xi0i.un (xi0i.mk b)=b:=fun _ => by kernel_rfl
theorem xi0i.eq (v0 v1 v2 v3) {b} (h:xi0i.t some xi0i.l4 v0 v1 v2 v3=some b):xi0i v0 v1 v2 v3=some b:=eqF xi0i.u Try.f95 (callT_le E tab) rfl rfl rfl (xi0i.t (rR xi0i.mk) xi0i.q4 v0 v1 v2 v3) (by kernel_rfl) (by unfold xi0i.t; repeat' first | exact sR | exact sN | exact sL | apply sC | (apply sB; intro _)) h
theorem xi0i.eq4 (v0 v1 v2 v3 v4 v5) {b} (h:xi0i.t4 some xi0i.l4 v0 v1 v2 v3 v4 v5=some b):xi0i.l4 v0 v1 v2 v3 v4 v5=some b:=eqL xi0i.u (xi0i.t4 (rR xi0i.mk) xi0i.q4 v0 v1 v2 v3 v4 v5) (by kernel_rfl) (by unfold xi0i.t4; repeat' first | exact sR | exact sN | exact sL | apply sC | (apply sB; intro _)) h
def xi0j.t {γ:Type} (ret:(Bool × (List (Int × Int × Bool)) × (List (List Int × List Int × Bool)))→Option γ) (v0:List (Int × Int × Bool)) (v1:List (List Int × List Int × Bool)) (v2:Int) (v3:Int) (v4:Int) (v5:Int):Option γ :=
 bif decide ((0:Int)≤IntKind.i64.wrap (IntKind.i64.wrap (v3 * (↑v0.length:Int))+v4)) then
 bif decide ((IntKind.i64.wrap (IntKind.i64.wrap (v3 * (↑v0.length:Int))+v4)).toNat<v1.length) then
 bif decide ((0:Int)≤v3) then
 bif decide (v3.toNat<v0.length) then
 bif decide (v3.toNat<v0.length) then
 (xi1f (v5) ((1:Int)) (if Bool.true=Bool.true then   if (1000000:Int)<(v0.getD v3.toNat ((0:Int),(0:Int),Bool.false)).fst then (1000000:Int)   else (v0.getD v3.toNat ((0:Int),(0:Int),Bool.false)).fst else   if (1000000:Int) > (v0.getD v3.toNat ((0:Int),(0:Int),Bool.false)).fst then (1000000:Int)   else (v0.getD v3.toNat ((0:Int),(0:Int),Bool.false)).fst)).bind fun (r0:Bool) =>
 bif !r0 then
 ret (Bool.false,v0,v1)
 else
 bif decide ((IntKind.i64.wrap (IntKind.i64.wrap (v3 * (↑v0.length:Int))+v4)).toNat<v1.length) then
 bif decide ((IntKind.i64.wrap (IntKind.i64.wrap (v3 * (↑v0.length:Int))+v4)).toNat<v1.length) then
 bif (↑(v1.getD (IntKind.i64.wrap (IntKind.i64.wrap (v3 * (↑v0.length:Int))+v4)).toNat             ([],[],Bool.false)).fst.length:    Int) ==   (12:Int) then
 ret (Bool.false,v0,v1)
 else
 bif decide ((0:Int)≤v3) then
 bif decide (v3.toNat<v0.length) then
 bif decide (v3.toNat<v0.length) then
 bif decide ((0:Int)≤v3) then
 bif decide (v3.toNat<v0.length) then
 bif decide (v3.toNat<v0.length) then
 bif decide ((IntKind.i64.wrap (IntKind.i64.wrap (v3 * (↑v0.length:Int))+v4)).toNat<v1.length) then
 bif decide ((IntKind.i64.wrap (IntKind.i64.wrap (v3 * (↑v0.length:Int))+v4)).toNat<v1.length) then
 bif decide   ((v1.getD (IntKind.i64.wrap (IntKind.i64.wrap (v3 * (↑v0.length:Int))+v4)).toNat             ([],[],Bool.false)).fst.length+      [v5].length≤    (4294967296:Nat)) then
 bif decide   ((IntKind.i64.wrap (IntKind.i64.wrap (v3 * (↑v0.length:Int))+v4)).toNat=    (IntKind.i64.wrap (IntKind.i64.wrap (v3 * (↑v0.length:Int))+v4)).toNat) then
 bif decide ((IntKind.i64.wrap (IntKind.i64.wrap (v3 * (↑v0.length:Int))+v4)).toNat<v1.length) then
 ret (Bool.true,v0.set v3.toNat   (IntKind.i64.wrap ((v0.getD v3.toNat ((0:Int),(0:Int),Bool.false)).fst - v5),    (v0.getD v3.toNat ((0:Int),(0:Int),Bool.false)).snd),v1.set (IntKind.i64.wrap (IntKind.i64.wrap (v3 * (↑v0.length:Int))+v4)).toNat   ((v1.getD (IntKind.i64.wrap (IntKind.i64.wrap (v3 * (↑v0.length:Int))+v4)).toNat           ([],[],Bool.false)).fst ++       [v5],    (v1.getD (IntKind.i64.wrap (IntKind.i64.wrap (v3 * (↑v0.length:Int))+v4)).toNat ([],[],Bool.false)).snd))
 else
 none
 else
 none
 else
 none
 else
 none
 else
 none
 else
 none
 else
 none
 else
 none
 else
 none
 else
 none
 else
 none
 else
 none
 else
 none
 else
 none
 else
 none
 else
 none
 else
 none
 else
 none
theorem xi0j.u:∀ b,xi0j.un (xi0j.mk b)=b:=fun _ => by kernel_rfl
theorem xi0j.eq (v0 v1 v2 v3 v4 v5) {b} (h:xi0j.t some v0 v1 v2 v3 v4 v5=some b):xi0j v0 v1 v2 v3 v4 v5=some b:=eqF xi0j.u Try.f96 (callT_le E tab) rfl rfl rfl (xi0j.t (rR xi0j.mk) v0 v1 v2 v3 v4 v5) (by kernel_rfl) (by unfold xi0j.t; repeat' first | exact sR | exact sN | exact sL | apply sC | (apply sB; intro _)) h
def xi0l.t {γ:Type} (ret:(Bool × (List (Int × Int × Bool)) × (List (List Int × List Int × Bool)))→Option γ) (v0:List (Int × Int × Bool)) (v1:List (List Int × List Int × Bool)) (v2:Int) (v3:Int):Option γ :=
 bif decide ((0:Int)≤IntKind.i64.wrap (IntKind.i64.wrap (v2 * (↑v0.length:Int))+v3)) then
 bif decide ((IntKind.i64.wrap (IntKind.i64.wrap (v2 * (↑v0.length:Int))+v3)).toNat<v1.length) then
 bif decide ((IntKind.i64.wrap (IntKind.i64.wrap (v2 * (↑v0.length:Int))+v3)).toNat<v1.length) then
 bif decide ((IntKind.i64.wrap (IntKind.i64.wrap (v2 * (↑v0.length:Int))+v3)).toNat<v1.length) then
 bif (↑(v1.getD (IntKind.i64.wrap (IntKind.i64.wrap (v2 * (↑v0.length:Int))+v3)).toNat             ([],[],Bool.false)).fst.length:    Int) ==   (0:Int) then
 ret (Bool.false,v0,v1)
 else
 bif decide ((IntKind.i64.wrap (IntKind.i64.wrap (v2 * (↑v0.length:Int))+v3)).toNat<v1.length) then
 bif decide ((IntKind.i64.wrap (IntKind.i64.wrap (v2 * (↑v0.length:Int))+v3)).toNat<v1.length) then
 bif decide   ((↑(v1.getD (IntKind.i64.wrap (IntKind.i64.wrap (v2 * (↑v0.length:Int))+v3)).toNat                 ([],[],Bool.false)).snd.fst.length:      Int) ≥     (200:Int)) then
 ret (Bool.false,v0,v1)
 else
 bif decide ((IntKind.i64.wrap (IntKind.i64.wrap (v2 * (↑v0.length:Int))+v3)).toNat<v1.length) then
 bif decide ((IntKind.i64.wrap (IntKind.i64.wrap (v2 * (↑v0.length:Int))+v3)).toNat<v1.length) then
 bif decide   (Int.toNat (0:Int)<    (v1.getD (IntKind.i64.wrap (IntKind.i64.wrap (v2 * (↑v0.length:Int))+v3)).toNat           ([],[],Bool.false)).fst.length) then
 bif decide ((IntKind.i64.wrap (IntKind.i64.wrap (v2 * (↑v0.length:Int))+v3)).toNat<v1.length) then
 bif decide   (Int.toNat (0:Int)<    (v1.getD (IntKind.i64.wrap (IntKind.i64.wrap (v2 * (↑v0.length:Int))+v3)).toNat           ([],[],Bool.false)).fst.length) then
 bif decide ((IntKind.i64.wrap (IntKind.i64.wrap (v2 * (↑v0.length:Int))+v3)).toNat<v1.length) then
 bif decide ((IntKind.i64.wrap (IntKind.i64.wrap (v2 * (↑v0.length:Int))+v3)).toNat<v1.length) then
 bif decide ((IntKind.i64.wrap (IntKind.i64.wrap (v2 * (↑v0.length:Int))+v3)).toNat<v1.length) then
 bif decide   ((Option.some (1:Int)).getD (0:Int)≤    (↑(v1.getD (IntKind.i64.wrap (IntKind.i64.wrap (v2 * (↑v0.length:Int))+v3)).toNat               ([],[],Bool.false)).fst.length:      Int)) then
 bif decide ((IntKind.i64.wrap (IntKind.i64.wrap (v2 * (↑v0.length:Int))+v3)).toNat<v1.length) then
 bif decide   ((IntKind.i64.wrap (IntKind.i64.wrap (v2 * (↑v0.length:Int))+v3)).toNat=    (IntKind.i64.wrap (IntKind.i64.wrap (v2 * (↑v0.length:Int))+v3)).toNat) then
 bif decide ((IntKind.i64.wrap (IntKind.i64.wrap (v2 * (↑v0.length:Int))+v3)).toNat<v1.length) then
 bif (v1.getD (IntKind.i64.wrap (IntKind.i64.wrap (v2 * (↑v0.length:Int))+v3)).toNat ([],[],Bool.false)).fst.getD     (Int.toNat (0:Int)) (0:Int) !=   (0:Int) then
 bif decide ((0:Int)≤v3) then
 bif decide (v3.toNat<v0.length) then
 bif decide (v3.toNat<v0.length) then
 bif decide ((0:Int)≤v3) then
 bif decide (v3.toNat<v0.length) then
 bif decide (v3.toNat<v0.length) then
 bif decide   ((IntKind.i64.wrap (IntKind.i64.wrap (v2 * (↑v0.length:Int))+v3)).toNat<    (v1.set (IntKind.i64.wrap (IntKind.i64.wrap (v2 * (↑v0.length:Int))+v3)).toNat         (List.drop ((Option.some (1:Int)).getD (0:Int)).toNat             (v1.getD (IntKind.i64.wrap (IntKind.i64.wrap (v2 * (↑v0.length:Int))+v3)).toNat                 ([],[],Bool.false)).fst,          (v1.getD (IntKind.i64.wrap (IntKind.i64.wrap (v2 * (↑v0.length:Int))+v3)).toNat               ([],[],Bool.false)).snd)).length) then
 bif ((v1.set (IntKind.i64.wrap (IntKind.i64.wrap (v2 * (↑v0.length:Int))+v3)).toNat           (List.drop ((Option.some (1:Int)).getD (0:Int)).toNat               (v1.getD (IntKind.i64.wrap (IntKind.i64.wrap (v2 * (↑v0.length:Int))+v3)).toNat                   ([],[],Bool.false)).fst,            (v1.getD (IntKind.i64.wrap (IntKind.i64.wrap (v2 * (↑v0.length:Int))+v3)).toNat                 ([],[],Bool.false)).snd)).getD       (IntKind.i64.wrap (IntKind.i64.wrap (v2 * (↑v0.length:Int))+v3)).toNat ([],[],Bool.false)).snd.snd then
 bif decide   ((IntKind.i64.wrap (IntKind.i64.wrap (v2 * (↑v0.length:Int))+v3)).toNat<    (v1.set (IntKind.i64.wrap (IntKind.i64.wrap (v2 * (↑v0.length:Int))+v3)).toNat         (List.drop ((Option.some (1:Int)).getD (0:Int)).toNat             (v1.getD (IntKind.i64.wrap (IntKind.i64.wrap (v2 * (↑v0.length:Int))+v3)).toNat                 ([],[],Bool.false)).fst,          (v1.getD (IntKind.i64.wrap (IntKind.i64.wrap (v2 * (↑v0.length:Int))+v3)).toNat               ([],[],Bool.false)).snd)).length) then
 bif decide   ((IntKind.i64.wrap (IntKind.i64.wrap (v2 * (↑v0.length:Int))+v3)).toNat<    (v1.set (IntKind.i64.wrap (IntKind.i64.wrap (v2 * (↑v0.length:Int))+v3)).toNat         (List.drop ((Option.some (1:Int)).getD (0:Int)).toNat             (v1.getD (IntKind.i64.wrap (IntKind.i64.wrap (v2 * (↑v0.length:Int))+v3)).toNat                 ([],[],Bool.false)).fst,          (v1.getD (IntKind.i64.wrap (IntKind.i64.wrap (v2 * (↑v0.length:Int))+v3)).toNat               ([],[],Bool.false)).snd)).length) then
 bif decide   (((v1.set (IntKind.i64.wrap (IntKind.i64.wrap (v2 * (↑v0.length:Int))+v3)).toNat                   (List.drop ((Option.some (1:Int)).getD (0:Int)).toNat                       (v1.getD (IntKind.i64.wrap (IntKind.i64.wrap (v2 * (↑v0.length:Int))+v3)).toNat                           ([],[],Bool.false)).fst,                    (v1.getD (IntKind.i64.wrap (IntKind.i64.wrap (v2 * (↑v0.length:Int))+v3)).toNat                         ([],[],Bool.false)).snd)).getD               (IntKind.i64.wrap (IntKind.i64.wrap (v2 * (↑v0.length:Int))+v3)).toNat               ([],[],Bool.false)).snd.fst.length+      [(v1.getD (IntKind.i64.wrap (IntKind.i64.wrap (v2 * (↑v0.length:Int))+v3)).toNat                   ([],[],Bool.false)).fst.getD             (Int.toNat (0:Int)) (0:Int)].length≤    (4294967296:Nat)) then
 bif decide   ((IntKind.i64.wrap (IntKind.i64.wrap (v2 * (↑v0.length:Int))+v3)).toNat=    (IntKind.i64.wrap (IntKind.i64.wrap (v2 * (↑v0.length:Int))+v3)).toNat) then
 bif decide   ((IntKind.i64.wrap (IntKind.i64.wrap (v2 * (↑v0.length:Int))+v3)).toNat<    (v1.set (IntKind.i64.wrap (IntKind.i64.wrap (v2 * (↑v0.length:Int))+v3)).toNat         (List.drop ((Option.some (1:Int)).getD (0:Int)).toNat             (v1.getD (IntKind.i64.wrap (IntKind.i64.wrap (v2 * (↑v0.length:Int))+v3)).toNat                 ([],[],Bool.false)).fst,          (v1.getD (IntKind.i64.wrap (IntKind.i64.wrap (v2 * (↑v0.length:Int))+v3)).toNat               ([],[],Bool.false)).snd)).length) then
 ret (Bool.true,v0.set v3.toNat   (IntKind.i64.wrap       ((v0.getD v3.toNat ((0:Int),(0:Int),Bool.false)).fst+        (v1.getD (IntKind.i64.wrap (IntKind.i64.wrap (v2 * (↑v0.length:Int))+v3)).toNat                 ([],[],Bool.false)).fst.getD           (Int.toNat (0:Int)) (0:Int)),    (v0.getD v3.toNat ((0:Int),(0:Int),Bool.false)).snd),(v1.set (IntKind.i64.wrap (IntKind.i64.wrap (v2 * (↑v0.length:Int))+v3)).toNat       (List.drop ((Option.some (1:Int)).getD (0:Int)).toNat           (v1.getD (IntKind.i64.wrap (IntKind.i64.wrap (v2 * (↑v0.length:Int))+v3)).toNat               ([],[],Bool.false)).fst,        (v1.getD (IntKind.i64.wrap (IntKind.i64.wrap (v2 * (↑v0.length:Int))+v3)).toNat             ([],[],Bool.false)).snd)).set   (IntKind.i64.wrap (IntKind.i64.wrap (v2 * (↑v0.length:Int))+v3)).toNat   (((v1.set (IntKind.i64.wrap (IntKind.i64.wrap (v2 * (↑v0.length:Int))+v3)).toNat             (List.drop ((Option.some (1:Int)).getD (0:Int)).toNat                 (v1.getD (IntKind.i64.wrap (IntKind.i64.wrap (v2 * (↑v0.length:Int))+v3)).toNat                     ([],[],Bool.false)).fst,              (v1.getD (IntKind.i64.wrap (IntKind.i64.wrap (v2 * (↑v0.length:Int))+v3)).toNat                   ([],[],Bool.false)).snd)).getD         (IntKind.i64.wrap (IntKind.i64.wrap (v2 * (↑v0.length:Int))+v3)).toNat ([],[],Bool.false)).fst,    ((v1.set (IntKind.i64.wrap (IntKind.i64.wrap (v2 * (↑v0.length:Int))+v3)).toNat                 (List.drop ((Option.some (1:Int)).getD (0:Int)).toNat                     (v1.getD (IntKind.i64.wrap (IntKind.i64.wrap (v2 * (↑v0.length:Int))+v3)).toNat                         ([],[],Bool.false)).fst,                  (v1.getD (IntKind.i64.wrap (IntKind.i64.wrap (v2 * (↑v0.length:Int))+v3)).toNat                       ([],[],Bool.false)).snd)).getD             (IntKind.i64.wrap (IntKind.i64.wrap (v2 * (↑v0.length:Int))+v3)).toNat             ([],[],Bool.false)).snd.fst ++       [(v1.getD (IntKind.i64.wrap (IntKind.i64.wrap (v2 * (↑v0.length:Int))+v3)).toNat                 ([],[],Bool.false)).fst.getD           (Int.toNat (0:Int)) (0:Int)],    ((v1.set (IntKind.i64.wrap (IntKind.i64.wrap (v2 * (↑v0.length:Int))+v3)).toNat               (List.drop ((Option.some (1:Int)).getD (0:Int)).toNat                   (v1.getD (IntKind.i64.wrap (IntKind.i64.wrap (v2 * (↑v0.length:Int))+v3)).toNat                       ([],[],Bool.false)).fst,                (v1.getD (IntKind.i64.wrap (IntKind.i64.wrap (v2 * (↑v0.length:Int))+v3)).toNat                     ([],[],Bool.false)).snd)).getD           (IntKind.i64.wrap (IntKind.i64.wrap (v2 * (↑v0.length:Int))+v3)).toNat           ([],[],Bool.false)).snd.snd))
 else
 none
 else
 none
 else
 none
 else
 none
 else
 none
 else
 ret (Bool.true,v0.set v3.toNat   (IntKind.i64.wrap       ((v0.getD v3.toNat ((0:Int),(0:Int),Bool.false)).fst+        (v1.getD (IntKind.i64.wrap (IntKind.i64.wrap (v2 * (↑v0.length:Int))+v3)).toNat                 ([],[],Bool.false)).fst.getD           (Int.toNat (0:Int)) (0:Int)),    (v0.getD v3.toNat ((0:Int),(0:Int),Bool.false)).snd),v1.set (IntKind.i64.wrap (IntKind.i64.wrap (v2 * (↑v0.length:Int))+v3)).toNat   (List.drop ((Option.some (1:Int)).getD (0:Int)).toNat       (v1.getD (IntKind.i64.wrap (IntKind.i64.wrap (v2 * (↑v0.length:Int))+v3)).toNat           ([],[],Bool.false)).fst,    (v1.getD (IntKind.i64.wrap (IntKind.i64.wrap (v2 * (↑v0.length:Int))+v3)).toNat ([],[],Bool.false)).snd))
 else
 none
 else
 none
 else
 none
 else
 none
 else
 none
 else
 none
 else
 none
 else
 bif decide ((0:Int)≤v3) then
 bif decide (v3.toNat<v0.length) then
 bif decide (v3.toNat<v0.length) then
 bif !(v0.getD v3.toNat ((0:Int),(0:Int),Bool.false)).snd.snd then
 (xi0i (v0) (v1.set (IntKind.i64.wrap (IntKind.i64.wrap (v2 * (↑v0.length:Int))+v3)).toNat   (List.drop ((Option.some (1:Int)).getD (0:Int)).toNat       (v1.getD (IntKind.i64.wrap (IntKind.i64.wrap (v2 * (↑v0.length:Int))+v3)).toNat           ([],[],Bool.false)).fst,    (v1.getD (IntKind.i64.wrap (IntKind.i64.wrap (v2 * (↑v0.length:Int))+v3)).toNat ([],[],Bool.false)).snd)) (v3) (v2)).bind fun (r0:Bool × (List (Int × Int × Bool)) × (List (List Int × List Int × Bool))) =>
 ret (r0.fst,r0.snd.fst,r0.snd.snd)
 else
 bif decide   ((IntKind.i64.wrap (IntKind.i64.wrap (v2 * (↑v0.length:Int))+v3)).toNat<    (v1.set (IntKind.i64.wrap (IntKind.i64.wrap (v2 * (↑v0.length:Int))+v3)).toNat         (List.drop ((Option.some (1:Int)).getD (0:Int)).toNat             (v1.getD (IntKind.i64.wrap (IntKind.i64.wrap (v2 * (↑v0.length:Int))+v3)).toNat                 ([],[],Bool.false)).fst,          (v1.getD (IntKind.i64.wrap (IntKind.i64.wrap (v2 * (↑v0.length:Int))+v3)).toNat               ([],[],Bool.false)).snd)).length) then
 ret (Bool.true,v0,(v1.set (IntKind.i64.wrap (IntKind.i64.wrap (v2 * (↑v0.length:Int))+v3)).toNat       (List.drop ((Option.some (1:Int)).getD (0:Int)).toNat           (v1.getD (IntKind.i64.wrap (IntKind.i64.wrap (v2 * (↑v0.length:Int))+v3)).toNat               ([],[],Bool.false)).fst,        (v1.getD (IntKind.i64.wrap (IntKind.i64.wrap (v2 * (↑v0.length:Int))+v3)).toNat             ([],[],Bool.false)).snd)).set   (IntKind.i64.wrap (IntKind.i64.wrap (v2 * (↑v0.length:Int))+v3)).toNat   (((v1.set (IntKind.i64.wrap (IntKind.i64.wrap (v2 * (↑v0.length:Int))+v3)).toNat             (List.drop ((Option.some (1:Int)).getD (0:Int)).toNat                 (v1.getD (IntKind.i64.wrap (IntKind.i64.wrap (v2 * (↑v0.length:Int))+v3)).toNat                     ([],[],Bool.false)).fst,              (v1.getD (IntKind.i64.wrap (IntKind.i64.wrap (v2 * (↑v0.length:Int))+v3)).toNat                   ([],[],Bool.false)).snd)).getD         (IntKind.i64.wrap (IntKind.i64.wrap (v2 * (↑v0.length:Int))+v3)).toNat ([],[],Bool.false)).fst,    ((v1.set (IntKind.i64.wrap (IntKind.i64.wrap (v2 * (↑v0.length:Int))+v3)).toNat               (List.drop ((Option.some (1:Int)).getD (0:Int)).toNat                   (v1.getD (IntKind.i64.wrap (IntKind.i64.wrap (v2 * (↑v0.length:Int))+v3)).toNat                       ([],[],Bool.false)).fst,                (v1.getD (IntKind.i64.wrap (IntKind.i64.wrap (v2 * (↑v0.length:Int))+v3)).toNat                     ([],[],Bool.false)).snd)).getD           (IntKind.i64.wrap (IntKind.i64.wrap (v2 * (↑v0.length:Int))+v3)).toNat           ([],[],Bool.false)).snd.fst,    Bool.false))
 else
 none
 else
 none
 else
 none
 else
 none
 else
 none
 else
 none
 else
 none
 else
 none
 else
 none
 else
 none
 else
 none
 else
 none
 else
 none
 else
 none
 else
 none
 else
 none
 else
 none
 else
 none
 else
 none
 else
 none
 else
 none
 else
 none
theorem xi0l.u:∀ b,xi0l.un (xi0l.mk b)=b:=fun _ => by kernel_rfl
theorem xi0l.eq (v0 v1 v2 v3) {b} (h:xi0l.t some v0 v1 v2 v3=some b):xi0l v0 v1 v2 v3=some b:=eqF xi0l.u Try.f97 (callT_le E tab) rfl rfl rfl (xi0l.t (rR xi0l.mk) v0 v1 v2 v3) (by kernel_rfl) (by unfold xi0l.t; repeat' first | exact sR | exact sN | exact sL | apply sC | (apply sB; intro _)) h
def xs19.s6 (v0:List (Int × Int × Bool)) (v1:List (List Int × List Int × Bool)) (v2:List (Int × Int × Bool)) (v3:List (List Int × List Int × Bool)) (v4:List Bool) (v5:List (Int × Int × Int × Int)) (v6:Int) (v7:Int):List Cell:=nn 4 (⟨(.box false),[.d .deep Yc v0,.d .deep Yb v1],false,false,false,0,0⟩::nn 2 (⟨(.box false),[.d .deep Yc v2,.d .deep Yb v3],false,false,false,0,0⟩::nn 1 (vc (.d .deep (.sl .bool) v4)::nn 17 (vc (.d .fro Ya v5)::vc (iL v6)::vc (iL v7)::nn 18 ([])))))
def xs19.q6:=fun v0 v1 v2 v3 v4 v5 v6 v7 => loopAtL E (callT E tab) 19 Try.f19 2 [.r,.r,.r,.r,.l,.r,.b] (xs19.s6 v0 v1 v2 v3 v4 v5 v6 v7)
def xs19.l6:=fun v0 v1 v2 v3 v4 v5 v6 v7 => tOf xs19.mk (xs19.q6 v0 v1 v2 v3 v4 v5 v6 v7)
def xs19.t {γ:Type} (ret:((List (Int × Int × Bool)) × (List (List Int × List Int × Bool)) × (List Bool) × Bool)→Option γ) (lp6:(List (Int × Int × Bool))→(List (List Int × List Int × Bool))→(List (Int × Int × Bool))→(List (List Int × List Int × Bool))→(List Bool)→(List (Int × Int × Int × Int))→Int→Int→Option γ) (v0:List Int) (v1:List (Int × Int × Int × Int)):Option γ :=
 (xs1e (v0)).bind fun (r0:(List (Int × Int × Bool)) × (List (List Int × List Int × Bool)) × Bool) =>
 bif !r0.snd.snd then
 ret ([],[],[],Bool.false)
 else
 bif decide ((↑v1.length:Int) > (120:Int)) then
 ret ([],[],[],Bool.false)
 else
 lp6 ([]) ([]) (r0.fst) (r0.snd.fst) ([]) (v1) ((↑v1.length:Int)) ((0:Int))
def xs19.t6 {γ:Type} (ret:((List (Int × Int × Bool)) × (List (List Int × List Int × Bool)) × (List Bool) × Bool)→Option γ) (lp6:(List (Int × Int × Bool))→(List (List Int × List Int × Bool))→(List (Int × Int × Bool))→(List (List Int × List Int × Bool))→(List Bool)→(List (Int × Int × Int × Int))→Int→Int→Option γ) (v0:List (Int × Int × Bool)) (v1:List (List Int × List Int × Bool)) (v2:List (Int × Int × Bool)) (v3:List (List Int × List Int × Bool)) (v4:List Bool) (v5:List (Int × Int × Int × Int)) (v6:Int) (v7:Int):Option γ :=
 bif decide (v7<v6) then
 bif decide ((0:Int)≤v7) then
 bif decide (v7.toNat<v5.length) then
 (xs1a (v2) (v3) ((v5.getD v7.toNat ((0:Int),(0:Int),(0:Int),(0:Int))).fst) ((v5.getD v7.toNat ((0:Int),(0:Int),(0:Int),(0:Int))).snd.fst) ((v5.getD v7.toNat ((0:Int),(0:Int),(0:Int),(0:Int))).snd.snd.fst) ((v5.getD v7.toNat ((0:Int),(0:Int),(0:Int),(0:Int))).snd.snd.snd)).bind fun (r1:(List (Int × Int × Bool)) × (List (List Int × List Int × Bool)) × Bool) =>
 bif r1.snd.snd then
 bif decide (v4.length+[r1.snd.snd].length≤(4294967296:Nat)) then
 lp6 (v0) (v1) (r1.fst) (r1.snd.fst) (v4 ++ [r1.snd.snd]) (v5) (v6) (IntKind.i64.wrap (v7+(1:Int)))
 else
 none
 else
 bif decide (v4.length+[r1.snd.snd].length≤(4294967296:Nat)) then
 lp6 (v0) (v1) (v2) (v3) (v4 ++ [r1.snd.snd]) (v5) (v6) (IntKind.i64.wrap (v7+(1:Int)))
 else
 none
 else
 none
 else
 none
 else
 ret (v2,v3,v4,Bool.true)
theorem xs19.u:∀ b,xs19.un (xs19.mk b)=b:=fun _ => by kernel_rfl
theorem xs19.eq (v0 v1) {b} (h:xs19.t some xs19.l6 v0 v1=some b):xs19 v0 v1=some b:=eqF xs19.u Try.f19 (callT_le E tab) rfl rfl rfl (xs19.t (rR xs19.mk) xs19.q6 v0 v1) (by kernel_rfl) (by unfold xs19.t; repeat' first | exact sR | exact sN | exact sL | apply sC | (apply sB; intro _)) h
theorem xs19.eq6 (v0 v1 v2 v3 v4 v5 v6 v7) {b} (h:xs19.t6 some xs19.l6 v0 v1 v2 v3 v4 v5 v6 v7=some b):xs19.l6 v0 v1 v2 v3 v4 v5 v6 v7=some b:=eqL xs19.u (xs19.t6 (rR xs19.mk) xs19.q6 v0 v1 v2 v3 v4 v5 v6 v7) (by kernel_rfl) (by unfold xs19.t6; repeat' first | exact sR | exact sN | exact sL | apply sC | (apply sB; intro _)) h
def xs1e.s3 (v0:List Int) (v1:List (Int × Int × Bool)) (v2:List (List Int × List Int × Bool)) (v3:List (Int × Int × Bool)) (v4:List (List Int × List Int × Bool)) (v5:List Int) (v6:Int) (v7:Int):List Cell:=vc (.d .fro (.sl (.int .i64)) v0)::nn 1 (⟨(.box false),[.d .deep Yc v1,.d .deep Yb v2],false,false,false,0,0⟩::nn 1 (⟨(.box false),[.d .deep Yc v3,.d .deep Yb v4],false,false,false,0,0⟩::nn 3 (vc (.d .fro (.sl (.int .i64)) v5)::vc (iL v6)::vc (iL v7)::nn 23 ([]))))
def xs1e.q3:=fun v0 v1 v2 v3 v4 v5 v6 v7 => loopAtL E (callT E tab) 61 Try.f61 1 [.r,.r,.l,.r,.b] (xs1e.s3 v0 v1 v2 v3 v4 v5 v6 v7)
def xs1e.l3:=fun v0 v1 v2 v3 v4 v5 v6 v7 => tOf xs1e.mk (xs1e.q3 v0 v1 v2 v3 v4 v5 v6 v7)
def xs1e.t {γ:Type} (ret:((List (Int × Int × Bool)) × (List (List Int × List Int × Bool)) × Bool)→Option γ) (lp3:(List Int)→(List (Int × Int × Bool))→(List (List Int × List Int × Bool))→(List (Int × Int × Bool))→(List (List Int × List Int × Bool))→(List Int)→Int→Int→Option γ) (v0:List Int):Option γ :=
 lp3 (v0) ([]) ([]) ([]) ([]) (v0) ((↑v0.length:Int)) ((0:Int))
def xs1e.t3 {γ:Type} (ret:((List (Int × Int × Bool)) × (List (List Int × List Int × Bool)) × Bool)→Option γ) (lp3:(List Int)→(List (Int × Int × Bool))→(List (List Int × List Int × Bool))→(List (Int × Int × Bool))→(List (List Int × List Int × Bool))→(List Int)→Int→Int→Option γ) (v0:List Int) (v1:List (Int × Int × Bool)) (v2:List (List Int × List Int × Bool)) (v3:List (Int × Int × Bool)) (v4:List (List Int × List Int × Bool)) (v5:List Int) (v6:Int) (v7:Int):Option γ :=
 bif decide (v7<v6) then
 bif decide ((0:Int)≤v7) then
 bif decide (v7.toNat<v5.length) then
 bif decide (v3.length+[(v5.getD v7.toNat (0:Int),(0:Int),Bool.false)].length≤(4294967296:Nat)) then
 lp3 (v0) (v1) (v2) (v3 ++ [(v5.getD v7.toNat (0:Int),(0:Int),Bool.false)]) (v4) (v5) (v6) (IntKind.i64.wrap (v7+(1:Int)))
 else
 none
 else
 none
 else
 none
 else
 bif decide   (IntKind.i64.wrap ((↑v0.length:Int) * (↑v0.length:Int))=    IntKind.i64.wrap ((↑v0.length:Int) * (↑v0.length:Int))) then
 bif decide ((0:Int)≤IntKind.i64.wrap ((↑v0.length:Int) * (↑v0.length:Int))) then
 bif decide   (IntKind.i64.wrap ((↑v0.length:Int) * (↑v0.length:Int)) * (↑((1:Nat)+((1:Nat)+(1:Nat))):Int)≤    (4398046511104:Int)) then
 (xs18 (v3) (List.replicate (IntKind.i64.wrap ((↑v0.length:Int) * (↑v0.length:Int))).toNat ([],[],Bool.false))).bind fun (r0:Bool) =>
 bif !r0 then
 ret ([],[],Bool.false)
 else
 ret (v3,List.replicate (IntKind.i64.wrap ((↑v0.length:Int) * (↑v0.length:Int))).toNat ([],[],Bool.false),Bool.true)
 else
 none
 else
 none
 else
 none
theorem xs1e.u:∀ b,xs1e.un (xs1e.mk b)=b:=fun _ => by kernel_rfl
theorem xs1e.eq (v0) {b} (h:xs1e.t some xs1e.l3 v0=some b):xs1e v0=some b:=eqF xs1e.u Try.f61 (callT_le E tab) rfl rfl rfl (xs1e.t (rR xs1e.mk) xs1e.q3 v0) (by kernel_rfl) (by unfold xs1e.t; repeat' first | exact sR | exact sN | exact sL | apply sC | (apply sB; intro _)) h
theorem xs1e.eq3 (v0 v1 v2 v3 v4 v5 v6 v7) {b} (h:xs1e.t3 some xs1e.l3 v0 v1 v2 v3 v4 v5 v6 v7=some b):xs1e.l3 v0 v1 v2 v3 v4 v5 v6 v7=some b:=eqL xs1e.u (xs1e.t3 (rR xs1e.mk) xs1e.q3 v0 v1 v2 v3 v4 v5 v6 v7) (by kernel_rfl) (by unfold xs1e.t3; repeat' first | exact sR | exact sN | exact sL | apply sC | (apply sB; intro _)) h
def xs18.s23 (v0:List (Int × Int × Bool)) (v1:List (List Int × List Int × Bool)) (v2:Int) (v3:Int) (v4:Int) (v5:List Int) (v6:List Int) (v7:Bool) (v8:List (List Int × List Int × Bool)) (v9:Int) (v10:Int) (v11:List Int) (v12:Int) (v13:Int):List Cell:=nn 1 (⟨(.box false),[.d .fro Yc v0,.d .fro Yb v1],false,false,false,0,0⟩::nn 1 (vc (iL v2)::vc (iL v3)::nn 2 (vc (iL v4)::⟨(.box false),[.d .fro (.sl (.int .i64)) v5,.d .fro (.sl (.int .i64)) v6,bL v7],false,false,false,0,0⟩::nn 55 (vc (.d .fro Yb v8)::vc (iL v9)::vc (iL v10)::nn 19 (vc (.d .fro (.sl (.int .i64)) v11)::vc (iL v12)::vc (iL v13)::nn 73 ([]))))))
def xs18.q23:=fun v0 v1 v2 v3 v4 v5 v6 v7 v8 v9 v10 v11 v12 v13 => loopAtL E (callT E tab) 43 Try.f43 1 [.r,.r,.r,.r,.r,.l,.r,.b,.o,.r,.r,.l,.b,.r,.r,.l,.r,.b] (xs18.s23 v0 v1 v2 v3 v4 v5 v6 v7 v8 v9 v10 v11 v12 v13)
def xs18.l23:=fun v0 v1 v2 v3 v4 v5 v6 v7 v8 v9 v10 v11 v12 v13 => tOf xs18.mk (xs18.q23 v0 v1 v2 v3 v4 v5 v6 v7 v8 v9 v10 v11 v12 v13)
def xs18.s16 (v0:List (Int × Int × Bool)) (v1:List (List Int × List Int × Bool)) (v2:Int) (v3:Int) (v4:Int) (v5:List Int) (v6:List Int) (v7:Bool) (v8:List (List Int × List Int × Bool)) (v9:Int) (v10:Int) (v11:List Int) (v12:Int) (v13:Int):List Cell:=nn 1 (⟨(.box false),[.d .fro Yc v0,.d .fro Yb v1],false,false,false,0,0⟩::nn 1 (vc (iL v2)::vc (iL v3)::nn 2 (vc (iL v4)::⟨(.box false),[.d .fro (.sl (.int .i64)) v5,.d .fro (.sl (.int .i64)) v6,bL v7],false,false,false,0,0⟩::nn 55 (vc (.d .fro Yb v8)::vc (iL v9)::vc (iL v10)::nn 5 (vc (.d .fro (.sl (.int .i64)) v11)::vc (iL v12)::vc (iL v13)::nn 87 ([]))))))
def xs18.q16:=fun v0 v1 v2 v3 v4 v5 v6 v7 v8 v9 v10 v11 v12 v13 => loopAtL E (callT E tab) 43 Try.f43 1 [.r,.r,.r,.r,.r,.l,.r,.b,.o,.r,.r,.l,.b,.r,.l,.r,.b] (xs18.s16 v0 v1 v2 v3 v4 v5 v6 v7 v8 v9 v10 v11 v12 v13)
def xs18.l16:=fun v0 v1 v2 v3 v4 v5 v6 v7 v8 v9 v10 v11 v12 v13 => tOf xs18.mk (xs18.q16 v0 v1 v2 v3 v4 v5 v6 v7 v8 v9 v10 v11 v12 v13)
def xs18.s13 (v0:List (Int × Int × Bool)) (v1:List (List Int × List Int × Bool)) (v2:Int) (v3:Int) (v4:List (List Int × List Int × Bool)) (v5:Int) (v6:Int):List Cell:=nn 1 (⟨(.box false),[.d .fro Yc v0,.d .fro Yb v1],false,false,false,0,0⟩::nn 1 (vc (iL v2)::vc (iL v3)::nn 59 (vc (.d .fro Yb v4)::vc (iL v5)::vc (iL v6)::nn 95 ([]))))
def xs18.q13:=fun v0 v1 v2 v3 v4 v5 v6 => loopAtL E (callT E tab) 43 Try.f43 1 [.r,.r,.r,.r,.r,.l,.r,.b] (xs18.s13 v0 v1 v2 v3 v4 v5 v6)
def xs18.l13:=fun v0 v1 v2 v3 v4 v5 v6 => tOf xs18.mk (xs18.q13 v0 v1 v2 v3 v4 v5 v6)
def xs18.s6 (v0:List (Int × Int × Bool)) (v1:List (List Int × List Int × Bool)) (v2:Int) (v3:Int) (v4:List (Int × Int × Bool)) (v5:Int) (v6:Int):List Cell:=nn 1 (⟨(.box false),[.d .fro Yc v0,.d .fro Yb v1],false,false,false,0,0⟩::nn 1 (vc (iL v2)::vc (iL v3)::nn 24 (vc (.d .fro Yc v4)::vc (iL v5)::vc (iL v6)::nn 130 ([]))))
def xs18.q6:=fun v0 v1 v2 v3 v4 v5 v6 => loopAtL E (callT E tab) 43 Try.f43 1 [.r,.r,.r,.r,.l,.r,.b] (xs18.s6 v0 v1 v2 v3 v4 v5 v6)
def xs18.l6:=fun v0 v1 v2 v3 v4 v5 v6 => tOf xs18.mk (xs18.q6 v0 v1 v2 v3 v4 v5 v6)
def xs18.t {γ:Type} (ret:(Bool)→Option γ) (lp6:(List (Int × Int × Bool))→(List (List Int × List Int × Bool))→Int→Int→(List (Int × Int × Bool))→Int→Int→Option γ) (v0:List (Int × Int × Bool)) (v1:List (List Int × List Int × Bool)):Option γ :=
 (xs1i ((↑v0.length:Int)) ((2:Int)) ((4:Int))).bind fun (r0:Bool) =>
 bif !r0 then
 ret (Bool.false)
 else
 bif (↑v1.length:Int) != IntKind.i64.wrap ((↑v0.length:Int) * (↑v0.length:Int)) then
 ret (Bool.false)
 else
 lp6 (v0) (v1) ((↑v0.length:Int)) ((0:Int)) (v0) ((↑v0.length:Int)) ((0:Int))
def xs18.t23 {γ:Type} (ret:(Bool)→Option γ) (lp23:(List (Int × Int × Bool))→(List (List Int × List Int × Bool))→Int→Int→Int→(List Int)→(List Int)→Bool→(List (List Int × List Int × Bool))→Int→Int→(List Int)→Int→Int→Option γ) (lp13:(List (Int × Int × Bool))→(List (List Int × List Int × Bool))→Int→Int→(List (List Int × List Int × Bool))→Int→Int→Option γ) (v0:List (Int × Int × Bool)) (v1:List (List Int × List Int × Bool)) (v2:Int) (v3:Int) (v4:Int) (v5:List Int) (v6:List Int) (v7:Bool) (v8:List (List Int × List Int × Bool)) (v9:Int) (v10:Int) (v11:List Int) (v12:Int) (v13:Int):Option γ :=
 bif decide (v13<v12) then
 bif decide ((0:Int)≤v13) then
 bif decide (v13.toNat<v11.length) then
 bif v11.getD v13.toNat (0:Int) == (0:Int) then
 ret (Bool.false)
 else
 (xs13 (v11.getD v13.toNat (0:Int))).bind fun (r4:Bool) =>
 bif !r4 then
 ret (Bool.false)
 else
 lp23 (v0) (v1) (v2) (IntKind.i64.wrap (v3+v11.getD v13.toNat (0:Int))) (v4) (v5) (v6) (v7) (v8) (v9) (v10) (v11) (v12) (IntKind.i64.wrap (v13+(1:Int)))
 else
 none
 else
 none
 else
 bif decide ((↑v5.length:Int) > (12:Int)) then
 ret (Bool.false)
 else
 bif decide ((↑v6.length:Int) > (200:Int)) then
 ret (Bool.false)
 else
 bif decide (v2≠(0:Int)) then
 bif decide (v2≠(0:Int)) then
 bif IntKind.i64.wrap (v4.tdiv v2) == v4.tmod v2 then
 bif decide ((↑v5.length:Int) > (0:Int)) then
 ret (Bool.false)
 else
 bif decide ((↑v6.length:Int) > (0:Int)) then
 ret (Bool.false)
 else
 bif v7 then
 ret (Bool.false)
 else
 bif decide (v2≠(0:Int)) then
 bif decide ((0:Int)≤v4.tmod v2) then
 bif decide ((v4.tmod v2).toNat<v0.length) then
 bif !(v0.getD (v4.tmod v2).toNat ((0:Int),(0:Int),Bool.false)).snd.snd then
 bif v7 then
 ret (Bool.false)
 else
 bif decide ((↑v6.length:Int) > (0:Int)) then
 ret (Bool.false)
 else
 lp13 (v0) (v1) (v2) (v3) (v8) (v9) (IntKind.i64.wrap (v10+(1:Int)))
 else
 lp13 (v0) (v1) (v2) (v3) (v8) (v9) (IntKind.i64.wrap (v10+(1:Int)))
 else
 none
 else
 none
 else
 none
 else
 bif decide (v2≠(0:Int)) then
 bif decide ((0:Int)≤v4.tmod v2) then
 bif decide ((v4.tmod v2).toNat<v0.length) then
 bif !(v0.getD (v4.tmod v2).toNat ((0:Int),(0:Int),Bool.false)).snd.snd then
 bif v7 then
 ret (Bool.false)
 else
 bif decide ((↑v6.length:Int) > (0:Int)) then
 ret (Bool.false)
 else
 lp13 (v0) (v1) (v2) (v3) (v8) (v9) (IntKind.i64.wrap (v10+(1:Int)))
 else
 lp13 (v0) (v1) (v2) (v3) (v8) (v9) (IntKind.i64.wrap (v10+(1:Int)))
 else
 none
 else
 none
 else
 none
 else
 none
 else
 none
def xs18.t16 {γ:Type} (ret:(Bool)→Option γ) (lp23:(List (Int × Int × Bool))→(List (List Int × List Int × Bool))→Int→Int→Int→(List Int)→(List Int)→Bool→(List (List Int × List Int × Bool))→Int→Int→(List Int)→Int→Int→Option γ) (lp16:(List (Int × Int × Bool))→(List (List Int × List Int × Bool))→Int→Int→Int→(List Int)→(List Int)→Bool→(List (List Int × List Int × Bool))→Int→Int→(List Int)→Int→Int→Option γ) (v0:List (Int × Int × Bool)) (v1:List (List Int × List Int × Bool)) (v2:Int) (v3:Int) (v4:Int) (v5:List Int) (v6:List Int) (v7:Bool) (v8:List (List Int × List Int × Bool)) (v9:Int) (v10:Int) (v11:List Int) (v12:Int) (v13:Int):Option γ :=
 bif decide (v13<v12) then
 bif decide ((0:Int)≤v13) then
 bif decide (v13.toNat<v11.length) then
 (xs13 (v11.getD v13.toNat (0:Int))).bind fun (r3:Bool) =>
 bif !r3 then
 ret (Bool.false)
 else
 lp16 (v0) (v1) (v2) (IntKind.i64.wrap (v3+v11.getD v13.toNat (0:Int))) (v4) (v5) (v6) (v7) (v8) (v9) (v10) (v11) (v12) (IntKind.i64.wrap (v13+(1:Int)))
 else
 none
 else
 none
 else
 lp23 (v0) (v1) (v2) (v3) (v4) (v5) (v6) (v7) (v8) (v9) (v10) (v6) ((↑v6.length:Int)) ((0:Int))
def xs18.t13 {γ:Type} (ret:(Bool)→Option γ) (lp16:(List (Int × Int × Bool))→(List (List Int × List Int × Bool))→Int→Int→Int→(List Int)→(List Int)→Bool→(List (List Int × List Int × Bool))→Int→Int→(List Int)→Int→Int→Option γ) (v0:List (Int × Int × Bool)) (v1:List (List Int × List Int × Bool)) (v2:Int) (v3:Int) (v4:List (List Int × List Int × Bool)) (v5:Int) (v6:Int):Option γ :=
 bif decide (v6<v5) then
 bif decide ((0:Int)≤v6) then
 bif decide (v6.toNat<v4.length) then
 lp16 (v0) (v1) (v2) (v3) (v6) ((v4.getD v6.toNat ([],[],Bool.false)).fst) ((v4.getD v6.toNat ([],[],Bool.false)).snd.fst) ((v4.getD v6.toNat ([],[],Bool.false)).snd.snd) (v4) (v5) (v6) ((v4.getD v6.toNat ([],[],Bool.false)).fst) ((↑(v4.getD v6.toNat ([],[],Bool.false)).fst.length:Int)) ((0:Int))
 else
 none
 else
 none
 else
 ret (decide (v3≤(2000000000:Int)))
def xs18.t6 {γ:Type} (ret:(Bool)→Option γ) (lp13:(List (Int × Int × Bool))→(List (List Int × List Int × Bool))→Int→Int→(List (List Int × List Int × Bool))→Int→Int→Option γ) (lp6:(List (Int × Int × Bool))→(List (List Int × List Int × Bool))→Int→Int→(List (Int × Int × Bool))→Int→Int→Option γ) (v0:List (Int × Int × Bool)) (v1:List (List Int × List Int × Bool)) (v2:Int) (v3:Int) (v4:List (Int × Int × Bool)) (v5:Int) (v6:Int):Option γ :=
 bif decide (v6<v5) then
 bif decide ((0:Int)≤v6) then
 bif decide (v6.toNat<v4.length) then
 (xs1i ((v4.getD v6.toNat ((0:Int),(0:Int),Bool.false)).fst) ((0:Int)) ((2000000000:Int))).bind fun (r1:Bool) =>
 bif !r1 then
 ret (Bool.false)
 else
 (xs1i ((v4.getD v6.toNat ((0:Int),(0:Int),Bool.false)).snd.fst) ((0:Int)) ((2000000000:Int))).bind fun (r2:Bool) =>
 bif !r2 then
 ret (Bool.false)
 else
 bif !(v4.getD v6.toNat ((0:Int),(0:Int),Bool.false)).snd.snd then
 bif (v4.getD v6.toNat ((0:Int),(0:Int),Bool.false)).snd.fst != (0:Int) then
 ret (Bool.false)
 else
 lp6 (v0) (v1) (v2) (IntKind.i64.wrap   (v3+    IntKind.i64.wrap       ((v4.getD v6.toNat ((0:Int),(0:Int),Bool.false)).fst+        (v4.getD v6.toNat ((0:Int),(0:Int),Bool.false)).snd.fst))) (v4) (v5) (IntKind.i64.wrap (v6+(1:Int)))
 else
 lp6 (v0) (v1) (v2) (IntKind.i64.wrap   (v3+    IntKind.i64.wrap       ((v4.getD v6.toNat ((0:Int),(0:Int),Bool.false)).fst+        (v4.getD v6.toNat ((0:Int),(0:Int),Bool.false)).snd.fst))) (v4) (v5) (IntKind.i64.wrap (v6+(1:Int)))
 else
 none
 else
 none
 else
 lp13 (v0) (v1) (v2) (v3) (v1) ((↑v1.length:Int)) ((0:Int))
theorem xs18.u:∀ b,xs18.un (xs18.mk b)=b:=fun _ => by kernel_rfl
theorem xs18.eq (v0 v1) {b} (h:xs18.t some xs18.l6 v0 v1=some b):xs18 v0 v1=some b:=eqF xs18.u Try.f43 (callT_le E tab) rfl rfl rfl (xs18.t (rR xs18.mk) xs18.q6 v0 v1) (by kernel_rfl) (by unfold xs18.t; repeat' first | exact sR | exact sN | exact sL | apply sC | (apply sB; intro _)) h
theorem xs18.eq23 (v0 v1 v2 v3 v4 v5 v6 v7 v8 v9 v10 v11 v12 v13) {b} (h:xs18.t23 some xs18.l23 xs18.l13 v0 v1 v2 v3 v4 v5 v6 v7 v8 v9 v10 v11 v12 v13=some b):xs18.l23 v0 v1 v2 v3 v4 v5 v6 v7 v8 v9 v10 v11 v12 v13=some b:=eqL xs18.u (xs18.t23 (rR xs18.mk) xs18.q23 xs18.q13 v0 v1 v2 v3 v4 v5 v6 v7 v8 v9 v10 v11 v12 v13) (by kernel_rfl) (by unfold xs18.t23; repeat' first | exact sR | exact sN | exact sL | apply sC | (apply sB; intro _)) h
theorem xs18.eq16 (v0 v1 v2 v3 v4 v5 v6 v7 v8 v9 v10 v11 v12 v13) {b} (h:xs18.t16 some xs18.l23 xs18.l16 v0 v1 v2 v3 v4 v5 v6 v7 v8 v9 v10 v11 v12 v13=some b):xs18.l16 v0 v1 v2 v3 v4 v5 v6 v7 v8 v9 v10 v11 v12 v13=some b:=eqL xs18.u (xs18.t16 (rR xs18.mk) xs18.q23 xs18.q16 v0 v1 v2 v3 v4 v5 v6 v7 v8 v9 v10 v11 v12 v13) (by kernel_rfl) (by unfold xs18.t16; repeat' first | exact sR | exact sN | exact sL | apply sC | (apply sB; intro _)) h
theorem xs18.eq13 (v0 v1 v2 v3 v4 v5 v6) {b} (h:xs18.t13 some xs18.l16 v0 v1 v2 v3 v4 v5 v6=some b):xs18.l13 v0 v1 v2 v3 v4 v5 v6=some b:=eqL xs18.u (xs18.t13 (rR xs18.mk) xs18.q16 v0 v1 v2 v3 v4 v5 v6) (by kernel_rfl) (by unfold xs18.t13; repeat' first | exact sR | exact sN | exact sL | apply sC | (apply sB; intro _)) h
theorem xs18.eq6 (v0 v1 v2 v3 v4 v5 v6) {b} (h:xs18.t6 some xs18.l13 xs18.l6 v0 v1 v2 v3 v4 v5 v6=some b):xs18.l6 v0 v1 v2 v3 v4 v5 v6=some b:=eqL xs18.u (xs18.t6 (rR xs18.mk) xs18.q13 xs18.q6 v0 v1 v2 v3 v4 v5 v6) (by kernel_rfl) (by unfold xs18.t6; repeat' first | exact sR | exact sN | exact sL | apply sC | (apply sB; intro _)) h
def xs1i.t {γ:Type} (ret:(Bool)→Option γ) (v0:Int) (v1:Int) (v2:Int):Option γ :=
 bif decide (v0 ≥ v1) then
 ret (decide (v0≤v2))
 else
 ret (Bool.false)
theorem xs1i.u:∀ b,xs1i.un (xs1i.mk b)=b:=fun _ => by kernel_rfl
theorem xs1i.eq (v0 v1 v2) {b} (h:xs1i.t some v0 v1 v2=some b):xs1i v0 v1 v2=some b:=eqF xs1i.u Try.f76 (callT_le E tab) rfl rfl rfl (xs1i.t (rR xs1i.mk) v0 v1 v2) (by kernel_rfl) (by unfold xs1i.t; repeat' first | exact sR | exact sN | exact sL | apply sC | (apply sB; intro _)) h
def xs13.t {γ:Type} (ret:(Bool)→Option γ) (v0:Int):Option γ :=
 (xs1i (v0) ((0:Int)) ((1000000:Int))).bind fun (r0:Bool) =>
 ret (r0)
theorem xs13.u:∀ b,xs13.un (xs13.mk b)=b:=fun _ => by kernel_rfl
theorem xs13.eq (v0) {b} (h:xs13.t some v0=some b):xs13 v0=some b:=eqF xs13.u Try.f77 (callT_le E tab) rfl rfl rfl (xs13.t (rR xs13.mk) v0) (by kernel_rfl) (by unfold xs13.t; repeat' first | exact sR | exact sN | exact sL | apply sC | (apply sB; intro _)) h
def xs1a.t {γ:Type} (ret:((List (Int × Int × Bool)) × (List (List Int × List Int × Bool)) × Bool)→Option γ) (v0:List (Int × Int × Bool)) (v1:List (List Int × List Int × Bool)) (v2:Int) (v3:Int) (v4:Int) (v5:Int):Option γ :=
 (xs18 (v0) (v1)).bind fun (r0:Bool) =>
 bif !r0 then
 ret ([],[],Bool.false)
 else
 (xs1g (v0) (v1)).bind fun (r1:(List (Int × Int × Bool)) × (List (List Int × List Int × Bool))) =>
 (xs0x (r1.fst) (r1.snd) (v2) (v3) (v4) (v5)).bind fun (r2:(List (Int × Int × Bool)) × (List (List Int × List Int × Bool)) × Bool) =>
 bif !r2.snd.snd then
 ret ([],[],Bool.false)
 else
 (xs18 (r2.fst) (r2.snd.fst)).bind fun (r3:Bool) =>
 bif !r3 then
 ret ([],[],Bool.false)
 else
 ret (r2.fst,r2.snd.fst,Bool.true)
theorem xs1a.u:∀ b,xs1a.un (xs1a.mk b)=b:=fun _ => by kernel_rfl
theorem xs1a.eq (v0 v1 v2 v3 v4 v5) {b} (h:xs1a.t some v0 v1 v2 v3 v4 v5=some b):xs1a v0 v1 v2 v3 v4 v5=some b:=eqF xs1a.u Try.f9 (callT_le E tab) rfl rfl rfl (xs1a.t (rR xs1a.mk) v0 v1 v2 v3 v4 v5) (by kernel_rfl) (by unfold xs1a.t; repeat' first | exact sR | exact sN | exact sL | apply sC | (apply sB; intro _)) h
end
end GoV

/- Equations of the program's functions (printed by wip/tools/emit.py). -/
namespace GoV
open Go Go.Proofs
set_option maxRecDepth 100000
noncomputable section

def xs1g.s3 (v0:List (Int × Int × Bool)) (v1:List (List Int × List Int × Bool)) (v2:List (Int × Int × Bool)) (v3:List (List Int × List Int × Bool)) (v4:List (List Int × List Int × Bool)) (v5:Int) (v6:Int):List Cell:=nn 2 (⟨(.box false),[.d .deep Yc v0,.d .deep Yb v1],false,false,false,0,0⟩::⟨(.box false),[.d .deep Yc v2,.d .deep Yb v3],false,false,false,0,0⟩::nn 8 (vc (.d .fro Yb v4)::vc (iL v5)::vc (iL v6)::nn 21 ([])))
def xs1g.q3:=fun v0 v1 v2 v3 v4 v5 v6 => loopAtL E (callT E tab) 45 Try.f45 1 [.r,.r,.l,.r,.b] (xs1g.s3 v0 v1 v2 v3 v4 v5 v6)
def xs1g.l3:=fun v0 v1 v2 v3 v4 v5 v6 => tOf xs1g.mk (xs1g.q3 v0 v1 v2 v3 v4 v5 v6)
def xs1g.t {γ:Type} (ret:((List (Int × Int × Bool)) × (List (List Int × List Int × Bool)))→Option γ) (lp3:(List (Int × Int × Bool))→(List (List Int × List Int × Bool))→(List (Int × Int × Bool))→(List (List Int × List Int × Bool))→(List (List Int × List Int × Bool))→Int→Int→Option γ) (v0:List (Int × Int × Bool)) (v1:List (List Int × List Int × Bool)):Option γ :=
 bif decide (([]:List Int).length+v0.length≤(4294967296:Nat)) then
 lp3 ([]) ([]) ([] ++ v0) ([]) (v1) ((↑v1.length:Int)) ((0:Int))
 else
 none
def xs1g.t3 {γ:Type} (ret:((List (Int × Int × Bool)) × (List (List Int × List Int × Bool)))→Option γ) (lp3:(List (Int × Int × Bool))→(List (List Int × List Int × Bool))→(List (Int × Int × Bool))→(List (List Int × List Int × Bool))→(List (List Int × List Int × Bool))→Int→Int→Option γ) (v0:List (Int × Int × Bool)) (v1:List (List Int × List Int × Bool)) (v2:List (Int × Int × Bool)) (v3:List (List Int × List Int × Bool)) (v4:List (List Int × List Int × Bool)) (v5:Int) (v6:Int):Option γ :=
 bif decide (v6<v5) then
 bif decide ((0:Int)≤v6) then
 bif decide (v6.toNat<v4.length) then
 bif decide (([]:List Int).length+(v4.getD v6.toNat ([],[],Bool.false)).fst.length≤(4294967296:Nat)) then
 bif decide (([]:List Int).length+(v4.getD v6.toNat ([],[],Bool.false)).snd.fst.length≤(4294967296:Nat)) then
 bif decide   (v3.length+      [([] ++ (v4.getD v6.toNat ([],[],Bool.false)).fst,[] ++ (v4.getD v6.toNat ([],[],Bool.false)).snd.fst,            (v4.getD v6.toNat ([],[],Bool.false)).snd.snd)].length≤    (4294967296:Nat)) then
 lp3 (v0) (v1) (v2) (v3 ++   [([] ++ (v4.getD v6.toNat ([],[],Bool.false)).fst,[] ++ (v4.getD v6.toNat ([],[],Bool.false)).snd.fst,      (v4.getD v6.toNat ([],[],Bool.false)).snd.snd)]) (v4) (v5) (IntKind.i64.wrap (v6+(1:Int)))
 else
 none
 else
 none
 else
 none
 else
 none
 else
 none
 else
 ret (v2,v3)
theorem xs1g.u:∀ b,xs1g.un (xs1g.mk b)=b:=fun _ => by kernel_rfl
theorem xs1g.eq (v0 v1) {b} (h:xs1g.t some xs1g.l3 v0 v1=some b):xs1g v0 v1=some b:=eqF xs1g.u Try.f45 (callT_le E tab) rfl rfl rfl (xs1g.t (rR xs1g.mk) xs1g.q3 v0 v1) (by kernel_rfl) (by unfold xs1g.t; repeat' first | exact sR | exact sN | exact sL | apply sC | (apply sB; intro _)) h
theorem xs1g.eq3 (v0 v1 v2 v3 v4 v5 v6) {b} (h:xs1g.t3 some xs1g.l3 v0 v1 v2 v3 v4 v5 v6=some b):xs1g.l3 v0 v1 v2 v3 v4 v5 v6=some b:=eqL xs1g.u (xs1g.t3 (rR xs1g.mk) xs1g.q3 v0 v1 v2 v3 v4 v5 v6) (by kernel_rfl) (by unfold xs1g.t3; repeat' first | exact sR | exact sN | exact sL | apply sC | (apply sB; intro _)) h
def xs0x.t {γ:Type} (ret:((List (Int × Int × Bool)) × (List (List Int × List Int × Bool)) × Bool)→Option γ) (v0:List (Int × Int × Bool)) (v1:List (List Int × List Int × Bool)) (v2:Int) (v3:Int) (v4:Int) (v5:Int):Option γ :=
 bif decide (v3<(0:Int)) then
 ret (v0,v1,Bool.false)
 else
 bif decide (v3 ≥ (↑v0.length:Int)) then
 ret (v0,v1,Bool.false)
 else
 bif v2 == (3:Int) then
 bif decide ((0:Int)≤v3) then
 bif decide (v3.toNat<v0.length) then
 bif decide (v3.toNat<v0.length) then
 bif (v0.getD v3.toNat ((0:Int),(0:Int),Bool.false)).snd.snd then
 ret (v0,v1,Bool.false)
 else
 (xs0w (v0) (v1) (v3) ((-1:Int))).bind fun (r0:(List (Int × Int × Bool)) × (List (List Int × List Int × Bool)) × Bool) =>
 ret (r0.fst,r0.snd.fst,r0.snd.snd)
 else
 none
 else
 none
 else
 none
 else
 bif decide (v4<(0:Int)) then
 ret (v0,v1,Bool.false)
 else
 bif decide (v4 ≥ (↑v0.length:Int)) then
 ret (v0,v1,Bool.false)
 else
 bif v3 == v4 then
 ret (v0,v1,Bool.false)
 else
 bif decide ((0:Int)≤IntKind.i64.wrap (IntKind.i64.wrap (v3 * (↑v0.length:Int))+v4)) then
 bif decide ((IntKind.i64.wrap (IntKind.i64.wrap (v3 * (↑v0.length:Int))+v4)).toNat<v1.length) then
 bif decide ((IntKind.i64.wrap (IntKind.i64.wrap (v3 * (↑v0.length:Int))+v4)).toNat<v1.length) then
 bif decide ((IntKind.i64.wrap (IntKind.i64.wrap (v3 * (↑v0.length:Int))+v4)).toNat<v1.length) then
 bif decide ((IntKind.i64.wrap (IntKind.i64.wrap (v3 * (↑v0.length:Int))+v4)).toNat<v1.length) then
 bif v2 == (1:Int) then
 bif decide ((0:Int)≤v3) then
 bif decide (v3.toNat<v0.length) then
 bif decide (v3.toNat<v0.length) then
 (xs1i (v5) ((1:Int)) ((v0.getD v3.toNat ((0:Int),(0:Int),Bool.false)).fst)).bind fun (r1:Bool) =>
 bif !r1 then
 ret (v0,v1,Bool.false)
 else
 (xs13 (v5)).bind fun (r2:Bool) =>
 bif !r2 then
 ret (v0,v1,Bool.false)
 else
 bif decide ((IntKind.i64.wrap (IntKind.i64.wrap (v3 * (↑v0.length:Int))+v4)).toNat<v1.length) then
 bif (↑(v1.getD (IntKind.i64.wrap (IntKind.i64.wrap (v3 * (↑v0.length:Int))+v4)).toNat             ([],[],Bool.false)).fst.length:    Int) ==   (12:Int) then
 ret (v0,v1,Bool.false)
 else
 bif decide ((0:Int)≤v3) then
 bif decide (v3.toNat<v0.length) then
 bif decide (v3.toNat<v0.length) then
 bif decide ((0:Int)≤v3) then
 bif decide (v3.toNat<v0.length) then
 bif decide (v3.toNat<v0.length) then
 bif decide ((IntKind.i64.wrap (IntKind.i64.wrap (v3 * (↑v0.length:Int))+v4)).toNat<v1.length) then
 bif decide   ((v1.getD (IntKind.i64.wrap (IntKind.i64.wrap (v3 * (↑v0.length:Int))+v4)).toNat             ([],[],Bool.false)).fst.length+      [v5].length≤    (4294967296:Nat)) then
 bif decide ((0:Int)≤IntKind.i64.wrap (IntKind.i64.wrap (v3 * (↑v0.length:Int))+v4)) then
 bif decide ((IntKind.i64.wrap (IntKind.i64.wrap (v3 * (↑v0.length:Int))+v4)).toNat<v1.length) then
 bif decide   ((IntKind.i64.wrap (IntKind.i64.wrap (v3 * (↑v0.length:Int))+v4)).toNat=    (IntKind.i64.wrap (IntKind.i64.wrap (v3 * (↑v0.length:Int))+v4)).toNat) then
 bif decide ((IntKind.i64.wrap (IntKind.i64.wrap (v3 * (↑v0.length:Int))+v4)).toNat<v1.length) then
 ret (v0.set v3.toNat   (IntKind.i64.wrap ((v0.getD v3.toNat ((0:Int),(0:Int),Bool.false)).fst - v5),    (v0.getD v3.toNat ((0:Int),(0:Int),Bool.false)).snd),v1.set (IntKind.i64.wrap (IntKind.i64.wrap (v3 * (↑v0.length:Int))+v4)).toNat   ((v1.getD (IntKind.i64.wrap (IntKind.i64.wrap (v3 * (↑v0.length:Int))+v4)).toNat           ([],[],Bool.false)).fst ++       [v5],    (v1.getD (IntKind.i64.wrap (IntKind.i64.wrap (v3 * (↑v0.length:Int))+v4)).toNat ([],[],Bool.false)).snd),Bool.true)
 else
 none
 else
 none
 else
 none
 else
 none
 else
 none
 else
 none
 else
 none
 else
 none
 else
 none
 else
 none
 else
 none
 else
 none
 else
 none
 else
 none
 else
 none
 else
 none
 else
 bif v2 == (2:Int) then
 bif decide ((IntKind.i64.wrap (IntKind.i64.wrap (v3 * (↑v0.length:Int))+v4)).toNat<v1.length) then
 bif (↑(v1.getD (IntKind.i64.wrap (IntKind.i64.wrap (v3 * (↑v0.length:Int))+v4)).toNat             ([],[],Bool.false)).fst.length:    Int) ==   (0:Int) then
 ret (v0,v1,Bool.false)
 else
 bif decide ((IntKind.i64.wrap (IntKind.i64.wrap (v3 * (↑v0.length:Int))+v4)).toNat<v1.length) then
 bif (↑(v1.getD (IntKind.i64.wrap (IntKind.i64.wrap (v3 * (↑v0.length:Int))+v4)).toNat               ([],[],Bool.false)).snd.fst.length:    Int) ==   (200:Int) then
 ret (v0,v1,Bool.false)
 else
 bif decide ((IntKind.i64.wrap (IntKind.i64.wrap (v3 * (↑v0.length:Int))+v4)).toNat<v1.length) then
 bif decide   (Int.toNat (0:Int)<    (v1.getD (IntKind.i64.wrap (IntKind.i64.wrap (v3 * (↑v0.length:Int))+v4)).toNat           ([],[],Bool.false)).fst.length) then
 bif decide ((IntKind.i64.wrap (IntKind.i64.wrap (v3 * (↑v0.length:Int))+v4)).toNat<v1.length) then
 bif decide   (Int.toNat (0:Int)<    (v1.getD (IntKind.i64.wrap (IntKind.i64.wrap (v3 * (↑v0.length:Int))+v4)).toNat           ([],[],Bool.false)).fst.length) then
 bif decide ((IntKind.i64.wrap (IntKind.i64.wrap (v3 * (↑v0.length:Int))+v4)).toNat<v1.length) then
 bif decide ((IntKind.i64.wrap (IntKind.i64.wrap (v3 * (↑v0.length:Int))+v4)).toNat<v1.length) then
 bif decide   ((Option.some (1:Int)).getD (0:Int)≤    (↑(v1.getD (IntKind.i64.wrap (IntKind.i64.wrap (v3 * (↑v0.length:Int))+v4)).toNat               ([],[],Bool.false)).fst.length:      Int)) then
 bif decide ((IntKind.i64.wrap (IntKind.i64.wrap (v3 * (↑v0.length:Int))+v4)).toNat<v1.length) then
 bif decide   (([]:List Int).length+      (List.drop ((Option.some (1:Int)).getD (0:Int)).toNat           (v1.getD (IntKind.i64.wrap (IntKind.i64.wrap (v3 * (↑v0.length:Int))+v4)).toNat               ([],[],Bool.false)).fst).length≤    (4294967296:Nat)) then
 bif decide ((0:Int)≤IntKind.i64.wrap (IntKind.i64.wrap (v3 * (↑v0.length:Int))+v4)) then
 bif decide ((IntKind.i64.wrap (IntKind.i64.wrap (v3 * (↑v0.length:Int))+v4)).toNat<v1.length) then
 bif decide ((IntKind.i64.wrap (IntKind.i64.wrap (v3 * (↑v0.length:Int))+v4)).toNat<v1.length) then
 bif decide   ((v1.getD (IntKind.i64.wrap (IntKind.i64.wrap (v3 * (↑v0.length:Int))+v4)).toNat             ([],[],Bool.false)).fst.getD       (Int.toNat (0:Int)) (0:Int) >     (0:Int)) then
 bif decide ((0:Int)≤v4) then
 bif decide (v4.toNat<v0.length) then
 bif decide (v4.toNat<v0.length) then
 bif decide ((0:Int)≤v4) then
 bif decide (v4.toNat<v0.length) then
 bif decide (v4.toNat<v0.length) then
 bif (v1.getD (IntKind.i64.wrap (IntKind.i64.wrap (v3 * (↑v0.length:Int))+v4)).toNat ([],[],Bool.false)).snd.snd then
 bif decide   ((IntKind.i64.wrap (IntKind.i64.wrap (v3 * (↑v0.length:Int))+v4)).toNat<    (v1.set (IntKind.i64.wrap (IntKind.i64.wrap (v3 * (↑v0.length:Int))+v4)).toNat         ([] ++             List.drop ((Option.some (1:Int)).getD (0:Int)).toNat               (v1.getD (IntKind.i64.wrap (IntKind.i64.wrap (v3 * (↑v0.length:Int))+v4)).toNat                   ([],[],Bool.false)).fst,          (v1.getD (IntKind.i64.wrap (IntKind.i64.wrap (v3 * (↑v0.length:Int))+v4)).toNat               ([],[],Bool.false)).snd)).length) then
 bif decide   (((v1.set (IntKind.i64.wrap (IntKind.i64.wrap (v3 * (↑v0.length:Int))+v4)).toNat                   ([] ++                       List.drop ((Option.some (1:Int)).getD (0:Int)).toNat                         (v1.getD (IntKind.i64.wrap (IntKind.i64.wrap (v3 * (↑v0.length:Int))+v4)).toNat                             ([],[],Bool.false)).fst,                    (v1.getD (IntKind.i64.wrap (IntKind.i64.wrap (v3 * (↑v0.length:Int))+v4)).toNat                         ([],[],Bool.false)).snd)).getD               (IntKind.i64.wrap (IntKind.i64.wrap (v3 * (↑v0.length:Int))+v4)).toNat               ([],[],Bool.false)).snd.fst.length+      [(v1.getD (IntKind.i64.wrap (IntKind.i64.wrap (v3 * (↑v0.length:Int))+v4)).toNat                   ([],[],Bool.false)).fst.getD             (Int.toNat (0:Int)) (0:Int)].length≤    (4294967296:Nat)) then
 bif decide ((0:Int)≤IntKind.i64.wrap (IntKind.i64.wrap (v3 * (↑v0.length:Int))+v4)) then
 bif decide   ((IntKind.i64.wrap (IntKind.i64.wrap (v3 * (↑v0.length:Int))+v4)).toNat<    (v1.set (IntKind.i64.wrap (IntKind.i64.wrap (v3 * (↑v0.length:Int))+v4)).toNat         ([] ++             List.drop ((Option.some (1:Int)).getD (0:Int)).toNat               (v1.getD (IntKind.i64.wrap (IntKind.i64.wrap (v3 * (↑v0.length:Int))+v4)).toNat                   ([],[],Bool.false)).fst,          (v1.getD (IntKind.i64.wrap (IntKind.i64.wrap (v3 * (↑v0.length:Int))+v4)).toNat               ([],[],Bool.false)).snd)).length) then
 bif decide   ((IntKind.i64.wrap (IntKind.i64.wrap (v3 * (↑v0.length:Int))+v4)).toNat=    (IntKind.i64.wrap (IntKind.i64.wrap (v3 * (↑v0.length:Int))+v4)).toNat) then
 bif decide   ((IntKind.i64.wrap (IntKind.i64.wrap (v3 * (↑v0.length:Int))+v4)).toNat<    (v1.set (IntKind.i64.wrap (IntKind.i64.wrap (v3 * (↑v0.length:Int))+v4)).toNat         ([] ++             List.drop ((Option.some (1:Int)).getD (0:Int)).toNat               (v1.getD (IntKind.i64.wrap (IntKind.i64.wrap (v3 * (↑v0.length:Int))+v4)).toNat                   ([],[],Bool.false)).fst,          (v1.getD (IntKind.i64.wrap (IntKind.i64.wrap (v3 * (↑v0.length:Int))+v4)).toNat               ([],[],Bool.false)).snd)).length) then
 ret (v0.set v4.toNat   (IntKind.i64.wrap       ((v0.getD v4.toNat ((0:Int),(0:Int),Bool.false)).fst+        (v1.getD (IntKind.i64.wrap (IntKind.i64.wrap (v3 * (↑v0.length:Int))+v4)).toNat                 ([],[],Bool.false)).fst.getD           (Int.toNat (0:Int)) (0:Int)),    (v0.getD v4.toNat ((0:Int),(0:Int),Bool.false)).snd),(v1.set (IntKind.i64.wrap (IntKind.i64.wrap (v3 * (↑v0.length:Int))+v4)).toNat       ([] ++           List.drop ((Option.some (1:Int)).getD (0:Int)).toNat             (v1.getD (IntKind.i64.wrap (IntKind.i64.wrap (v3 * (↑v0.length:Int))+v4)).toNat                 ([],[],Bool.false)).fst,        (v1.getD (IntKind.i64.wrap (IntKind.i64.wrap (v3 * (↑v0.length:Int))+v4)).toNat             ([],[],Bool.false)).snd)).set   (IntKind.i64.wrap (IntKind.i64.wrap (v3 * (↑v0.length:Int))+v4)).toNat   (((v1.set (IntKind.i64.wrap (IntKind.i64.wrap (v3 * (↑v0.length:Int))+v4)).toNat             ([] ++                 List.drop ((Option.some (1:Int)).getD (0:Int)).toNat                   (v1.getD (IntKind.i64.wrap (IntKind.i64.wrap (v3 * (↑v0.length:Int))+v4)).toNat                       ([],[],Bool.false)).fst,              (v1.getD (IntKind.i64.wrap (IntKind.i64.wrap (v3 * (↑v0.length:Int))+v4)).toNat                   ([],[],Bool.false)).snd)).getD         (IntKind.i64.wrap (IntKind.i64.wrap (v3 * (↑v0.length:Int))+v4)).toNat ([],[],Bool.false)).fst,    ((v1.set (IntKind.i64.wrap (IntKind.i64.wrap (v3 * (↑v0.length:Int))+v4)).toNat                 ([] ++                     List.drop ((Option.some (1:Int)).getD (0:Int)).toNat                       (v1.getD (IntKind.i64.wrap (IntKind.i64.wrap (v3 * (↑v0.length:Int))+v4)).toNat                           ([],[],Bool.false)).fst,                  (v1.getD (IntKind.i64.wrap (IntKind.i64.wrap (v3 * (↑v0.length:Int))+v4)).toNat                       ([],[],Bool.false)).snd)).getD             (IntKind.i64.wrap (IntKind.i64.wrap (v3 * (↑v0.length:Int))+v4)).toNat             ([],[],Bool.false)).snd.fst ++       [(v1.getD (IntKind.i64.wrap (IntKind.i64.wrap (v3 * (↑v0.length:Int))+v4)).toNat                 ([],[],Bool.false)).fst.getD           (Int.toNat (0:Int)) (0:Int)],    ((v1.set (IntKind.i64.wrap (IntKind.i64.wrap (v3 * (↑v0.length:Int))+v4)).toNat               ([] ++                   List.drop ((Option.some (1:Int)).getD (0:Int)).toNat                     (v1.getD (IntKind.i64.wrap (IntKind.i64.wrap (v3 * (↑v0.length:Int))+v4)).toNat                         ([],[],Bool.false)).fst,                (v1.getD (IntKind.i64.wrap (IntKind.i64.wrap (v3 * (↑v0.length:Int))+v4)).toNat                     ([],[],Bool.false)).snd)).getD           (IntKind.i64.wrap (IntKind.i64.wrap (v3 * (↑v0.length:Int))+v4)).toNat           ([],[],Bool.false)).snd.snd),Bool.true)
 else
 none
 else
 none
 else
 none
 else
 none
 else
 none
 else
 none
 else
 ret (v0.set v4.toNat   (IntKind.i64.wrap       ((v0.getD v4.toNat ((0:Int),(0:Int),Bool.false)).fst+        (v1.getD (IntKind.i64.wrap (IntKind.i64.wrap (v3 * (↑v0.length:Int))+v4)).toNat                 ([],[],Bool.false)).fst.getD           (Int.toNat (0:Int)) (0:Int)),    (v0.getD v4.toNat ((0:Int),(0:Int),Bool.false)).snd),v1.set (IntKind.i64.wrap (IntKind.i64.wrap (v3 * (↑v0.length:Int))+v4)).toNat   ([] ++       List.drop ((Option.some (1:Int)).getD (0:Int)).toNat         (v1.getD (IntKind.i64.wrap (IntKind.i64.wrap (v3 * (↑v0.length:Int))+v4)).toNat             ([],[],Bool.false)).fst,    (v1.getD (IntKind.i64.wrap (IntKind.i64.wrap (v3 * (↑v0.length:Int))+v4)).toNat ([],[],Bool.false)).snd),Bool.true)
 else
 none
 else
 none
 else
 none
 else
 none
 else
 none
 else
 none
 else
 bif decide ((0:Int)≤v4) then
 bif decide (v4.toNat<v0.length) then
 bif decide (v4.toNat<v0.length) then
 bif (v0.getD v4.toNat ((0:Int),(0:Int),Bool.false)).snd.snd then
 bif decide ((0:Int)≤IntKind.i64.wrap (IntKind.i64.wrap (v3 * (↑v0.length:Int))+v4)) then
 bif decide   ((IntKind.i64.wrap (IntKind.i64.wrap (v3 * (↑v0.length:Int))+v4)).toNat<    (v1.set (IntKind.i64.wrap (IntKind.i64.wrap (v3 * (↑v0.length:Int))+v4)).toNat         ([] ++             List.drop ((Option.some (1:Int)).getD (0:Int)).toNat               (v1.getD (IntKind.i64.wrap (IntKind.i64.wrap (v3 * (↑v0.length:Int))+v4)).toNat                   ([],[],Bool.false)).fst,          (v1.getD (IntKind.i64.wrap (IntKind.i64.wrap (v3 * (↑v0.length:Int))+v4)).toNat               ([],[],Bool.false)).snd)).length) then
 bif decide   ((IntKind.i64.wrap (IntKind.i64.wrap (v3 * (↑v0.length:Int))+v4)).toNat<    (v1.set (IntKind.i64.wrap (IntKind.i64.wrap (v3 * (↑v0.length:Int))+v4)).toNat         ([] ++             List.drop ((Option.some (1:Int)).getD (0:Int)).toNat               (v1.getD (IntKind.i64.wrap (IntKind.i64.wrap (v3 * (↑v0.length:Int))+v4)).toNat                   ([],[],Bool.false)).fst,          (v1.getD (IntKind.i64.wrap (IntKind.i64.wrap (v3 * (↑v0.length:Int))+v4)).toNat               ([],[],Bool.false)).snd)).length) then
 ret (v0,(v1.set (IntKind.i64.wrap (IntKind.i64.wrap (v3 * (↑v0.length:Int))+v4)).toNat       ([] ++           List.drop ((Option.some (1:Int)).getD (0:Int)).toNat             (v1.getD (IntKind.i64.wrap (IntKind.i64.wrap (v3 * (↑v0.length:Int))+v4)).toNat                 ([],[],Bool.false)).fst,        (v1.getD (IntKind.i64.wrap (IntKind.i64.wrap (v3 * (↑v0.length:Int))+v4)).toNat             ([],[],Bool.false)).snd)).set   (IntKind.i64.wrap (IntKind.i64.wrap (v3 * (↑v0.length:Int))+v4)).toNat   (((v1.set (IntKind.i64.wrap (IntKind.i64.wrap (v3 * (↑v0.length:Int))+v4)).toNat             ([] ++                 List.drop ((Option.some (1:Int)).getD (0:Int)).toNat                   (v1.getD (IntKind.i64.wrap (IntKind.i64.wrap (v3 * (↑v0.length:Int))+v4)).toNat                       ([],[],Bool.false)).fst,              (v1.getD (IntKind.i64.wrap (IntKind.i64.wrap (v3 * (↑v0.length:Int))+v4)).toNat                   ([],[],Bool.false)).snd)).getD         (IntKind.i64.wrap (IntKind.i64.wrap (v3 * (↑v0.length:Int))+v4)).toNat ([],[],Bool.false)).fst,    ((v1.set (IntKind.i64.wrap (IntKind.i64.wrap (v3 * (↑v0.length:Int))+v4)).toNat               ([] ++                   List.drop ((Option.some (1:Int)).getD (0:Int)).toNat                     (v1.getD (IntKind.i64.wrap (IntKind.i64.wrap (v3 * (↑v0.length:Int))+v4)).toNat                         ([],[],Bool.false)).fst,                (v1.getD (IntKind.i64.wrap (IntKind.i64.wrap (v3 * (↑v0.length:Int))+v4)).toNat                     ([],[],Bool.false)).snd)).getD           (IntKind.i64.wrap (IntKind.i64.wrap (v3 * (↑v0.length:Int))+v4)).toNat           ([],[],Bool.false)).snd.fst,    Bool.false),Bool.true)
 else
 none
 else
 none
 else
 none
 else
 (xs0w (v0) (v1.set (IntKind.i64.wrap (IntKind.i64.wrap (v3 * (↑v0.length:Int))+v4)).toNat   ([] ++       List.drop ((Option.some (1:Int)).getD (0:Int)).toNat         (v1.getD (IntKind.i64.wrap (IntKind.i64.wrap (v3 * (↑v0.length:Int))+v4)).toNat             ([],[],Bool.false)).fst,    (v1.getD (IntKind.i64.wrap (IntKind.i64.wrap (v3 * (↑v0.length:Int))+v4)).toNat ([],[],Bool.false)).snd)) (v4) (v3)).bind fun (r3:(List (Int × Int × Bool)) × (List (List Int × List Int × Bool)) × Bool) =>
 ret (r3.fst,r3.snd.fst,r3.snd.snd)
 else
 none
 else
 none
 else
 none
 else
 none
 else
 none
 else
 none
 else
 none
 else
 none
 else
 none
 else
 none
 else
 none
 else
 none
 else
 none
 else
 none
 else
 none
 else
 none
 else
 none
 else
 ret (v0,v1,Bool.false)
 else
 none
 else
 none
 else
 none
 else
 none
 else
 none
theorem xs0x.u:∀ b,xs0x.un (xs0x.mk b)=b:=fun _ => by kernel_rfl
theorem xs0x.eq (v0 v1 v2 v3 v4 v5) {b} (h:xs0x.t some v0 v1 v2 v3 v4 v5=some b):xs0x v0 v1 v2 v3 v4 v5=some b:=eqF xs0x.u Try.f44 (callT_le E tab) rfl rfl rfl (xs0x.t (rR xs0x.mk) v0 v1 v2 v3 v4 v5) (by kernel_rfl) (by unfold xs0x.t; repeat' first | exact sR | exact sN | exact sL | apply sC | (apply sB; intro _)) h
def xs0w.s5 (v0:Int) (v1:Int) (v2:List (Int × Int × Bool)) (v3:List (List Int × List Int × Bool)) (v4:List (Int × Int × Bool)) (v5:List (List Int × List Int × Bool)) (v6:Int) (v7:Int):List Cell:=nn 1 (vc (iL v0)::vc (iL v1)::⟨(.box false),[.d .deep Yc v2,.d .deep Yb v3],false,false,false,0,0⟩::nn 2 (⟨(.box false),[.d .deep Yc v4,.d .deep Yb v5],false,false,false,0,0⟩::nn 1 (vc (iL v6)::vc (iL v7)::nn 74 ([]))))
def xs0w.q5:=fun v0 v1 v2 v3 v4 v5 v6 v7 => loopAtL E (callT E tab) 78 Try.f78 3 [.r,.r,.r,.r,.l,.r,.b] (xs0w.s5 v0 v1 v2 v3 v4 v5 v6 v7)
def xs0w.l5:=fun v0 v1 v2 v3 v4 v5 v6 v7 => tOf xs0w.mk (xs0w.q5 v0 v1 v2 v3 v4 v5 v6 v7)
def xs0w.t {γ:Type} (ret:((List (Int × Int × Bool)) × (List (List Int × List Int × Bool)) × Bool)→Option γ) (lp5:Int→Int→(List (Int × Int × Bool))→(List (List Int × List Int × Bool))→(List (Int × Int × Bool))→(List (List Int × List Int × Bool))→Int→Int→Option γ) (v0:List (Int × Int × Bool)) (v1:List (List Int × List Int × Bool)) (v2:Int) (v3:Int):Option γ :=
 bif decide ((0:Int)≤v2) then
 bif decide (v2.toNat<v0.length) then
 bif decide (v2.toNat<v0.length) then
 bif decide ((0:Int)≤v2) then
 bif decide (v2.toNat<v0.length) then
 bif decide (v2.toNat<v0.length) then
 bif decide ((0:Int)≤v2) then
 bif decide   (v2.toNat<    (v0.set v2.toNat         ((v0.getD v2.toNat ((0:Int),(0:Int),Bool.false)).fst,          (v0.getD v2.toNat ((0:Int),(0:Int),Bool.false)).fst,          (v0.getD v2.toNat ((0:Int),(0:Int),Bool.false)).snd.snd)).length) then
 bif decide   (v2.toNat<    (v0.set v2.toNat         ((v0.getD v2.toNat ((0:Int),(0:Int),Bool.false)).fst,          (v0.getD v2.toNat ((0:Int),(0:Int),Bool.false)).fst,          (v0.getD v2.toNat ((0:Int),(0:Int),Bool.false)).snd.snd)).length) then
 lp5 (v2) (v3) ((v0.set v2.toNat       ((v0.getD v2.toNat ((0:Int),(0:Int),Bool.false)).fst,        (v0.getD v2.toNat ((0:Int),(0:Int),Bool.false)).fst,        (v0.getD v2.toNat ((0:Int),(0:Int),Bool.false)).snd.snd)).set   v2.toNat   (((v0.set v2.toNat             ((v0.getD v2.toNat ((0:Int),(0:Int),Bool.false)).fst,              (v0.getD v2.toNat ((0:Int),(0:Int),Bool.false)).fst,              (v0.getD v2.toNat ((0:Int),(0:Int),Bool.false)).snd.snd)).getD         v2.toNat ((0:Int),(0:Int),Bool.false)).fst,    ((v0.set v2.toNat               ((v0.getD v2.toNat ((0:Int),(0:Int),Bool.false)).fst,                (v0.getD v2.toNat ((0:Int),(0:Int),Bool.false)).fst,                (v0.getD v2.toNat ((0:Int),(0:Int),Bool.false)).snd.snd)).getD           v2.toNat ((0:Int),(0:Int),Bool.false)).snd.fst,    Bool.true)) (v1) ([]) ([]) ((↑v0.length:Int)) ((0:Int))
 else
 none
 else
 none
 else
 none
 else
 none
 else
 none
 else
 none
 else
 none
 else
 none
 else
 none
def xs0w.t5 {γ:Type} (ret:((List (Int × Int × Bool)) × (List (List Int × List Int × Bool)) × Bool)→Option γ) (lp5:Int→Int→(List (Int × Int × Bool))→(List (List Int × List Int × Bool))→(List (Int × Int × Bool))→(List (List Int × List Int × Bool))→Int→Int→Option γ) (v0:Int) (v1:Int) (v2:List (Int × Int × Bool)) (v3:List (List Int × List Int × Bool)) (v4:List (Int × Int × Bool)) (v5:List (List Int × List Int × Bool)) (v6:Int) (v7:Int):Option γ :=
 bif decide (v7<v6) then
 bif v7 == v0 then
 lp5 (v0) (v1) (v2) (v3) (v4) (v5) (v6) (IntKind.i64.wrap (v7+(1:Int)))
 else
 bif decide ((0:Int)≤IntKind.i64.wrap (IntKind.i64.wrap (v7 * v6)+v0)) then
 bif decide ((IntKind.i64.wrap (IntKind.i64.wrap (v7 * v6)+v0)).toNat<v3.length) then
 bif decide ((IntKind.i64.wrap (IntKind.i64.wrap (v7 * v6)+v0)).toNat<v3.length) then
 bif decide ((0:Int)≤IntKind.i64.wrap (IntKind.i64.wrap (v0 * v6)+v7)) then
 bif decide   ((IntKind.i64.wrap (IntKind.i64.wrap (v0 * v6)+v7)).toNat<    (v3.set (IntKind.i64.wrap (IntKind.i64.wrap (v7 * v6)+v0)).toNat         ((v3.getD (IntKind.i64.wrap (IntKind.i64.wrap (v7 * v6)+v0)).toNat ([],[],Bool.false)).fst,          (v3.getD (IntKind.i64.wrap (IntKind.i64.wrap (v7 * v6)+v0)).toNat ([],[],Bool.false)).snd.fst,          v7 != v1)).length) then
 bif decide   ((IntKind.i64.wrap (IntKind.i64.wrap (v0 * v6)+v7)).toNat<    (v3.set (IntKind.i64.wrap (IntKind.i64.wrap (v7 * v6)+v0)).toNat         ((v3.getD (IntKind.i64.wrap (IntKind.i64.wrap (v7 * v6)+v0)).toNat ([],[],Bool.false)).fst,          (v3.getD (IntKind.i64.wrap (IntKind.i64.wrap (v7 * v6)+v0)).toNat ([],[],Bool.false)).snd.fst,          v7 != v1)).length) then
 bif decide   ((IntKind.i64.wrap (IntKind.i64.wrap (v0 * v6)+v7)).toNat<    (v3.set (IntKind.i64.wrap (IntKind.i64.wrap (v7 * v6)+v0)).toNat         ((v3.getD (IntKind.i64.wrap (IntKind.i64.wrap (v7 * v6)+v0)).toNat ([],[],Bool.false)).fst,          (v3.getD (IntKind.i64.wrap (IntKind.i64.wrap (v7 * v6)+v0)).toNat ([],[],Bool.false)).snd.fst,          v7 != v1)).length) then
 bif (↑((v3.set (IntKind.i64.wrap (IntKind.i64.wrap (v7 * v6)+v0)).toNat                 ((v3.getD (IntKind.i64.wrap (IntKind.i64.wrap (v7 * v6)+v0)).toNat ([],[],Bool.false)).fst,                  (v3.getD (IntKind.i64.wrap (IntKind.i64.wrap (v7 * v6)+v0)).toNat                         ([],[],Bool.false)).snd.fst,                  v7 != v1)).getD             (IntKind.i64.wrap (IntKind.i64.wrap (v0 * v6)+v7)).toNat ([],[],Bool.false)).fst.length:    Int) ==   (12:Int) then
 ret (v2,v3.set (IntKind.i64.wrap (IntKind.i64.wrap (v7 * v6)+v0)).toNat   ((v3.getD (IntKind.i64.wrap (IntKind.i64.wrap (v7 * v6)+v0)).toNat ([],[],Bool.false)).fst,    (v3.getD (IntKind.i64.wrap (IntKind.i64.wrap (v7 * v6)+v0)).toNat ([],[],Bool.false)).snd.fst,v7 != v1),Bool.false)
 else
 bif decide ((0:Int)≤IntKind.i64.wrap (IntKind.i64.wrap (v0 * v6)+v7)) then
 bif decide   ((IntKind.i64.wrap (IntKind.i64.wrap (v0 * v6)+v7)).toNat<    (v3.set (IntKind.i64.wrap (IntKind.i64.wrap (v7 * v6)+v0)).toNat         ((v3.getD (IntKind.i64.wrap (IntKind.i64.wrap (v7 * v6)+v0)).toNat ([],[],Bool.false)).fst,          (v3.getD (IntKind.i64.wrap (IntKind.i64.wrap (v7 * v6)+v0)).toNat ([],[],Bool.false)).snd.fst,          v7 != v1)).length) then
 bif decide   ((IntKind.i64.wrap (IntKind.i64.wrap (v0 * v6)+v7)).toNat<    (v3.set (IntKind.i64.wrap (IntKind.i64.wrap (v7 * v6)+v0)).toNat         ((v3.getD (IntKind.i64.wrap (IntKind.i64.wrap (v7 * v6)+v0)).toNat ([],[],Bool.false)).fst,          (v3.getD (IntKind.i64.wrap (IntKind.i64.wrap (v7 * v6)+v0)).toNat ([],[],Bool.false)).snd.fst,          v7 != v1)).length) then
 bif decide   ((IntKind.i64.wrap (IntKind.i64.wrap (v0 * v6)+v7)).toNat<    (v3.set (IntKind.i64.wrap (IntKind.i64.wrap (v7 * v6)+v0)).toNat         ((v3.getD (IntKind.i64.wrap (IntKind.i64.wrap (v7 * v6)+v0)).toNat ([],[],Bool.false)).fst,          (v3.getD (IntKind.i64.wrap (IntKind.i64.wrap (v7 * v6)+v0)).toNat ([],[],Bool.false)).snd.fst,          v7 != v1)).length) then
 bif decide   (((v3.set (IntKind.i64.wrap (IntKind.i64.wrap (v7 * v6)+v0)).toNat                 ((v3.getD (IntKind.i64.wrap (IntKind.i64.wrap (v7 * v6)+v0)).toNat ([],[],Bool.false)).fst,                  (v3.getD (IntKind.i64.wrap (IntKind.i64.wrap (v7 * v6)+v0)).toNat                         ([],[],Bool.false)).snd.fst,                  v7 != v1)).getD             (IntKind.i64.wrap (IntKind.i64.wrap (v0 * v6)+v7)).toNat ([],[],Bool.false)).fst.length+      [(0:Int)].length≤    (4294967296:Nat)) then
 bif decide ((0:Int)≤IntKind.i64.wrap (IntKind.i64.wrap (v0 * v6)+v7)) then
 bif decide   ((IntKind.i64.wrap (IntKind.i64.wrap (v0 * v6)+v7)).toNat<    (v3.set (IntKind.i64.wrap (IntKind.i64.wrap (v7 * v6)+v0)).toNat         ((v3.getD (IntKind.i64.wrap (IntKind.i64.wrap (v7 * v6)+v0)).toNat ([],[],Bool.false)).fst,          (v3.getD (IntKind.i64.wrap (IntKind.i64.wrap (v7 * v6)+v0)).toNat ([],[],Bool.false)).snd.fst,          v7 != v1)).length) then
 bif decide   ((IntKind.i64.wrap (IntKind.i64.wrap (v0 * v6)+v7)).toNat=    (IntKind.i64.wrap (IntKind.i64.wrap (v0 * v6)+v7)).toNat) then
 bif decide   ((IntKind.i64.wrap (IntKind.i64.wrap (v0 * v6)+v7)).toNat<    (v3.set (IntKind.i64.wrap (IntKind.i64.wrap (v7 * v6)+v0)).toNat         ((v3.getD (IntKind.i64.wrap (IntKind.i64.wrap (v7 * v6)+v0)).toNat ([],[],Bool.false)).fst,          (v3.getD (IntKind.i64.wrap (IntKind.i64.wrap (v7 * v6)+v0)).toNat ([],[],Bool.false)).snd.fst,          v7 != v1)).length) then
 lp5 (v0) (v1) (v2) ((v3.set (IntKind.i64.wrap (IntKind.i64.wrap (v7 * v6)+v0)).toNat       ((v3.getD (IntKind.i64.wrap (IntKind.i64.wrap (v7 * v6)+v0)).toNat ([],[],Bool.false)).fst,        (v3.getD (IntKind.i64.wrap (IntKind.i64.wrap (v7 * v6)+v0)).toNat ([],[],Bool.false)).snd.fst,        v7 != v1)).set   (IntKind.i64.wrap (IntKind.i64.wrap (v0 * v6)+v7)).toNat   (((v3.set (IntKind.i64.wrap (IntKind.i64.wrap (v7 * v6)+v0)).toNat               ((v3.getD (IntKind.i64.wrap (IntKind.i64.wrap (v7 * v6)+v0)).toNat ([],[],Bool.false)).fst,                (v3.getD (IntKind.i64.wrap (IntKind.i64.wrap (v7 * v6)+v0)).toNat ([],[],Bool.false)).snd.fst,                v7 != v1)).getD           (IntKind.i64.wrap (IntKind.i64.wrap (v0 * v6)+v7)).toNat ([],[],Bool.false)).fst ++       [(0:Int)],    ((v3.set (IntKind.i64.wrap (IntKind.i64.wrap (v7 * v6)+v0)).toNat             ((v3.getD (IntKind.i64.wrap (IntKind.i64.wrap (v7 * v6)+v0)).toNat ([],[],Bool.false)).fst,              (v3.getD (IntKind.i64.wrap (IntKind.i64.wrap (v7 * v6)+v0)).toNat ([],[],Bool.false)).snd.fst,              v7 != v1)).getD         (IntKind.i64.wrap (IntKind.i64.wrap (v0 * v6)+v7)).toNat ([],[],Bool.false)).snd)) (v4) (v5) (v6) (IntKind.i64.wrap (v7+(1:Int)))
 else
 none
 else
 none
 else
 none
 else
 none
 else
 none
 else
 none
 else
 none
 else
 none
 else
 none
 else
 none
 else
 none
 else
 none
 else
 none
 else
 none
 else
 none
 else
 none
 else
 ret (v2,v3,Bool.true)
theorem xs0w.u:∀ b,xs0w.un (xs0w.mk b)=b:=fun _ => by kernel_rfl
theorem xs0w.eq (v0 v1 v2 v3) {b} (h:xs0w.t some xs0w.l5 v0 v1 v2 v3=some b):xs0w v0 v1 v2 v3=some b:=eqF xs0w.u Try.f78 (callT_le E tab) rfl rfl rfl (xs0w.t (rR xs0w.mk) xs0w.q5 v0 v1 v2 v3) (by kernel_rfl) (by unfold xs0w.t; repeat' first | exact sR | exact sN | exact sL | apply sC | (apply sB; intro _)) h
theorem xs0w.eq5 (v0 v1 v2 v3 v4 v5 v6 v7) {b} (h:xs0w.t5 some xs0w.l5 v0 v1 v2 v3 v4 v5 v6 v7=some b):xs0w.l5 v0 v1 v2 v3 v4 v5 v6 v7=some b:=eqL xs0w.u (xs0w.t5 (rR xs0w.mk) xs0w.q5 v0 v1 v2 v3 v4 v5 v6 v7) (by kernel_rfl) (by unfold xs0w.t5; repeat' first | exact sR | exact sN | exact sL | apply sC | (apply sB; intro _)) h
def xl11.s4 (v0:List Bool) (v1:List Bool) (v2:Int) (v3:Int):List Cell:=vc (.d .fro (.sl .bool) v0)::vc (.d .fro (.sl .bool) v1)::nn 10 (vc (iL v2)::vc (iL v3)::nn 12 ([]))
def xl11.q4:=fun v0 v1 v2 v3 => loopAtL E (callT E tab) 31 Try.f31 2 [.r,.r,.l,.r,.b] (xl11.s4 v0 v1 v2 v3)
def xl11.l4:=fun v0 v1 v2 v3 => tOf xl11.mk (xl11.q4 v0 v1 v2 v3)
def xl11.t {γ:Type} (ret:(Bool)→Option γ) (lp4:(List Bool)→(List Bool)→Int→Int→Option γ) (v0:List Bool) (v1:List Bool):Option γ :=
 bif (↑v0.length:Int) != (↑v1.length:Int) then
 ret (Bool.false)
 else
 lp4 (v0) (v1) ((↑v0.length:Int)) ((0:Int))
def xl11.t4 {γ:Type} (ret:(Bool)→Option γ) (lp4:(List Bool)→(List Bool)→Int→Int→Option γ) (v0:List Bool) (v1:List Bool) (v2:Int) (v3:Int):Option γ :=
 bif decide (v3<v2) then
 bif decide ((0:Int)≤v3) then
 bif decide (v3.toNat<v0.length) then
 bif decide ((0:Int)≤v3) then
 bif decide (v3.toNat<v1.length) then
 bif !v0.getD v3.toNat Bool.false == v1.getD v3.toNat Bool.false then
 ret (Bool.false)
 else
 lp4 (v0) (v1) (v2) (IntKind.i64.wrap (v3+(1:Int)))
 else
 none
 else
 none
 else
 none
 else
 none
 else
 ret (Bool.true)
theorem xl11.u:∀ b,xl11.un (xl11.mk b)=b:=fun _ => by kernel_rfl
theorem xl11.eq (v0 v1) {b} (h:xl11.t some xl11.l4 v0 v1=some b):xl11 v0 v1=some b:=eqF xl11.u Try.f31 (callT_le E tab) rfl rfl rfl (xl11.t (rR xl11.mk) xl11.q4 v0 v1) (by kernel_rfl) (by unfold xl11.t; repeat' first | exact sR | exact sN | exact sL | apply sC | (apply sB; intro _)) h
theorem xl11.eq4 (v0 v1 v2 v3) {b} (h:xl11.t4 some xl11.l4 v0 v1 v2 v3=some b):xl11.l4 v0 v1 v2 v3=some b:=eqL xl11.u (xl11.t4 (rR xl11.mk) xl11.q4 v0 v1 v2 v3) (by kernel_rfl) (by unfold xl11.t4; repeat' first | exact sR | exact sN | exact sL | apply sC | (apply sB; intro _)) h
def xl12.s10 (v0:List (Int × Int × Bool)) (v1:List (List Int × List Int × Bool)) (v2:List (Int × Int × Bool)) (v3:List (List Int × List Int × Bool)) (v4:Int) (v5:Int):List Cell:=nn 2 (⟨(.box false),[.d .fro Yc v0,.d .fro Yb v1],false,false,false,0,0⟩::⟨(.box false),[.d .fro Yc v2,.d .fro Yb v3],false,false,false,0,0⟩::nn 39 (vc (iL v4)::vc (iL v5)::nn 48 ([])))
def xl12.q10:=fun v0 v1 v2 v3 v4 v5 => loopAtL E (callT E tab) 32 Try.f32 2 [.r,.r,.r,.l,.r,.b] (xl12.s10 v0 v1 v2 v3 v4 v5)
def xl12.l10:=fun v0 v1 v2 v3 v4 v5 => tOf xl12.mk (xl12.q10 v0 v1 v2 v3 v4 v5)
def xl12.s4 (v0:List (Int × Int × Bool)) (v1:List (List Int × List Int × Bool)) (v2:List (Int × Int × Bool)) (v3:List (List Int × List Int × Bool)) (v4:Int) (v5:Int):List Cell:=nn 2 (⟨(.box false),[.d .fro Yc v0,.d .fro Yb v1],false,false,false,0,0⟩::⟨(.box false),[.d .fro Yc v2,.d .fro Yb v3],false,false,false,0,0⟩::nn 21 (vc (iL v4)::vc (iL v5)::nn 66 ([])))
def xl12.q4:=fun v0 v1 v2 v3 v4 v5 => loopAtL E (callT E tab) 32 Try.f32 2 [.r,.r,.l,.r,.b] (xl12.s4 v0 v1 v2 v3 v4 v5)
def xl12.l4:=fun v0 v1 v2 v3 v4 v5 => tOf xl12.mk (xl12.q4 v0 v1 v2 v3 v4 v5)
def xl12.t {γ:Type} (ret:(Bool)→Option γ) (lp4:(List (Int × Int × Bool))→(List (List Int × List Int × Bool))→(List (Int × Int × Bool))→(List (List Int × List Int × Bool))→Int→Int→Option γ) (v0:List (Int × Int × Bool)) (v1:List (List Int × List Int × Bool)) (v2:List (Int × Int × Bool)) (v3:List (List Int × List Int × Bool)):Option γ :=
 bif (↑v0.length:Int) != (↑v2.length:Int) then
 ret (Bool.false)
 else
 bif (↑v1.length:Int) != (↑v3.length:Int) then
 ret (Bool.false)
 else
 lp4 (v0) (v1) (v2) (v3) ((↑v0.length:Int)) ((0:Int))
def xl12.t10 {γ:Type} (ret:(Bool)→Option γ) (lp10:(List (Int × Int × Bool))→(List (List Int × List Int × Bool))→(List (Int × Int × Bool))→(List (List Int × List Int × Bool))→Int→Int→Option γ) (v0:List (Int × Int × Bool)) (v1:List (List Int × List Int × Bool)) (v2:List (Int × Int × Bool)) (v3:List (List Int × List Int × Bool)) (v4:Int) (v5:Int):Option γ :=
 bif decide (v5<v4) then
 bif decide ((0:Int)≤v5) then
 bif decide (v5.toNat<v1.length) then
 bif decide ((0:Int)≤v5) then
 bif decide (v5.toNat<v3.length) then
 bif !(v1.getD v5.toNat ([],[],Bool.false)).snd.snd == (v3.getD v5.toNat ([],[],Bool.false)).snd.snd then
 ret (Bool.false)
 else
 bif decide ((0:Int)≤v5) then
 bif decide (v5.toNat<v1.length) then
 bif decide ((0:Int)≤v5) then
 bif decide (v5.toNat<v3.length) then
 (xl17 ((v1.getD v5.toNat ([],[],Bool.false)).fst) ((v3.getD v5.toNat ([],[],Bool.false)).fst)).bind fun (r0:Bool) =>
 bif !r0 then
 ret (Bool.false)
 else
 bif decide ((0:Int)≤v5) then
 bif decide (v5.toNat<v1.length) then
 bif decide ((0:Int)≤v5) then
 bif decide (v5.toNat<v3.length) then
 (xl17 ((v1.getD v5.toNat ([],[],Bool.false)).snd.fst) ((v3.getD v5.toNat ([],[],Bool.false)).snd.fst)).bind fun (r1:Bool) =>
 bif !r1 then
 ret (Bool.false)
 else
 lp10 (v0) (v1) (v2) (v3) (v4) (IntKind.i64.wrap (v5+(1:Int)))
 else
 none
 else
 none
 else
 none
 else
 none
 else
 none
 else
 none
 else
 none
 else
 none
 else
 none
 else
 none
 else
 none
 else
 none
 else
 ret (Bool.true)
def xl12.t4 {γ:Type} (ret:(Bool)→Option γ) (lp10:(List (Int × Int × Bool))→(List (List Int × List Int × Bool))→(List (Int × Int × Bool))→(List (List Int × List Int × Bool))→Int→Int→Option γ) (lp4:(List (Int × Int × Bool))→(List (List Int × List Int × Bool))→(List (Int × Int × Bool))→(List (List Int × List Int × Bool))→Int→Int→Option γ) (v0:List (Int × Int × Bool)) (v1:List (List Int × List Int × Bool)) (v2:List (Int × Int × Bool)) (v3:List (List Int × List Int × Bool)) (v4:Int) (v5:Int):Option γ :=
 bif decide (v5<v4) then
 bif decide ((0:Int)≤v5) then
 bif decide (v5.toNat<v0.length) then
 bif decide ((0:Int)≤v5) then
 bif decide (v5.toNat<v2.length) then
 bif !(decide       ((v0.getD v5.toNat ((0:Int),(0:Int),Bool.false)).fst=        (v2.getD v5.toNat ((0:Int),(0:Int),Bool.false)).fst) &&     (decide         ((v0.getD v5.toNat ((0:Int),(0:Int),Bool.false)).snd.fst=          (v2.getD v5.toNat ((0:Int),(0:Int),Bool.false)).snd.fst) &&       (decide           ((v0.getD v5.toNat ((0:Int),(0:Int),Bool.false)).snd.snd=            (v2.getD v5.toNat ((0:Int),(0:Int),Bool.false)).snd.snd) &&         Bool.true))) then
 ret (Bool.false)
 else
 lp4 (v0) (v1) (v2) (v3) (v4) (IntKind.i64.wrap (v5+(1:Int)))
 else
 none
 else
 none
 else
 none
 else
 none
 else
 lp10 (v0) (v1) (v2) (v3) ((↑v1.length:Int)) ((0:Int))
theorem xl12.u:∀ b,xl12.un (xl12.mk b)=b:=fun _ => by kernel_rfl
theorem xl12.eq (v0 v1 v2 v3) {b} (h:xl12.t some xl12.l4 v0 v1 v2 v3=some b):xl12 v0 v1 v2 v3=some b:=eqF xl12.u Try.f32 (callT_le E tab) rfl rfl rfl (xl12.t (rR xl12.mk) xl12.q4 v0 v1 v2 v3) (by kernel_rfl) (by unfold xl12.t; repeat' first | exact sR | exact sN | exact sL | apply sC | (apply sB; intro _)) h
theorem xl12.eq10 (v0 v1 v2 v3 v4 v5) {b} (h:xl12.t10 some xl12.l10 v0 v1 v2 v3 v4 v5=some b):xl12.l10 v0 v1 v2 v3 v4 v5=some b:=eqL xl12.u (xl12.t10 (rR xl12.mk) xl12.q10 v0 v1 v2 v3 v4 v5) (by kernel_rfl) (by unfold xl12.t10; repeat' first | exact sR | exact sN | exact sL | apply sC | (apply sB; intro _)) h
theorem xl12.eq4 (v0 v1 v2 v3 v4 v5) {b} (h:xl12.t4 some xl12.l10 xl12.l4 v0 v1 v2 v3 v4 v5=some b):xl12.l4 v0 v1 v2 v3 v4 v5=some b:=eqL xl12.u (xl12.t4 (rR xl12.mk) xl12.q10 xl12.q4 v0 v1 v2 v3 v4 v5) (by kernel_rfl) (by unfold xl12.t4; repeat' first | exact sR | exact sN | exact sL | apply sC | (apply sB; intro _)) h
def xl17.s4 (v0:List Int) (v1:List Int) (v2:Int) (v3:Int):List Cell:=vc (.d .fro (.sl (.int .i64)) v0)::vc (.d .fro (.sl (.int .i64)) v1)::nn 10 (vc (iL v2)::vc (iL v3)::nn 12 ([]))
def xl17.q4:=fun v0 v1 v2 v3 => loopAtL E (callT E tab) 66 Try.f66 2 [.r,.r,.l,.r,.b] (xl17.s4 v0 v1 v2 v3)
def xl17.l4:=fun v0 v1 v2 v3 => tOf xl17.mk (xl17.q4 v0 v1 v2 v3)
def xl17.t {γ:Type} (ret:(Bool)→Option γ) (lp4:(List Int)→(List Int)→Int→Int→Option γ) (v0:List Int) (v1:List Int):Option γ :=
 bif (↑v0.length:Int) != (↑v1.length:Int) then
 ret (Bool.false)
 else
 lp4 (v0) (v1) ((↑v0.length:Int)) ((0:Int))
def xl17.t4 {γ:Type} (ret:(Bool)→Option γ) (lp4:(List Int)→(List Int)→Int→Int→Option γ) (v0:List Int) (v1:List Int) (v2:Int) (v3:Int):Option γ :=
 bif decide (v3<v2) then
 bif decide ((0:Int)≤v3) then
 bif decide (v3.toNat<v0.length) then
 bif decide ((0:Int)≤v3) then
 bif decide (v3.toNat<v1.length) then
 bif v0.getD v3.toNat (0:Int) != v1.getD v3.toNat (0:Int) then
 ret (Bool.false)
 else
 lp4 (v0) (v1) (v2) (IntKind.i64.wrap (v3+(1:Int)))
 else
 none
 else
 none
 else
 none
 else
 none
 else
 ret (Bool.true)
theorem xl17.u:∀ b,xl17.un (xl17.mk b)=b:=fun _ => by kernel_rfl
theorem xl17.eq (v0 v1) {b} (h:xl17.t some xl17.l4 v0 v1=some b):xl17 v0 v1=some b:=eqF xl17.u Try.f66 (callT_le E tab) rfl rfl rfl (xl17.t (rR xl17.mk) xl17.q4 v0 v1) (by kernel_rfl) (by unfold xl17.t; repeat' first | exact sR | exact sN | exact sL | apply sC | (apply sB; intro _)) h
theorem xl17.eq4 (v0 v1 v2 v3) {b} (h:xl17.t4 some xl17.l4 v0 v1 v2 v3=some b):xl17.l4 v0 v1 v2 v3=some b:=eqL xl17.u (xl17.t4 (rR xl17.mk) xl17.q4 v0 v1 v2 v3) (by kernel_rfl) (by unfold xl17.t4; repeat' first | exact sR | exact sN | exact sL | apply sC | (apply sB; intro _)) h
def xi1c.s10 (v0:Int) (v1:List (List Int × List Int × Bool)) (v2:Int) (v3:Int):List Cell:=nn 4 (vc (iL v0)::nn 20 (vc (.d .fro Yb v1)::vc (iL v2)::vc (iL v3)::nn 10 ([])))
def xi1c.q10:=fun v0 v1 v2 v3 => loopAtL E (callT E tab) 33 Try.f33 1 [.r,.r,.r,.r,.l,.r,.b] (xi1c.s10 v0 v1 v2 v3)
def xi1c.l10:=fun v0 v1 v2 v3 => tOf xi1c.mk (xi1c.q10 v0 v1 v2 v3)
def xi1c.s5 (v0:List (Int × Int × Bool)) (v1:List (List Int × List Int × Bool)) (v2:Int) (v3:List (Int × Int × Bool)) (v4:Int) (v5:Int):List Cell:=nn 1 (⟨(.box false),[.d .fro Yc v0,.d .fro Yb v1],false,false,false,0,0⟩::nn 2 (vc (iL v2)::nn 8 (vc (.d .fro Yc v3)::vc (iL v4)::vc (iL v5)::nn 22 ([]))))
def xi1c.q5:=fun v0 v1 v2 v3 v4 v5 => loopAtL E (callT E tab) 33 Try.f33 1 [.r,.r,.r,.l,.r,.b] (xi1c.s5 v0 v1 v2 v3 v4 v5)
def xi1c.l5:=fun v0 v1 v2 v3 v4 v5 => tOf xi1c.mk (xi1c.q5 v0 v1 v2 v3 v4 v5)
def xi1c.t {γ:Type} (ret:(Int × Bool)→Option γ) (lp5:(List (Int × Int × Bool))→(List (List Int × List Int × Bool))→Int→(List (Int × Int × Bool))→Int→Int→Option γ) (v0:List (Int × Int × Bool)) (v1:List (List Int × List Int × Bool)):Option γ :=
 (xi14 (v0) (v1)).bind fun (r0:Bool) =>
 bif !r0 then
 ret ((0:Int),Bool.false)
 else
 lp5 (v0) (v1) ((0:Int)) (v0) ((↑v0.length:Int)) ((0:Int))
def xi1c.t10 {γ:Type} (ret:(Int × Bool)→Option γ) (lp10:Int→(List (List Int × List Int × Bool))→Int→Int→Option γ) (v0:Int) (v1:List (List Int × List Int × Bool)) (v2:Int) (v3:Int):Option γ :=
 bif decide (v3<v2) then
 bif decide ((0:Int)≤v3) then
 bif decide (v3.toNat<v1.length) then
 (xi1h ((v1.getD v3.toNat ([],[],Bool.false)).fst)).bind fun (r1:Int) =>
 lp10 (IntKind.i64.wrap (v0+r1)) (v1) (v2) (IntKind.i64.wrap (v3+(1:Int)))
 else
 none
 else
 none
 else
 ret (v0,Bool.true)
def xi1c.t5 {γ:Type} (ret:(Int × Bool)→Option γ) (lp10:Int→(List (List Int × List Int × Bool))→Int→Int→Option γ) (lp5:(List (Int × Int × Bool))→(List (List Int × List Int × Bool))→Int→(List (Int × Int × Bool))→Int→Int→Option γ) (v0:List (Int × Int × Bool)) (v1:List (List Int × List Int × Bool)) (v2:Int) (v3:List (Int × Int × Bool)) (v4:Int) (v5:Int):Option γ :=
 bif decide (v5<v4) then
 bif decide ((0:Int)≤v5) then
 bif decide (v5.toNat<v3.length) then
 lp5 (v0) (v1) (IntKind.i64.wrap (v2+(v3.getD v5.toNat ((0:Int),(0:Int),Bool.false)).fst)) (v3) (v4) (IntKind.i64.wrap (v5+(1:Int)))
 else
 none
 else
 none
 else
 lp10 (v2) (v1) ((↑v1.length:Int)) ((0:Int))
theorem xi1c.u:∀ b,xi1c.un (xi1c.mk b)=b:=fun _ => by kernel_rfl
theorem xi1c.eq (v0 v1) {b} (h:xi1c.t some xi1c.l5 v0 v1=some b):xi1c v0 v1=some b:=eqF xi1c.u Try.f33 (callT_le E tab) rfl rfl rfl (xi1c.t (rR xi1c.mk) xi1c.q5 v0 v1) (by kernel_rfl) (by unfold xi1c.t; repeat' first | exact sR | exact sN | exact sL | apply sC | (apply sB; intro _)) h
theorem xi1c.eq10 (v0 v1 v2 v3) {b} (h:xi1c.t10 some xi1c.l10 v0 v1 v2 v3=some b):xi1c.l10 v0 v1 v2 v3=some b:=eqL xi1c.u (xi1c.t10 (rR xi1c.mk) xi1c.q10 v0 v1 v2 v3) (by kernel_rfl) (by unfold xi1c.t10; repeat' first | exact sR | exact sN | exact sL | apply sC | (apply sB; intro _)) h
theorem xi1c.eq5 (v0 v1 v2 v3 v4 v5) {b} (h:xi1c.t5 some xi1c.l10 xi1c.l5 v0 v1 v2 v3 v4 v5=some b):xi1c.l5 v0 v1 v2 v3 v4 v5=some b:=eqL xi1c.u (xi1c.t5 (rR xi1c.mk) xi1c.q10 xi1c.q5 v0 v1 v2 v3 v4 v5) (by kernel_rfl) (by unfold xi1c.t5; repeat' first | exact sR | exact sN | exact sL | apply sC | (apply sB; intro _)) h
def xi10.t {γ:Type} (ret:(Int × Bool)→Option γ) (v0:List (Int × Int × Bool)) (v1:List (List Int × List Int × Bool)):Option γ :=
 (xi14 (v0) (v1)).bind fun (r0:Bool) =>
 bif !r0 then
 ret ((0:Int),Bool.false)
 else
 (xi0q (v0) (v1)).bind fun (r1:Int × Bool) =>
 ret (r1.fst,r1.snd)
theorem xi10.u:∀ b,xi10.un (xi10.mk b)=b:=fun _ => by kernel_rfl
theorem xi10.eq (v0 v1) {b} (h:xi10.t some v0 v1=some b):xi10 v0 v1=some b:=eqF xi10.u Try.f35 (callT_le E tab) rfl rfl rfl (xi10.t (rR xi10.mk) v0 v1) (by kernel_rfl) (by unfold xi10.t; repeat' first | exact sR | exact sN | exact sL | apply sC | (apply sB; intro _)) h
def xi0q.s10 (v0:Int) (v1:List (List Int × List Int × Bool)) (v2:Int) (v3:Int):List Cell:=nn 4 (vc (iL v0)::nn 20 (vc (.d .fro Yb v1)::vc (iL v2)::vc (iL v3)::nn 12 ([])))
def xi0q.q10:=fun v0 v1 v2 v3 => loopAtL E (callT E tab) 60 Try.f60 1 [.r,.r,.r,.l,.r,.b] (xi0q.s10 v0 v1 v2 v3)
def xi0q.l10:=fun v0 v1 v2 v3 => tOf xi0q.mk (xi0q.q10 v0 v1 v2 v3)
def xi0q.s3 (v0:List (Int × Int × Bool)) (v1:List (List Int × List Int × Bool)) (v2:Int) (v3:List (Int × Int × Bool)) (v4:Int) (v5:Int):List Cell:=nn 1 (⟨(.box false),[.d .fro Yc v0,.d .fro Yb v1],false,false,false,0,0⟩::nn 2 (vc (iL v2)::nn 5 (vc (.d .fro Yc v3)::vc (iL v4)::vc (iL v5)::nn 27 ([]))))
def xi0q.q3:=fun v0 v1 v2 v3 v4 v5 => loopAtL E (callT E tab) 60 Try.f60 1 [.r,.r,.l,.r,.b] (xi0q.s3 v0 v1 v2 v3 v4 v5)
def xi0q.l3:=fun v0 v1 v2 v3 v4 v5 => tOf xi0q.mk (xi0q.q3 v0 v1 v2 v3 v4 v5)
def xi0q.t {γ:Type} (ret:(Int × Bool)→Option γ) (lp3:(List (Int × Int × Bool))→(List (List Int × List Int × Bool))→Int→(List (Int × Int × Bool))→Int→Int→Option γ) (v0:List (Int × Int × Bool)) (v1:List (List Int × List Int × Bool)):Option γ :=
 lp3 (v0) (v1) ((0:Int)) (v0) ((↑v0.length:Int)) ((0:Int))
def xi0q.t10 {γ:Type} (ret:(Int × Bool)→Option γ) (lp10:Int→(List (List Int × List Int × Bool))→Int→Int→Option γ) (v0:Int) (v1:List (List Int × List Int × Bool)) (v2:Int) (v3:Int):Option γ :=
 bif decide (v3<v2) then
 bif decide ((0:Int)≤v3) then
 bif decide (v3.toNat<v1.length) then
 bif (v1.getD v3.toNat ([],[],Bool.false)).snd.snd then
 ret ((0:Int),Bool.false)
 else
 (xi1h ((v1.getD v3.toNat ([],[],Bool.false)).snd.fst)).bind fun (r0:Int) =>
 lp10 (IntKind.i64.wrap (v0+r0)) (v1) (v2) (IntKind.i64.wrap (v3+(1:Int)))
 else
 none
 else
 none
 else
 ret (v0,Bool.true)
def xi0q.t3 {γ:Type} (ret:(Int × Bool)→Option γ) (lp10:Int→(List (List Int × List Int × Bool))→Int→Int→Option γ) (lp3:(List (Int × Int × Bool))→(List (List Int × List Int × Bool))→Int→(List (Int × Int × Bool))→Int→Int→Option γ) (v0:List (Int × Int × Bool)) (v1:List (List Int × List Int × Bool)) (v2:Int) (v3:List (Int × Int × Bool)) (v4:Int) (v5:Int):Option γ :=
 bif decide (v5<v4) then
 bif decide ((0:Int)≤v5) then
 bif decide (v5.toNat<v3.length) then
 bif !(v3.getD v5.toNat ((0:Int),(0:Int),Bool.false)).snd.snd then
 ret ((0:Int),Bool.false)
 else
 lp3 (v0) (v1) (IntKind.i64.wrap (v2+(v3.getD v5.toNat ((0:Int),(0:Int),Bool.false)).snd.fst)) (v3) (v4) (IntKind.i64.wrap (v5+(1:Int)))
 else
 none
 else
 none
 else
 lp10 (v2) (v1) ((↑v1.length:Int)) ((0:Int))
theorem xi0q.u:∀ b,xi0q.un (xi0q.mk b)=b:=fun _ => by kernel_rfl
theorem xi0q.eq (v0 v1) {b} (h:xi0q.t some xi0q.l3 v0 v1=some b):xi0q v0 v1=some b:=eqF xi0q.u Try.f60 (callT_le E tab) rfl rfl rfl (xi0q.t (rR xi0q.mk) xi0q.q3 v0 v1) (by kernel_rfl) (by unfold xi0q.t; repeat' first | exact sR | exact sN | exact sL | apply sC | (apply sB; intro _)) h
theorem xi0q.eq10 (v0 v1 v2 v3) {b} (h:xi0q.t10 some xi0q.l10 v0 v1 v2 v3=some b):xi0q.l10 v0 v1 v2 v3=some b:=eqL xi0q.u (xi0q.t10 (rR xi0q.mk) xi0q.q10 v0 v1 v2 v3) (by kernel_rfl) (by unfold xi0q.t10; repeat' first | exact sR | exact sN | exact sL | apply sC | (apply sB; intro _)) h
theorem xi0q.eq3 (v0 v1 v2 v3 v4 v5) {b} (h:xi0q.t3 some xi0q.l10 xi0q.l3 v0 v1 v2 v3 v4 v5=some b):xi0q.l3 v0 v1 v2 v3 v4 v5=some b:=eqL xi0q.u (xi0q.t3 (rR xi0q.mk) xi0q.q10 xi0q.q3 v0 v1 v2 v3 v4 v5) (by kernel_rfl) (by unfold xi0q.t3; repeat' first | exact sR | exact sN | exact sL | apply sC | (apply sB; intro _)) h
def xi0y.s4 (v0:List (Int × Int × Bool)) (v1:List (List Int × List Int × Bool)) (v2:List (Int × Int × Bool)) (v3:List (List Int × List Int × Bool)) (v4:List (Int × Int × Bool)) (v5:List (List Int × List Int × Bool)) (v6:Int):List Cell:=nn 1 (⟨(.box false),[.d .fro Yc v0,.d .fro Yb v1],false,false,false,0,0⟩::⟨(.box false),[.d .deep Yc v2,.d .deep Yb v3],false,false,false,0,0⟩::nn 2 (⟨(.box false),[.d .deep Yc v4,.d .deep Yb v5],false,false,false,0,0⟩::vc (iL v6)::nn 56 ([])))
def xi0y.q4:=fun v0 v1 v2 v3 v4 v5 v6 => loopAtL E (callT E tab) 17 Try.f17 1 [.r,.r,.r,.l,.b] (xi0y.s4 v0 v1 v2 v3 v4 v5 v6)
def xi0y.l4:=fun v0 v1 v2 v3 v4 v5 v6 => tOf xi0y.mk (xi0y.q4 v0 v1 v2 v3 v4 v5 v6)
def xi0y.t {γ:Type} (ret:((List (Int × Int × Bool)) × (List (List Int × List Int × Bool)) × Int × Bool)→Option γ) (lp4:(List (Int × Int × Bool))→(List (List Int × List Int × Bool))→(List (Int × Int × Bool))→(List (List Int × List Int × Bool))→(List (Int × Int × Bool))→(List (List Int × List Int × Bool))→Int→Option γ) (v0:List (Int × Int × Bool)) (v1:List (List Int × List Int × Bool)):Option γ :=
 (xi14 (v0) (v1)).bind fun (r0:Bool) =>
 bif !r0 then
 ret ([],[],(0:Int),Bool.false)
 else
 (xs04 (v0)).bind fun (r1:Bool) =>
 bif !r1 then
 ret ([],[],(0:Int),Bool.false)
 else
 (xi16 (v0) (v1)).bind fun (r2:(List (Int × Int × Bool)) × (List (List Int × List Int × Bool))) =>
 lp4 (v0) (v1) ([]) ([]) (r2.fst) (r2.snd) ((0:Int))
def xi0y.t4 {γ:Type} (ret:((List (Int × Int × Bool)) × (List (List Int × List Int × Bool)) × Int × Bool)→Option γ) (lp4:(List (Int × Int × Bool))→(List (List Int × List Int × Bool))→(List (Int × Int × Bool))→(List (List Int × List Int × Bool))→(List (Int × Int × Bool))→(List (List Int × List Int × Bool))→Int→Option γ) (v0:List (Int × Int × Bool)) (v1:List (List Int × List Int × Bool)) (v2:List (Int × Int × Bool)) (v3:List (List Int × List Int × Bool)) (v4:List (Int × Int × Bool)) (v5:List (List Int × List Int × Bool)) (v6:Int):Option γ :=
 bif decide (v6<(2000:Int)) then
 (xs06 (v5)).bind fun (r3:Int) =>
 bif decide (r3<(0:Int)) then
 (xi0q (v4) (v5)).bind fun (r4:Int × Bool) =>
 bif !r4.snd then
 ret ([],[],(0:Int),Bool.false)
 else
 ret (v4,v5,v6,Bool.true)
 else
 bif decide ((↑v0.length:Int)≠(0:Int)) then
 bif decide ((↑v0.length:Int)≠(0:Int)) then
 (xi0r (v4) (v5) ((2:Int)) (IntKind.i64.wrap (r3.tdiv (↑v0.length:Int))) (r3.tmod (↑v0.length:Int)) ((0:Int))).bind fun (r5:(List (Int × Int × Bool)) × (List (List Int × List Int × Bool)) × Bool) =>
 bif !r5.snd.snd then
 ret ([],[],(0:Int),Bool.false)
 else
 lp4 (v0) (v1) (v2) (v3) (r5.fst) (r5.snd.fst) (IntKind.i64.wrap (v6+(1:Int)))
 else
 none
 else
 none
 else
 (xi0q (v4) (v5)).bind fun (r6:Int × Bool) =>
 bif !r6.snd then
 ret ([],[],(0:Int),Bool.false)
 else
 ret (v4,v5,v6,Bool.true)
theorem xi0y.u:∀ b,xi0y.un (xi0y.mk b)=b:=fun _ => by kernel_rfl
theorem xi0y.eq (v0 v1) {b} (h:xi0y.t some xi0y.l4 v0 v1=some b):xi0y v0 v1=some b:=eqF xi0y.u Try.f17 (callT_le E tab) rfl rfl rfl (xi0y.t (rR xi0y.mk) xi0y.q4 v0 v1) (by kernel_rfl) (by unfold xi0y.t; repeat' first | exact sR | exact sN | exact sL | apply sC | (apply sB; intro _)) h
theorem xi0y.eq4 (v0 v1 v2 v3 v4 v5 v6) {b} (h:xi0y.t4 some xi0y.l4 v0 v1 v2 v3 v4 v5 v6=some b):xi0y.l4 v0 v1 v2 v3 v4 v5 v6=some b:=eqL xi0y.u (xi0y.t4 (rR xi0y.mk) xi0y.q4 v0 v1 v2 v3 v4 v5 v6) (by kernel_rfl) (by unfold xi0y.t4; repeat' first | exact sR | exact sN | exact sL | apply sC | (apply sB; intro _)) h
def xs04.t {γ:Type} (ret:(Bool)→Option γ) (v0:List (Int × Int × Bool)):Option γ :=
 (xs05 (v0)).bind fun (r0:Int) =>
 ret (decide (r0 ≥ (0:Int)))
theorem xs04.u:∀ b,xs04.un (xs04.mk b)=b:=fun _ => by kernel_rfl
theorem xs04.eq (v0) {b} (h:xs04.t some v0=some b):xs04 v0=some b:=eqF xs04.u Try.f55 (callT_le E tab) rfl rfl rfl (xs04.t (rR xs04.mk) v0) (by kernel_rfl) (by unfold xs04.t; repeat' first | exact sR | exact sN | exact sL | apply sC | (apply sB; intro _)) h
def xs05.s2 (v0:List (Int × Int × Bool)) (v1:Int) (v2:Int):List Cell:=vc (.d .fro Yc v0)::vc (.fn 56 [])::nn 5 (vc (iL v1)::vc (iL v2)::nn 10 ([]))
def xs05.q2:=fun v0 v1 v2 => loopAtL E (callT E tab) 85 Try.f85 2 [.r,.l,.r,.b] (xs05.s2 v0 v1 v2)
def xs05.l2:=fun v0 v1 v2 => tOf xs05.mk (xs05.q2 v0 v1 v2)
def xs05.t {γ:Type} (ret:(Int)→Option γ) (lp2:(List (Int × Int × Bool))→Int→Int→Option γ) (v0:List (Int × Int × Bool)):Option γ :=
 lp2 (v0) ((↑v0.length:Int)) ((0:Int))
def xs05.t2 {γ:Type} (ret:(Int)→Option γ) (lp2:(List (Int × Int × Bool))→Int→Int→Option γ) (v0:List (Int × Int × Bool)) (v1:Int) (v2:Int):Option γ :=
 bif decide (v2<v1) then
 bif decide ((0:Int)≤v2) then
 bif decide (v2.toNat<v0.length) then
 (xi0o ((v0.getD v2.toNat ((0:Int),(0:Int),Bool.false)).fst) ((v0.getD v2.toNat ((0:Int),(0:Int),Bool.false)).snd.fst) ((v0.getD v2.toNat ((0:Int),(0:Int),Bool.false)).snd.snd)).bind fun (r0:Bool) =>
 bif r0 then
 ret (v2)
 else
 lp2 (v0) (v1) (IntKind.i64.wrap (v2+(1:Int)))
 else
 none
 else
 none
 else
 ret ((-1:Int))
theorem xs05.u:∀ b,xs05.un (xs05.mk b)=b:=fun _ => by kernel_rfl
theorem xs05.eq (v0) {b} (h:xs05.t some xs05.l2 v0=some b):xs05 v0=some b:=eqF xs05.u Try.f85 (callT_le E tab) rfl rfl rfl (xs05.t (rR xs05.mk) xs05.q2 v0) (by kernel_rfl) (by unfold xs05.t; repeat' first | exact sR | exact sN | exact sL | apply sC | (apply sB; intro _)) h
theorem xs05.eq2 (v0 v1 v2) {b} (h:xs05.t2 some xs05.l2 v0 v1 v2=some b):xs05.l2 v0 v1 v2=some b:=eqL xs05.u (xs05.t2 (rR xs05.mk) xs05.q2 v0 v1 v2) (by kernel_rfl) (by unfold xs05.t2; repeat' first | exact sR | exact sN | exact sL | apply sC | (apply sB; intro _)) h
def xi0o.t {γ:Type} (ret:(Bool)→Option γ) (v0:Int) (v1:Int) (v2:Bool):Option γ :=
 ret (v2)
theorem xi0o.u:∀ b,xi0o.un (xi0o.mk b)=b:=fun _ => by kernel_rfl
theorem xi0o.eq (v0 v1 v2) {b} (h:xi0o.t some v0 v1 v2=some b):xi0o v0 v1 v2=some b:=eqF xi0o.u Try.f56 (callT_le E tab) rfl rfl rfl (xi0o.t (rR xi0o.mk) v0 v1 v2) (by kernel_rfl) (by unfold xi0o.t; repeat' first | exact sR | exact sN | exact sL | apply sC | (apply sB; intro _)) h
def xs06.s2 (v0:List (List Int × List Int × Bool)) (v1:Int) (v2:Int):List Cell:=vc (.d .fro Yb v0)::vc (.fn 59 [])::nn 5 (vc (iL v1)::vc (iL v2)::nn 10 ([]))
def xs06.q2:=fun v0 v1 v2 => loopAtL E (callT E tab) 58 Try.f58 2 [.r,.l,.r,.b] (xs06.s2 v0 v1 v2)
def xs06.l2:=fun v0 v1 v2 => tOf xs06.mk (xs06.q2 v0 v1 v2)
def xs06.t {γ:Type} (ret:(Int)→Option γ) (lp2:(List (List Int × List Int × Bool))→Int→Int→Option γ) (v0:List (List Int × List Int × Bool)):Option γ :=
 lp2 (v0) ((↑v0.length:Int)) ((0:Int))
def xs06.t2 {γ:Type} (ret:(Int)→Option γ) (lp2:(List (List Int × List Int × Bool))→Int→Int→Option γ) (v0:List (List Int × List Int × Bool)) (v1:Int) (v2:Int):Option γ :=
 bif decide (v2<v1) then
 bif decide ((0:Int)≤v2) then
 bif decide (v2.toNat<v0.length) then
 (xi0p ((v0.getD v2.toNat ([],[],Bool.false)).fst) ((v0.getD v2.toNat ([],[],Bool.false)).snd.fst) ((v0.getD v2.toNat ([],[],Bool.false)).snd.snd)).bind fun (r0:Bool) =>
 bif r0 then
 ret (v2)
 else
 lp2 (v0) (v1) (IntKind.i64.wrap (v2+(1:Int)))
 else
 none
 else
 none
 else
 ret ((-1:Int))
theorem xs06.u:∀ b,xs06.un (xs06.mk b)=b:=fun _ => by kernel_rfl
theorem xs06.eq (v0) {b} (h:xs06.t some xs06.l2 v0=some b):xs06 v0=some b:=eqF xs06.u Try.f58 (callT_le E tab) rfl rfl rfl (xs06.t (rR xs06.mk) xs06.q2 v0) (by kernel_rfl) (by unfold xs06.t; repeat' first | exact sR | exact sN | exact sL | apply sC | (apply sB; intro _)) h
theorem xs06.eq2 (v0 v1 v2) {b} (h:xs06.t2 some xs06.l2 v0 v1 v2=some b):xs06.l2 v0 v1 v2=some b:=eqL xs06.u (xs06.t2 (rR xs06.mk) xs06.q2 v0 v1 v2) (by kernel_rfl) (by unfold xs06.t2; repeat' first | exact sR | exact sN | exact sL | apply sC | (apply sB; intro _)) h
def xi0p.t {γ:Type} (ret:(Bool)→Option γ) (v0:List Int) (v1:List Int) (v2:Bool):Option γ :=
 ret (decide ((↑v0.length:Int) > (0:Int)))
theorem xi0p.u:∀ b,xi0p.un (xi0p.mk b)=b:=fun _ => by kernel_rfl
theorem xi0p.eq (v0 v1 v2) {b} (h:xi0p.t some v0 v1 v2=some b):xi0p v0 v1 v2=some b:=eqF xi0p.u Try.f59 (callT_le E tab) rfl rfl rfl (xi0p.t (rR xi0p.mk) v0 v1 v2) (by kernel_rfl) (by unfold xi0p.t; repeat' first | exact sR | exact sN | exact sL | apply sC | (apply sB; intro _)) h
end
end GoV
