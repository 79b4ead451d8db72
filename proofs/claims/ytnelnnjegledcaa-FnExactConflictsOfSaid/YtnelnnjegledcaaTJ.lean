/- A part of the proof of FnExactConflictsOf: an interpreter of the model over plain data, its soundness, and what it makes of the functions that the statement reaches. Conditions: none beyond what the given statement itself says. -/
import Derived.Test.YtnelnnjegledcaaTI
set_option linter.unusedVariables false
set_option linter.unusedSimpArgs false
set_option linter.unnecessarySimpa false
set_option linter.unusedSectionVars false
/- The functions of the program, each told by what it answers in the end (printed by wip/tools/emit.py). -/
/-! Names of functions here: xs00 = slices_ContainsFunc_impl_Step_impl_Step_impl_areAll_impl_Step_1_impl_isStep, xs01 = slices_IndexFunc_impl_Step_impl_Step_impl_areAll_impl_Step_1_impl_isStep, xi02 = impl_areAll_impl_Step_1_impl_isStep, xi03 = impl_areAll_impl_Step_impl_isStep, xl04 = laws_FnExactConflictsOf, xl05 = laws_markIntSS_1f6, xl06 = laws_markStepS_5b1, xl07 = laws_markIntS_83f, xs08 = spec_l13Conflicts, xi09 = impl_ConflictsOf, xs0a = spec_ConflictsOf, xi0b = impl_GoodSteps, xi0c = impl_conflicts, xl0d = laws_heldIntSS, xs0e = spec_GoodSteps, xi0f = impl_set_list, xl0g = laws_heldIntS, xs0h = spec_l13Clash, xl0i = laws_eqIntSS, xl0j = laws_eqStepS, xl0k = laws_szStepS, xl0l = laws_toStepS, xi0m = impl_isStep, xi0n = impl_within, xl0o = laws_eqIntS, xl0p = laws_eqStep, xl0q = laws_toStep, xi0r = impl_clash, xi0s = impl_isTxn, xs0t = spec_l1Has, xs0u = spec_l7Put, xs0v = spec_l1In -/
namespace GoV
abbrev Ze:=List (Int × Int × Int)
abbrev Zg:=List (List Int)
abbrev Ya:Ty:=.sl (.pair (.int .i64) (.pair (.int .i64) (.int .i64)))
open Go Go.Proofs
set_option maxRecDepth 100000
noncomputable section

def xl04.c (v0:Ze):List Cell:=vc (.d .fro Ya v0)::[]
def xl04.mk (b:Bool):R:=(⟨.one,[bL b]⟩,nn 1 ([]))
def xl04.un (r:R):Bool:=((leafR r 0).dat .bool)
def xl04 (v0:Ze):Option (Bool):=tOf xl04.mk (vlim E 3 (xl04.c v0))
def xl0k.c (v0:Ze) (v1:Int):List Cell:=vc (.d .fro Ya v0)::vc (iL v1)::[]
def xl0k.mk (b:Int):R:=(⟨.one,[iL b]⟩,nn 2 ([]))
def xl0k.un (r:R):Int:=((leafR r 0).dat (.int .i64))
def xl0k (v0:Ze) (v1:Int):Option (Int):=tOf xl0k.mk (vlim E 4 (xl0k.c v0 v1))
def xl0l.c (v0:Ze):List Cell:=vc (.d .fro Ya v0)::[]
def xl0l.mk (b:Ze):R:=(⟨.one,[.d .deep Ya b]⟩,nn 1 ([]))
def xl0l.un (r:R):Ze:=((leafR r 0).dat Ya)
def xl0l (v0:Ze):Option (Ze):=tOf xl0l.mk (vlim E 6 (xl0l.c v0))
def xl0q.c (v0:Int) (v1:Int) (v2:Int):List Cell:=ac [iL v0,iL v1,iL v2]::[]
def xl0q.mk (b:Int × Int × Int):R:=(⟨.agg,[iL b.1,iL b.2.1,iL b.2.2]⟩,nn 1 ([]))
def xl0q.un (r:R):Int × Int × Int:=((leafR r 0).dat (.int .i64),(leafR r 1).dat (.int .i64),(leafR r 2).dat (.int .i64))
def xl0q (v0:Int) (v1:Int) (v2:Int):Option (Int × Int × Int):=tOf xl0q.mk (vlim E 15 (xl0q.c v0 v1 v2))
def xs0a.c (v0:Ze):List Cell:=vc (.d .fro Ya v0)::[]
def xs0a.mk (b:Zg × Bool):R:=(⟨(.tup [none,none]),[.d .sha (.sl (.sl (.int .i64))) b.1,bL b.2]⟩,nn 1 ([]))
def xs0a.un (r:R):Zg × Bool:=((leafR r 0).dat (.sl (.sl (.int .i64))),(leafR r 1).dat .bool)
def xs0a (v0:Ze):Option (Zg × Bool):=tOf xs0a.mk (vlim E 5 (xs0a.c v0))
def xs0e.c (v0:Ze):List Cell:=vc (.d .fro Ya v0)::[]
def xs0e.mk (b:Bool):R:=(⟨.one,[bL b]⟩,nn 1 ([]))
def xs0e.un (r:R):Bool:=((leafR r 0).dat .bool)
def xs0e (v0:Ze):Option (Bool):=tOf xs0e.mk (vlim E 13 (xs0e.c v0))
def xs0v.c (v0:Int) (v1:Int) (v2:Int):List Cell:=vc (iL v0)::vc (iL v1)::vc (iL v2)::[]
def xs0v.mk (b:Bool):R:=(⟨.one,[bL b]⟩,nn 3 ([]))
def xs0v.un (r:R):Bool:=((leafR r 0).dat .bool)
def xs0v (v0:Int) (v1:Int) (v2:Int):Option (Bool):=tOf xs0v.mk (vlim E 23 (xs0v.c v0 v1 v2))
def xs08.c (v0:Ze):List Cell:=vc (.d .fro Ya v0)::[]
def xs08.mk (b:Zg):R:=(⟨.one,[.d .sha (.sl (.sl (.int .i64))) b]⟩,nn 1 ([]))
def xs08.un (r:R):Zg:=((leafR r 0).dat (.sl (.sl (.int .i64))))
def xs08 (v0:Ze):Option (Zg):=tOf xs08.mk (vlim E 14 (xs08.c v0))
def xs0h.c (v0:Int) (v1:Int) (v2:Int) (v3:Int) (v4:Int) (v5:Int):List Cell:=ac [iL v0,iL v1,iL v2]::ac [iL v3,iL v4,iL v5]::[]
def xs0h.mk (b:Bool):R:=(⟨.one,[bL b]⟩,nn 2 ([]))
def xs0h.un (r:R):Bool:=((leafR r 0).dat .bool)
def xs0h (v0:Int) (v1:Int) (v2:Int) (v3:Int) (v4:Int) (v5:Int):Option (Bool):=tOf xs0h.mk (vlim E 24 (xs0h.c v0 v1 v2 v3 v4 v5))
def xs0u.c (v0:List Int) (v1:Int):List Cell:=vc (.d .fro (.sl (.int .i64)) v0)::vc (iL v1)::[]
def xs0u.mk (b:(List Int)):R:=(⟨.one,[.d .fro (.sl (.int .i64)) b]⟩,nn 2 ([]))
def xs0u.un (r:R):(List Int):=((leafR r 0).dat (.sl (.int .i64)))
def xs0u (v0:List Int) (v1:Int):Option ((List Int)):=tOf xs0u.mk (vlim E 25 (xs0u.c v0 v1))
def xs0t.c (v0:List Int) (v1:Int):List Cell:=vc (.d .fro (.sl (.int .i64)) v0)::vc (iL v1)::[]
def xs0t.mk (b:Bool):R:=(⟨.one,[bL b]⟩,nn 2 ([]))
def xs0t.un (r:R):Bool:=((leafR r 0).dat .bool)
def xs0t (v0:List Int) (v1:Int):Option (Bool):=tOf xs0t.mk (vlim E 29 (xs0t.c v0 v1))
def xi09.c (v0:Ze):List Cell:=vc (.d .fro Ya v0)::[]
def xi09.mk (b:Zg × Bool):R:=(⟨(.tup [none,none]),[.d .deep (.sl (.sl (.int .i64))) b.1,bL b.2]⟩,nn 1 ([]))
def xi09.un (r:R):Zg × Bool:=((leafR r 0).dat (.sl (.sl (.int .i64))),(leafR r 1).dat .bool)
def xi09 (v0:Ze):Option (Zg × Bool):=tOf xi09.mk (vlim E 7 (xi09.c v0))
def xi0b.c (v0:Ze):List Cell:=vc (.d .fro Ya v0)::[]
def xi0b.mk (b:Bool):R:=(⟨.one,[bL b]⟩,nn 1 ([]))
def xi0b.un (r:R):Bool:=((leafR r 0).dat .bool)
def xi0b (v0:Ze):Option (Bool):=tOf xi0b.mk (vlim E 16 (xi0b.c v0))
def xi03.c (v0:Ze):List Cell:=vc (.d .fro Ya v0)::vc (.fn 27 [])::[]
def xi03.mk (b:Bool):R:=(⟨.one,[bL b]⟩,nn 2 ([]))
def xi03.un (r:R):Bool:=((leafR r 0).dat .bool)
def xi03 (v0:Ze):Option (Bool):=tOf xi03.mk (vlim E 26 (xi03.c v0))
def xs00.c (v0:Ze):List Cell:=vc (.d .fro Ya v0)::vc (.fn 31 [.rp [.fn 27 []] 0])::[]
def xs00.mk (b:Bool):R:=(⟨.one,[bL b]⟩,nn 2 ([]))
def xs00.un (r:R):Bool:=((leafR r 0).dat .bool)
def xs00 (v0:Ze):Option (Bool):=tOf xs00.mk (vlim E 30 (xs00.c v0))
def xs01.c (v0:Ze):List Cell:=vc (.d .fro Ya v0)::vc (.fn 31 [.rp [.fn 27 []] 0])::[]
def xs01.mk (b:Int):R:=(⟨.one,[iL b]⟩,nn 2 ([]))
def xs01.un (r:R):Int:=((leafR r 0).dat (.int .i64))
def xs01 (v0:Ze):Option (Int):=tOf xs01.mk (vlim E 34 (xs01.c v0))
def xi02.c (v0:Int) (v1:Int) (v2:Int):List Cell:=ac [iL v0,iL v1,iL v2]::vc (.rp [.fn 27 []] 0)::[]
def xi02.mk (b:Bool):R:=(⟨.one,[bL b]⟩,nn 2 ([]))
def xi02.un (r:R):Bool:=((leafR r 0).dat .bool)
def xi02 (v0:Int) (v1:Int) (v2:Int):Option (Bool):=tOf xi02.mk (vlim E 31 (xi02.c v0 v1 v2))
def xi0m.c (v0:Int) (v1:Int) (v2:Int):List Cell:=ac [iL v0,iL v1,iL v2]::[]
def xi0m.mk (b:Bool):R:=(⟨.one,[bL b]⟩,nn 1 ([]))
def xi0m.un (r:R):Bool:=((leafR r 0).dat .bool)
def xi0m (v0:Int) (v1:Int) (v2:Int):Option (Bool):=tOf xi0m.mk (vlim E 27 (xi0m.c v0 v1 v2))
def xi0s.c (v0:Int):List Cell:=vc (iL v0)::[]
def xi0s.mk (b:Bool):R:=(⟨.one,[bL b]⟩,nn 1 ([]))
def xi0s.un (r:R):Bool:=((leafR r 0).dat .bool)
def xi0s (v0:Int):Option (Bool):=tOf xi0s.mk (vlim E 32 (xi0s.c v0))
def xi0n.c (v0:Int) (v1:Int) (v2:Int):List Cell:=vc (iL v0)::vc (iL v1)::vc (iL v2)::[]
def xi0n.mk (b:Bool):R:=(⟨.one,[bL b]⟩,nn 3 ([]))
def xi0n.un (r:R):Bool:=((leafR r 0).dat .bool)
def xi0n (v0:Int) (v1:Int) (v2:Int):Option (Bool):=tOf xi0n.mk (vlim E 33 (xi0n.c v0 v1 v2))
def xi0c.c (v0:Ze):List Cell:=vc (.d .fro Ya v0)::[]
def xi0c.mk (b:Int × Int × Int × Int × Int × Int):R:=(⟨.agg,[iL b.1,iL b.2.1,iL b.2.2.1,iL b.2.2.2.1,iL b.2.2.2.2.1,iL b.2.2.2.2.2]⟩,nn 1 ([]))
def xi0c.un (r:R):Int × Int × Int × Int × Int × Int:=((leafR r 0).dat (.int .i64),(leafR r 1).dat (.int .i64),(leafR r 2).dat (.int .i64),(leafR r 3).dat (.int .i64),(leafR r 4).dat (.int .i64),(leafR r 5).dat (.int .i64))
def xi0c (v0:Ze):Option (Int × Int × Int × Int × Int × Int):=tOf xi0c.mk (vlim E 17 (xi0c.c v0))
def xi0r.c (v0:Int) (v1:Int) (v2:Int) (v3:Int) (v4:Int) (v5:Int):List Cell:=ac [iL v0,iL v1,iL v2]::ac [iL v3,iL v4,iL v5]::[]
def xi0r.mk (b:Bool):R:=(⟨.one,[bL b]⟩,nn 2 ([]))
def xi0r.un (r:R):Bool:=((leafR r 0).dat .bool)
def xi0r (v0:Int) (v1:Int) (v2:Int) (v3:Int) (v4:Int) (v5:Int):Option (Bool):=tOf xi0r.mk (vlim E 28 (xi0r.c v0 v1 v2 v3 v4 v5))
def xi0f.c (v0:Int):List Cell:=vc (iL v0)::[]
def xi0f.mk (b:(List Int)):R:=(⟨.one,[.d .deep (.sl (.int .i64)) b]⟩,nn 1 ([]))
def xi0f.un (r:R):(List Int):=((leafR r 0).dat (.sl (.int .i64)))
def xi0f (v0:Int):Option ((List Int)):=tOf xi0f.mk (vlim E 18 (xi0f.c v0))
def xl0i.c (v0:Zg) (v1:Zg):List Cell:=vc (.d .fro (.sl (.sl (.int .i64))) v0)::vc (.d .fro (.sl (.sl (.int .i64))) v1)::[]
def xl0i.mk (b:Bool):R:=(⟨.one,[bL b]⟩,nn 2 ([]))
def xl0i.un (r:R):Bool:=((leafR r 0).dat .bool)
def xl0i (v0:Zg) (v1:Zg):Option (Bool):=tOf xl0i.mk (vlim E 8 (xl0i.c v0 v1))
def xl0o.c (v0:List Int) (v1:List Int):List Cell:=vc (.d .fro (.sl (.int .i64)) v0)::vc (.d .fro (.sl (.int .i64)) v1)::[]
def xl0o.mk (b:Bool):R:=(⟨.one,[bL b]⟩,nn 2 ([]))
def xl0o.un (r:R):Bool:=((leafR r 0).dat .bool)
def xl0o (v0:List Int) (v1:List Int):Option (Bool):=tOf xl0o.mk (vlim E 19 (xl0o.c v0 v1))
def xl0j.c (v0:Ze) (v1:Ze):List Cell:=vc (.d .fro Ya v0)::vc (.d .fro Ya v1)::[]
def xl0j.mk (b:Bool):R:=(⟨.one,[bL b]⟩,nn 2 ([]))
def xl0j.un (r:R):Bool:=((leafR r 0).dat .bool)
def xl0j (v0:Ze) (v1:Ze):Option (Bool):=tOf xl0j.mk (vlim E 9 (xl0j.c v0 v1))
def xl0p.c (v0:Int) (v1:Int) (v2:Int) (v3:Int) (v4:Int) (v5:Int):List Cell:=ac [iL v0,iL v1,iL v2]::ac [iL v3,iL v4,iL v5]::[]
def xl0p.mk (b:Bool):R:=(⟨.one,[bL b]⟩,nn 2 ([]))
def xl0p.un (r:R):Bool:=((leafR r 0).dat .bool)
def xl0p (v0:Int) (v1:Int) (v2:Int) (v3:Int) (v4:Int) (v5:Int):Option (Bool):=tOf xl0p.mk (vlim E 20 (xl0p.c v0 v1 v2 v3 v4 v5))
def xl06.c (v0:Ze) (v1:Int):List Cell:=⟨(.val .one),[.d .deep Ya v0],true,false,false,0,0⟩::vc (iL v1)::[]
def xl06.mk (b:Int × Ze):R:=(⟨.one,[iL b.1]⟩,⟨(.val .one),[.d .deep Ya b.2],true,false,false,0,0⟩::nn 1 ([]))
def xl06.un (r:R):Int × Ze:=((leafR r 0).dat (.int .i64),(leafF r 0 0).dat Ya)
def xl06 (v0:Ze) (v1:Int):Option (Int × Ze):=tOf xl06.mk (vlim E 10 (xl06.c v0 v1))
def xl05.c (v0:Zg) (v1:Int):List Cell:=⟨(.val .one),[.d .deep (.sl (.sl (.int .i64))) v0],true,false,false,0,0⟩::vc (iL v1)::[]
def xl05.mk (b:Int × Zg):R:=(⟨.one,[iL b.1]⟩,⟨(.val .one),[.d .deep (.sl (.sl (.int .i64))) b.2],true,false,false,0,0⟩::nn 1 ([]))
def xl05.un (r:R):Int × Zg:=((leafR r 0).dat (.int .i64),(leafF r 0 0).dat (.sl (.sl (.int .i64))))
def xl05 (v0:Zg) (v1:Int):Option (Int × Zg):=tOf xl05.mk (vlim E 11 (xl05.c v0 v1))
def xl07.c (v0:List Int) (v1:Int):List Cell:=⟨(.val .one),[.d .deep (.sl (.int .i64)) v0],true,false,false,0,0⟩::vc (iL v1)::[]
def xl07.mk (b:Int × (List Int)):R:=(⟨.one,[iL b.1]⟩,⟨(.val .one),[.d .deep (.sl (.int .i64)) b.2],true,false,false,0,0⟩::nn 1 ([]))
def xl07.un (r:R):Int × (List Int):=((leafR r 0).dat (.int .i64),(leafF r 0 0).dat (.sl (.int .i64)))
def xl07 (v0:List Int) (v1:Int):Option (Int × (List Int)):=tOf xl07.mk (vlim E 21 (xl07.c v0 v1))
def xl0d.c (v0:Zg) (v1:Int):List Cell:=vc (.d .fro (.sl (.sl (.int .i64))) v0)::vc (iL v1)::[]
def xl0d.mk (b:Int):R:=(⟨.one,[iL b]⟩,nn 2 ([]))
def xl0d.un (r:R):Int:=((leafR r 0).dat (.int .i64))
def xl0d (v0:Zg) (v1:Int):Option (Int):=tOf xl0d.mk (vlim E 12 (xl0d.c v0 v1))
def xl0g.c (v0:List Int) (v1:Int):List Cell:=vc (.d .fro (.sl (.int .i64)) v0)::vc (iL v1)::[]
def xl0g.mk (b:Int):R:=(⟨.one,[iL b]⟩,nn 2 ([]))
def xl0g.un (r:R):Int:=((leafR r 0).dat (.int .i64))
def xl0g (v0:List Int) (v1:Int):Option (Int):=tOf xl0g.mk (vlim E 22 (xl0g.c v0 v1))
def tabT : List (Nat × List (List Cell × Tb)) := [
 (3,[(xl04.c [],.one (Bool) xl04.mk)]),
 (4,[(xl0k.c [] 0,.one (Int) xl0k.mk)]),
 (5,[(xs0a.c [],.one (Zg × Bool) xs0a.mk)]),
 (6,[(xl0l.c [],.one (Ze) xl0l.mk)]),
 (7,[(xi09.c [],.one (Zg × Bool) xi09.mk)]),
 (8,[(xl0i.c [] [],.one (Bool) xl0i.mk)]),
 (9,[(xl0j.c [] [],.one (Bool) xl0j.mk)]),
 (10,[(xl06.c [] 0,.one (Int × Ze) xl06.mk)]),
 (11,[(xl05.c [] 0,.one (Int × Zg) xl05.mk)]),
 (12,[(xl0d.c [] 0,.one (Int) xl0d.mk)]),
 (13,[(xs0e.c [],.one (Bool) xs0e.mk)]),
 (14,[(xs08.c [],.one (Zg) xs08.mk)]),
 (15,[(xl0q.c 0 0 0,.one (Int × Int × Int) xl0q.mk)]),
 (16,[(xi0b.c [],.one (Bool) xi0b.mk)]),
 (17,[(xi0c.c [],.one (Int × Int × Int × Int × Int × Int) xi0c.mk)]),
 (18,[(xi0f.c 0,.one ((List Int)) xi0f.mk)]),
 (19,[(xl0o.c [] [],.one (Bool) xl0o.mk)]),
 (20,[(xl0p.c 0 0 0 0 0 0,.one (Bool) xl0p.mk)]),
 (21,[(xl07.c [] 0,.one (Int × (List Int)) xl07.mk)]),
 (22,[(xl0g.c [] 0,.one (Int) xl0g.mk)]),
 (23,[(xs0v.c 0 0 0,.one (Bool) xs0v.mk)]),
 (24,[(xs0h.c 0 0 0 0 0 0,.one (Bool) xs0h.mk)]),
 (25,[(xs0u.c [] 0,.one ((List Int)) xs0u.mk)]),
 (26,[(xi03.c [],.one (Bool) xi03.mk)]),
 (27,[(xi0m.c 0 0 0,.one (Bool) xi0m.mk)]),
 (28,[(xi0r.c 0 0 0 0 0 0,.one (Bool) xi0r.mk)]),
 (29,[(xs0t.c [] 0,.one (Bool) xs0t.mk)]),
 (30,[(xs00.c [],.one (Bool) xs00.mk)]),
 (31,[(xi02.c 0 0 0,.one (Bool) xi02.mk)]),
 (32,[(xi0s.c 0,.one (Bool) xi0s.mk)]),
 (33,[(xi0n.c 0 0 0,.one (Bool) xi0n.mk)]),
 (34,[(xs01.c [],.one (Int) xs01.mk)])]
def tab:FuncId→List Cell→Tb:=fun g cs => match assoc tabT g with | some l => pickT l cs | none => .no
end
end GoV

/- Equations of the program's functions (printed by wip/tools/emit.py). -/
namespace GoV
open Go Go.Proofs
set_option maxRecDepth 100000
noncomputable section

def xl04.t {γ:Type} (ret:(Bool)→Option γ) (v0:Ze):Option γ :=
 (xl0k (v0) ((1048576:Int))).bind fun (r0:Int) =>
 bif decide (r0<(0:Int)) then
 ret (Bool.true)
 else
 (xl0l (v0)).bind fun (r1:Ze) =>
 (xs0a (r1)).bind fun (r2:Zg × Bool) =>
 (xl0l (v0)).bind fun (r3:Ze) =>
 (xi09 (r3)).bind fun (r4:Zg × Bool) =>
 (xl0i (r4.fst) (r2.fst)).bind fun (r5:Bool) =>
 bif !r5 then
 ret (Bool.false)
 else
 bif !r4.snd == r2.snd then
 ret (Bool.false)
 else
 (xl0l (v0)).bind fun (r6:Ze) =>
 (xl0j (r3) (r6)).bind fun (r7:Bool) =>
 bif !r7 then
 ret (Bool.false)
 else
 (xl06 (r3) ((1:Int))).bind fun (r8:Int × Ze) =>
 bif decide (r8.fst<(0:Int)) then
 ret (Bool.false)
 else
 (xl0i (r4.fst) (r2.fst)).bind fun (r9:Bool) =>
 bif !r9 then
 ret (Bool.false)
 else
 bif !r4.snd == r2.snd then
 ret (Bool.false)
 else
 (xl05 (r4.fst) ((1:Int))).bind fun (r10:Int × Zg) =>
 (xl0d (r10.snd) ((1:Int))).bind fun (r11:Int) =>
 bif decide (r11<(0:Int)) then
 ret (Bool.false)
 else
 bif r11 != r10.fst then
 ret (Bool.false)
 else
 (xl0l (v0)).bind fun (r12:Ze) =>
 (xi09 (r12)).bind fun (r13:Zg × Bool) =>
 (xl0i (r13.fst) (r2.fst)).bind fun (r14:Bool) =>
 bif !r14 then
 ret (Bool.false)
 else
 bif !r13.snd == r2.snd then
 ret (Bool.false)
 else
 (xl0d (r10.snd) ((1:Int))).bind fun (r15:Int) =>
 bif decide (r15<(0:Int)) then
 ret (Bool.false)
 else
 bif r15 != r10.fst then
 ret (Bool.false)
 else
 ret (Bool.true)
theorem xl04.u:∀ b,xl04.un (xl04.mk b)=b:=fun _ => by kernel_rfl
theorem xl04.eq (v0) {b} (h:xl04.t some v0=some b):xl04 v0=some b:=eqF xl04.u Try.f3 (callT_le E tab) rfl rfl rfl (xl04.t (rR xl04.mk) v0) (by kernel_rfl) (by unfold xl04.t; repeat' first | exact sR | exact sN | exact sL | apply sC | (apply sB; intro _)) h
def xl0k.t {γ:Type} (ret:(Int)→Option γ) (v0:Ze) (v1:Int):Option γ :=
 bif decide (IntKind.i64.wrap (v1 - (↑v0.length:Int))<(0:Int)) then
 ret ((-1:Int))
 else
 ret (IntKind.i64.wrap (v1 - (↑v0.length:Int)))
theorem xl0k.u:∀ b,xl0k.un (xl0k.mk b)=b:=fun _ => by kernel_rfl
theorem xl0k.eq (v0 v1) {b} (h:xl0k.t some v0 v1=some b):xl0k v0 v1=some b:=eqF xl0k.u Try.f4 (callT_le E tab) rfl rfl rfl (xl0k.t (rR xl0k.mk) v0 v1) (by kernel_rfl) (by unfold xl0k.t; repeat' first | exact sR | exact sN | exact sL | apply sC | (apply sB; intro _)) h
def xl0l.s3 (v0:Ze) (v1:Ze) (v2:Int):List Cell:=vc (.d .fro Ya v0)::nn 2 (vc (.d .deep Ya v1)::vc (iL v2)::nn 18 ([]))
def xl0l.q3:=fun v0 v1 v2 => loopAtL E (callT E tab) 6 Try.f6 1 [.r,.r,.l,.r,.b] (xl0l.s3 v0 v1 v2)
def xl0l.l3:=fun v0 v1 v2 => tOf xl0l.mk (xl0l.q3 v0 v1 v2)
def xl0l.t {γ:Type} (ret:(Ze)→Option γ) (lp3:Ze→Ze→Int→Option γ) (v0:Ze):Option γ :=
 bif decide ((↑v0.length:Int)=(↑v0.length:Int)) then
 bif decide ((↑v0.length:Int)≤(↑(4294967296:Nat):Int)) then
 lp3 (v0) (List.replicate (↑v0.length:Int).toNat ((0:Int),(0:Int),(0:Int))) ((0:Int))
 else
 none
 else
 none
def xl0l.t3 {γ:Type} (ret:(Ze)→Option γ) (lp3:Ze→Ze→Int→Option γ) (v0:Ze) (v1:Ze) (v2:Int):Option γ :=
 bif decide (v2<(↑v0.length:Int)) then
 bif decide ((0:Int)≤v2) then
 bif decide (v2.toNat<v0.length) then
 (xl0q ((v0.getD v2.toNat ((0:Int),(0:Int),(0:Int))).fst) ((v0.getD v2.toNat ((0:Int),(0:Int),(0:Int))).snd.fst) ((v0.getD v2.toNat ((0:Int),(0:Int),(0:Int))).snd.snd)).bind fun (r0:Int × Int × Int) =>
 bif decide ((0:Int)≤v2) then
 bif decide (v2.toNat<v1.length) then
 bif decide (v2.toNat<v1.length) then
 lp3 (v0) (v1.set v2.toNat (r0.fst,r0.snd.fst,r0.snd.snd)) (IntKind.i64.wrap (v2+(1:Int)))
 else
 none
 else
 none
 else
 none
 else
 none
 else
 none
 else
 ret (v1)
theorem xl0l.u:∀ b,xl0l.un (xl0l.mk b)=b:=fun _ => by kernel_rfl
theorem xl0l.eq (v0) {b} (h:xl0l.t some xl0l.l3 v0=some b):xl0l v0=some b:=eqF xl0l.u Try.f6 (callT_le E tab) rfl rfl rfl (xl0l.t (rR xl0l.mk) xl0l.q3 v0) (by kernel_rfl) (by unfold xl0l.t; repeat' first | exact sR | exact sN | exact sL | apply sC | (apply sB; intro _)) h
theorem xl0l.eq3 (v0 v1 v2) {b} (h:xl0l.t3 some xl0l.l3 v0 v1 v2=some b):xl0l.l3 v0 v1 v2=some b:=eqL xl0l.u (xl0l.t3 (rR xl0l.mk) xl0l.q3 v0 v1 v2) (by kernel_rfl) (by unfold xl0l.t3; repeat' first | exact sR | exact sN | exact sL | apply sC | (apply sB; intro _)) h
def xl0q.t {γ:Type} (ret:(Int × Int × Int)→Option γ) (v0:Int) (v1:Int) (v2:Int):Option γ :=
 ret (v0,v1,v2)
theorem xl0q.u:∀ b,xl0q.un (xl0q.mk b)=b:=fun _ => by kernel_rfl
theorem xl0q.eq (v0 v1 v2) {b} (h:xl0q.t some v0 v1 v2=some b):xl0q v0 v1 v2=some b:=eqF xl0q.u Try.f15 (callT_le E tab) rfl rfl rfl (xl0q.t (rR xl0q.mk) v0 v1 v2) (by kernel_rfl) (by unfold xl0q.t; repeat' first | exact sR | exact sN | exact sL | apply sC | (apply sB; intro _)) h
def xs0a.t {γ:Type} (ret:(Zg × Bool)→Option γ) (v0:Ze):Option γ :=
 (xs0e (v0)).bind fun (r0:Bool) =>
 bif !r0 then
 ret ([],Bool.false)
 else
 (xs08 (v0)).bind fun (r1:Zg) =>
 ret (r1,Bool.true)
theorem xs0a.u:∀ b,xs0a.un (xs0a.mk b)=b:=fun _ => by kernel_rfl
theorem xs0a.eq (v0) {b} (h:xs0a.t some v0=some b):xs0a v0=some b:=eqF xs0a.u Try.f5 (callT_le E tab) rfl rfl rfl (xs0a.t (rR xs0a.mk) v0) (by kernel_rfl) (by unfold xs0a.t; repeat' first | exact sR | exact sN | exact sL | apply sC | (apply sB; intro _)) h
def xs0e.s2 (v0:Ze) (v1:Ze) (v2:Int) (v3:Int):List Cell:=vc (.d .fro Ya v0)::nn 4 (vc (.d .fro Ya v1)::vc (iL v2)::vc (iL v3)::nn 31 ([]))
def xs0e.q2:=fun v0 v1 v2 v3 => loopAtL E (callT E tab) 13 Try.f13 1 [.r,.l,.r,.b] (xs0e.s2 v0 v1 v2 v3)
def xs0e.l2:=fun v0 v1 v2 v3 => tOf xs0e.mk (xs0e.q2 v0 v1 v2 v3)
def xs0e.t {γ:Type} (ret:(Bool)→Option γ) (lp2:Ze→Ze→Int→Int→Option γ) (v0:Ze):Option γ :=
 lp2 (v0) (v0) ((↑v0.length:Int)) ((0:Int))
def xs0e.t2 {γ:Type} (ret:(Bool)→Option γ) (lp2:Ze→Ze→Int→Int→Option γ) (v0:Ze) (v1:Ze) (v2:Int) (v3:Int):Option γ :=
 bif decide (v3<v2) then
 bif decide ((0:Int)≤v3) then
 bif decide (v3.toNat<v1.length) then
 bif decide ((v1.getD v3.toNat ((0:Int),(0:Int),(0:Int))).fst<(0:Int)) then
 ret (Bool.false)
 else
 bif decide ((v1.getD v3.toNat ((0:Int),(0:Int),(0:Int))).fst ≥ (6:Int)) then
 ret (Bool.false)
 else
 bif decide ((v1.getD v3.toNat ((0:Int),(0:Int),(0:Int))).snd.snd<(0:Int)) then
 ret (Bool.false)
 else
 bif decide ((v1.getD v3.toNat ((0:Int),(0:Int),(0:Int))).snd.snd ≥ (4:Int)) then
 ret (Bool.false)
 else
 (xs0v ((v1.getD v3.toNat ((0:Int),(0:Int),(0:Int))).snd.fst) ((1:Int)) ((2:Int))).bind fun (r0:Bool) =>
 bif !r0 then
 ret (Bool.false)
 else
 lp2 (v0) (v1) (v2) (IntKind.i64.wrap (v3+(1:Int)))
 else
 none
 else
 none
 else
 ret (decide ((↑v0.length:Int)≤(40:Int)))
theorem xs0e.u:∀ b,xs0e.un (xs0e.mk b)=b:=fun _ => by kernel_rfl
theorem xs0e.eq (v0) {b} (h:xs0e.t some xs0e.l2 v0=some b):xs0e v0=some b:=eqF xs0e.u Try.f13 (callT_le E tab) rfl rfl rfl (xs0e.t (rR xs0e.mk) xs0e.q2 v0) (by kernel_rfl) (by unfold xs0e.t; repeat' first | exact sR | exact sN | exact sL | apply sC | (apply sB; intro _)) h
theorem xs0e.eq2 (v0 v1 v2 v3) {b} (h:xs0e.t2 some xs0e.l2 v0 v1 v2 v3=some b):xs0e.l2 v0 v1 v2 v3=some b:=eqL xs0e.u (xs0e.t2 (rR xs0e.mk) xs0e.q2 v0 v1 v2 v3) (by kernel_rfl) (by unfold xs0e.t2; repeat' first | exact sR | exact sN | exact sL | apply sC | (apply sB; intro _)) h
def xs0v.t {γ:Type} (ret:(Bool)→Option γ) (v0:Int) (v1:Int) (v2:Int):Option γ :=
 bif decide (v0 ≥ v1) then
 ret (decide (v0≤v2))
 else
 ret (Bool.false)
theorem xs0v.u:∀ b,xs0v.un (xs0v.mk b)=b:=fun _ => by kernel_rfl
theorem xs0v.eq (v0 v1 v2) {b} (h:xs0v.t some v0 v1 v2=some b):xs0v v0 v1 v2=some b:=eqF xs0v.u Try.f23 (callT_le E tab) rfl rfl rfl (xs0v.t (rR xs0v.mk) v0 v1 v2) (by kernel_rfl) (by unfold xs0v.t; repeat' first | exact sR | exact sN | exact sL | apply sC | (apply sB; intro _)) h
def xs08.s6 (v0:Ze) (v1:Zg) (v2:Int) (v3:Int) (v4:Int) (v5:Ze) (v6:Int) (v7:Int) (v8:Ze) (v9:Int) (v10:Int):List Cell:=vc (.d .fro Ya v0)::nn 2 (vc (.d .sha (.sl (.sl (.int .i64))) v1)::nn 1 (⟨(.box false),[iL v2,iL v3,iL v4],false,false,false,0,0⟩::nn 3 (vc (.d .fro Ya v5)::vc (iL v6)::vc (iL v7)::nn 7 (vc (.d .fro Ya v8)::vc (iL v9)::vc (iL v10)::nn 21 ([])))))
def xs08.q6:=fun v0 v1 v2 v3 v4 v5 v6 v7 v8 v9 v10 => loopAtL E (callT E tab) 14 Try.f14 1 [.r,.r,.l,.r,.b,.o,.r,.r,.l,.b,.r,.r,.b] (xs08.s6 v0 v1 v2 v3 v4 v5 v6 v7 v8 v9 v10)
def xs08.l6:=fun v0 v1 v2 v3 v4 v5 v6 v7 v8 v9 v10 => tOf xs08.mk (xs08.q6 v0 v1 v2 v3 v4 v5 v6 v7 v8 v9 v10)
def xs08.s3 (v0:Ze) (v1:Zg) (v2:Ze) (v3:Int) (v4:Int):List Cell:=vc (.d .fro Ya v0)::nn 2 (vc (.d .sha (.sl (.sl (.int .i64))) v1)::nn 5 (vc (.d .fro Ya v2)::vc (iL v3)::vc (iL v4)::nn 31 ([])))
def xs08.q3:=fun v0 v1 v2 v3 v4 => loopAtL E (callT E tab) 14 Try.f14 1 [.r,.r,.l,.r,.b] (xs08.s3 v0 v1 v2 v3 v4)
def xs08.l3:=fun v0 v1 v2 v3 v4 => tOf xs08.mk (xs08.q3 v0 v1 v2 v3 v4)
def xs08.t {γ:Type} (ret:(Zg)→Option γ) (lp3:Ze→Zg→Ze→Int→Int→Option γ) (v0:Ze):Option γ :=
 lp3 (v0) (List.replicate (Int.toNat (6:Int)) []) (v0) ((↑v0.length:Int)) ((0:Int))
def xs08.t6 {γ:Type} (ret:(Zg)→Option γ) (lp6:Ze→Zg→Int→Int→Int→Ze→Int→Int→Ze→Int→Int→Option γ) (lp3:Ze→Zg→Ze→Int→Int→Option γ) (v0:Ze) (v1:Zg) (v2:Int) (v3:Int) (v4:Int) (v5:Ze) (v6:Int) (v7:Int) (v8:Ze) (v9:Int) (v10:Int):Option γ :=
 bif decide (v10<v9) then
 bif decide ((0:Int)≤v10) then
 bif decide (v10.toNat<v8.length) then
 (xs0h (v2) (v3) (v4) ((v8.getD v10.toNat ((0:Int),(0:Int),(0:Int))).fst) ((v8.getD v10.toNat ((0:Int),(0:Int),(0:Int))).snd.fst) ((v8.getD v10.toNat ((0:Int),(0:Int),(0:Int))).snd.snd)).bind fun (r0:Bool) =>
 bif r0 then
 bif decide ((0:Int)≤v2) then
 bif decide (v2.toNat<v1.length) then
 bif decide (v2.toNat<v1.length) then
 (xs0u (v1.getD v2.toNat []) ((v8.getD v10.toNat ((0:Int),(0:Int),(0:Int))).fst)).bind fun (r1:(List Int)) =>
 bif decide ((0:Int)≤v2) then
 bif decide (v2.toNat<v1.length) then
 bif decide (v2.toNat<v1.length) then
 lp6 (v0) (v1.set v2.toNat r1) (v2) (v3) (v4) (v5) (v6) (v7) (v8) (v9) (IntKind.i64.wrap (v10+(1:Int)))
 else
 none
 else
 none
 else
 none
 else
 none
 else
 none
 else
 none
 else
 lp6 (v0) (v1) (v2) (v3) (v4) (v5) (v6) (v7) (v8) (v9) (IntKind.i64.wrap (v10+(1:Int)))
 else
 none
 else
 none
 else
 lp3 (v0) (v1) (v5) (v6) (IntKind.i64.wrap (v7+(1:Int)))
def xs08.t3 {γ:Type} (ret:(Zg)→Option γ) (lp6:Ze→Zg→Int→Int→Int→Ze→Int→Int→Ze→Int→Int→Option γ) (v0:Ze) (v1:Zg) (v2:Ze) (v3:Int) (v4:Int):Option γ :=
 bif decide (v4<v3) then
 bif decide ((0:Int)≤v4) then
 bif decide (v4.toNat<v2.length) then
 bif decide ((0:Int)≤(Option.some (IntKind.i64.wrap (v4+(1:Int)))).getD (0:Int)) then
 bif decide ((Option.some (IntKind.i64.wrap (v4+(1:Int)))).getD (0:Int)≤(↑v0.length:Int)) then
 lp6 (v0) (v1) ((v2.getD v4.toNat ((0:Int),(0:Int),(0:Int))).fst) ((v2.getD v4.toNat ((0:Int),(0:Int),(0:Int))).snd.fst) ((v2.getD v4.toNat ((0:Int),(0:Int),(0:Int))).snd.snd) (v2) (v3) (v4) (List.drop ((Option.some (IntKind.i64.wrap (v4+(1:Int)))).getD (0:Int)).toNat v0) ((↑(List.drop ((Option.some (IntKind.i64.wrap (v4+(1:Int)))).getD (0:Int)).toNat v0).length:Int)) ((0:Int))
 else
 none
 else
 none
 else
 none
 else
 none
 else
 ret (v1)
theorem xs08.u:∀ b,xs08.un (xs08.mk b)=b:=fun _ => by kernel_rfl
theorem xs08.eq (v0) {b} (h:xs08.t some xs08.l3 v0=some b):xs08 v0=some b:=eqF xs08.u Try.f14 (callT_le E tab) rfl rfl rfl (xs08.t (rR xs08.mk) xs08.q3 v0) (by kernel_rfl) (by unfold xs08.t; repeat' first | exact sR | exact sN | exact sL | apply sC | (apply sB; intro _)) h
theorem xs08.eq6 (v0 v1 v2 v3 v4 v5 v6 v7 v8 v9 v10) {b} (h:xs08.t6 some xs08.l6 xs08.l3 v0 v1 v2 v3 v4 v5 v6 v7 v8 v9 v10=some b):xs08.l6 v0 v1 v2 v3 v4 v5 v6 v7 v8 v9 v10=some b:=eqL xs08.u (xs08.t6 (rR xs08.mk) xs08.q6 xs08.q3 v0 v1 v2 v3 v4 v5 v6 v7 v8 v9 v10) (by kernel_rfl) (by unfold xs08.t6; repeat' first | exact sR | exact sN | exact sL | apply sC | (apply sB; intro _)) h
theorem xs08.eq3 (v0 v1 v2 v3 v4) {b} (h:xs08.t3 some xs08.l6 v0 v1 v2 v3 v4=some b):xs08.l3 v0 v1 v2 v3 v4=some b:=eqL xs08.u (xs08.t3 (rR xs08.mk) xs08.q6 v0 v1 v2 v3 v4) (by kernel_rfl) (by unfold xs08.t3; repeat' first | exact sR | exact sN | exact sL | apply sC | (apply sB; intro _)) h
def xs0h.t {γ:Type} (ret:(Bool)→Option γ) (v0:Int) (v1:Int) (v2:Int) (v3:Int) (v4:Int) (v5:Int):Option γ :=
 bif v0 != v3 then
 bif v2 == v5 then
 bif v1 == (2:Int) then
 ret (Bool.true)
 else
 ret (v4 == (2:Int))
 else
 ret (Bool.false)
 else
 ret (Bool.false)
theorem xs0h.u:∀ b,xs0h.un (xs0h.mk b)=b:=fun _ => by kernel_rfl
theorem xs0h.eq (v0 v1 v2 v3 v4 v5) {b} (h:xs0h.t some v0 v1 v2 v3 v4 v5=some b):xs0h v0 v1 v2 v3 v4 v5=some b:=eqF xs0h.u Try.f24 (callT_le E tab) rfl rfl rfl (xs0h.t (rR xs0h.mk) v0 v1 v2 v3 v4 v5) (by kernel_rfl) (by unfold xs0h.t; repeat' first | exact sR | exact sN | exact sL | apply sC | (apply sB; intro _)) h
def xs0u.s4 (v0:List Int) (v1:Int) (v2:Int):List Cell:=vc (.d .fro (.sl (.int .i64)) v0)::vc (iL v1)::nn 3 (vc (iL v2)::nn 33 ([]))
def xs0u.q4:=fun v0 v1 v2 => loopAtL E (callT E tab) 25 Try.f25 2 [.r,.r,.r,.l,.b] (xs0u.s4 v0 v1 v2)
def xs0u.l4:=fun v0 v1 v2 => tOf xs0u.mk (xs0u.q4 v0 v1 v2)
def xs0u.t {γ:Type} (ret:((List Int))→Option γ) (lp4:(List Int)→Int→Int→Option γ) (v0:List Int) (v1:Int):Option γ :=
 (xs0t (v0) (v1)).bind fun (r0:Bool) =>
 bif r0 then
 ret (v0)
 else
 lp4 (v0) (v1) ((0:Int))
def xs0u.t4 {γ:Type} (ret:((List Int))→Option γ) (lp4:(List Int)→Int→Int→Option γ) (v0:List Int) (v1:Int) (v2:Int):Option γ :=
 bif decide (v2<(↑v0.length:Int)) then
 bif decide ((0:Int)≤v2) then
 bif decide (v2.toNat<v0.length) then
 bif decide (v0.getD v2.toNat (0:Int)<v1) then
 lp4 (v0) (v1) (IntKind.i64.wrap (v2+(1:Int)))
 else
 bif decide (Option.none.getD (0:Int)≤v2) then
 bif decide (v2≤(↑v0.length:Int)) then
 bif decide   ((List.take (v2 - Option.none.getD (0:Int)).toNat (List.drop (Option.none.getD (0:Int)).toNat v0)).length≤    (4294967296:Nat)) then
 bif decide   ((List.take (v2 - Option.none.getD (0:Int)).toNat (List.drop (Option.none.getD (0:Int)).toNat v0)).length+      [v1].length≤    (4294967296:Nat)) then
 bif decide ((0:Int)≤(Option.some v2).getD (0:Int)) then
 bif decide ((Option.some v2).getD (0:Int)≤(↑v0.length:Int)) then
 bif decide   ((List.take (v2 - Option.none.getD (0:Int)).toNat (List.drop (Option.none.getD (0:Int)).toNat v0) ++           [v1]).length+      (List.drop ((Option.some v2).getD (0:Int)).toNat v0).length≤    (4294967296:Nat)) then
 ret (List.take (v2 - Option.none.getD (0:Int)).toNat (List.drop (Option.none.getD (0:Int)).toNat v0) ++ [v1] ++   List.drop ((Option.some v2).getD (0:Int)).toNat v0)
 else
 none
 else
 none
 else
 none
 else
 none
 else
 none
 else
 none
 else
 none
 else
 none
 else
 none
 else
 bif decide (Option.none.getD (0:Int)≤v2) then
 bif decide (v2≤(↑v0.length:Int)) then
 bif decide   ((List.take (v2 - Option.none.getD (0:Int)).toNat (List.drop (Option.none.getD (0:Int)).toNat v0)).length≤    (4294967296:Nat)) then
 bif decide   ((List.take (v2 - Option.none.getD (0:Int)).toNat (List.drop (Option.none.getD (0:Int)).toNat v0)).length+      [v1].length≤    (4294967296:Nat)) then
 bif decide ((0:Int)≤(Option.some v2).getD (0:Int)) then
 bif decide ((Option.some v2).getD (0:Int)≤(↑v0.length:Int)) then
 bif decide   ((List.take (v2 - Option.none.getD (0:Int)).toNat (List.drop (Option.none.getD (0:Int)).toNat v0) ++           [v1]).length+      (List.drop ((Option.some v2).getD (0:Int)).toNat v0).length≤    (4294967296:Nat)) then
 ret (List.take (v2 - Option.none.getD (0:Int)).toNat (List.drop (Option.none.getD (0:Int)).toNat v0) ++ [v1] ++   List.drop ((Option.some v2).getD (0:Int)).toNat v0)
 else
 none
 else
 none
 else
 none
 else
 none
 else
 none
 else
 none
 else
 none
theorem xs0u.u:∀ b,xs0u.un (xs0u.mk b)=b:=fun _ => by kernel_rfl
theorem xs0u.eq (v0 v1) {b} (h:xs0u.t some xs0u.l4 v0 v1=some b):xs0u v0 v1=some b:=eqF xs0u.u Try.f25 (callT_le E tab) rfl rfl rfl (xs0u.t (rR xs0u.mk) xs0u.q4 v0 v1) (by kernel_rfl) (by unfold xs0u.t; repeat' first | exact sR | exact sN | exact sL | apply sC | (apply sB; intro _)) h
theorem xs0u.eq4 (v0 v1 v2) {b} (h:xs0u.t4 some xs0u.l4 v0 v1 v2=some b):xs0u.l4 v0 v1 v2=some b:=eqL xs0u.u (xs0u.t4 (rR xs0u.mk) xs0u.q4 v0 v1 v2) (by kernel_rfl) (by unfold xs0u.t4; repeat' first | exact sR | exact sN | exact sL | apply sC | (apply sB; intro _)) h
def xs0t.s2 (v0:Int) (v1:List Int) (v2:Int) (v3:Int):List Cell:=nn 1 (vc (iL v0)::nn 5 (vc (.d .fro (.sl (.int .i64)) v1)::vc (iL v2)::vc (iL v3)::nn 7 ([])))
def xs0t.q2:=fun v0 v1 v2 v3 => loopAtL E (callT E tab) 29 Try.f29 2 [.r,.l,.r,.b] (xs0t.s2 v0 v1 v2 v3)
def xs0t.l2:=fun v0 v1 v2 v3 => tOf xs0t.mk (xs0t.q2 v0 v1 v2 v3)
def xs0t.t {γ:Type} (ret:(Bool)→Option γ) (lp2:Int→(List Int)→Int→Int→Option γ) (v0:List Int) (v1:Int):Option γ :=
 lp2 (v1) (v0) ((↑v0.length:Int)) ((0:Int))
def xs0t.t2 {γ:Type} (ret:(Bool)→Option γ) (lp2:Int→(List Int)→Int→Int→Option γ) (v0:Int) (v1:List Int) (v2:Int) (v3:Int):Option γ :=
 bif decide (v3<v2) then
 bif decide ((0:Int)≤v3) then
 bif decide (v3.toNat<v1.length) then
 bif v1.getD v3.toNat (0:Int) == v0 then
 ret (Bool.true)
 else
 lp2 (v0) (v1) (v2) (IntKind.i64.wrap (v3+(1:Int)))
 else
 none
 else
 none
 else
 ret (Bool.false)
theorem xs0t.u:∀ b,xs0t.un (xs0t.mk b)=b:=fun _ => by kernel_rfl
theorem xs0t.eq (v0 v1) {b} (h:xs0t.t some xs0t.l2 v0 v1=some b):xs0t v0 v1=some b:=eqF xs0t.u Try.f29 (callT_le E tab) rfl rfl rfl (xs0t.t (rR xs0t.mk) xs0t.q2 v0 v1) (by kernel_rfl) (by unfold xs0t.t; repeat' first | exact sR | exact sN | exact sL | apply sC | (apply sB; intro _)) h
theorem xs0t.eq2 (v0 v1 v2 v3) {b} (h:xs0t.t2 some xs0t.l2 v0 v1 v2 v3=some b):xs0t.l2 v0 v1 v2 v3=some b:=eqL xs0t.u (xs0t.t2 (rR xs0t.mk) xs0t.q2 v0 v1 v2 v3) (by kernel_rfl) (by unfold xs0t.t2; repeat' first | exact sR | exact sN | exact sL | apply sC | (apply sB; intro _)) h
def xi09.s5 (v0:Zg) (v1:Int) (v2:Int) (v3:Int) (v4:Int) (v5:Int) (v6:Int) (v7:Int):List Cell:=nn 4 (vc (.d .deep (.sl (.sl (.int .i64))) v0)::nn 6 (ac [iL v1,iL v2,iL v3,iL v4,iL v5,iL v6]::vc (iL v7)::nn 9 ([])))
def xi09.q5:=fun v0 v1 v2 v3 v4 v5 v6 v7 => loopAtL E (callT E tab) 7 Try.f7 1 [.r,.r,.r,.l,.r,.b] (xi09.s5 v0 v1 v2 v3 v4 v5 v6 v7)
def xi09.l5:=fun v0 v1 v2 v3 v4 v5 v6 v7 => tOf xi09.mk (xi09.q5 v0 v1 v2 v3 v4 v5 v6 v7)
def xi09.t {γ:Type} (ret:(Zg × Bool)→Option γ) (lp5:Zg→Int→Int→Int→Int→Int→Int→Int→Option γ) (v0:Ze):Option γ :=
 (xi0b (v0)).bind fun (r0:Bool) =>
 bif !r0 then
 ret ([],Bool.false)
 else
 (xi0c (v0)).bind fun (r1:Int × Int × Int × Int × Int × Int) =>
 lp5 ([]) (r1.fst) (r1.snd.fst) (r1.snd.snd.fst) (r1.snd.snd.snd.fst) (r1.snd.snd.snd.snd.fst) (r1.snd.snd.snd.snd.snd) ((0:Int))
def xi09.t5 {γ:Type} (ret:(Zg × Bool)→Option γ) (lp5:Zg→Int→Int→Int→Int→Int→Int→Int→Option γ) (v0:Zg) (v1:Int) (v2:Int) (v3:Int) (v4:Int) (v5:Int) (v6:Int) (v7:Int):Option γ :=
 bif decide (v7<(6:Int)) then
 bif decide (v7=(↑(0:Nat):Int)) then
 (xi0f (v1)).bind fun (r2:(List Int)) =>
 bif decide (v0.length+[r2].length≤(4294967296:Nat)) then
 lp5 (v0 ++ [r2]) (v1) (v2) (v3) (v4) (v5) (v6) (IntKind.i64.wrap (v7+(1:Int)))
 else
 none
 else
 bif decide (v7=(↑((0:Nat)+(1:Nat)):Int)) then
 (xi0f (v2)).bind fun (r3:(List Int)) =>
 bif decide (v0.length+[r3].length≤(4294967296:Nat)) then
 lp5 (v0 ++ [r3]) (v1) (v2) (v3) (v4) (v5) (v6) (IntKind.i64.wrap (v7+(1:Int)))
 else
 none
 else
 bif decide (v7=(↑((0:Nat)+(1:Nat)+(1:Nat)):Int)) then
 (xi0f (v3)).bind fun (r4:(List Int)) =>
 bif decide (v0.length+[r4].length≤(4294967296:Nat)) then
 lp5 (v0 ++ [r4]) (v1) (v2) (v3) (v4) (v5) (v6) (IntKind.i64.wrap (v7+(1:Int)))
 else
 none
 else
 bif decide (v7=(↑((0:Nat)+(1:Nat)+(1:Nat)+(1:Nat)):Int)) then
 (xi0f (v4)).bind fun (r5:(List Int)) =>
 bif decide (v0.length+[r5].length≤(4294967296:Nat)) then
 lp5 (v0 ++ [r5]) (v1) (v2) (v3) (v4) (v5) (v6) (IntKind.i64.wrap (v7+(1:Int)))
 else
 none
 else
 bif decide (v7=(↑((0:Nat)+(1:Nat)+(1:Nat)+(1:Nat)+(1:Nat)):Int)) then
 (xi0f (v5)).bind fun (r6:(List Int)) =>
 bif decide (v0.length+[r6].length≤(4294967296:Nat)) then
 lp5 (v0 ++ [r6]) (v1) (v2) (v3) (v4) (v5) (v6) (IntKind.i64.wrap (v7+(1:Int)))
 else
 none
 else
 bif decide (v7=(↑((0:Nat)+(1:Nat)+(1:Nat)+(1:Nat)+(1:Nat)+(1:Nat)):Int)) then
 (xi0f (v6)).bind fun (r7:(List Int)) =>
 bif decide (v0.length+[r7].length≤(4294967296:Nat)) then
 lp5 (v0 ++ [r7]) (v1) (v2) (v3) (v4) (v5) (v6) (IntKind.i64.wrap (v7+(1:Int)))
 else
 none
 else
 none
 else
 ret (v0,Bool.true)
theorem xi09.u:∀ b,xi09.un (xi09.mk b)=b:=fun _ => by kernel_rfl
theorem xi09.eq (v0) {b} (h:xi09.t some xi09.l5 v0=some b):xi09 v0=some b:=eqF xi09.u Try.f7 (callT_le E tab) rfl rfl rfl (xi09.t (rR xi09.mk) xi09.q5 v0) (by kernel_rfl) (by unfold xi09.t; repeat' first | exact sR | exact sN | exact sL | apply sC | (apply sB; intro _)) h
theorem xi09.eq5 (v0 v1 v2 v3 v4 v5 v6 v7) {b} (h:xi09.t5 some xi09.l5 v0 v1 v2 v3 v4 v5 v6 v7=some b):xi09.l5 v0 v1 v2 v3 v4 v5 v6 v7=some b:=eqL xi09.u (xi09.t5 (rR xi09.mk) xi09.q5 v0 v1 v2 v3 v4 v5 v6 v7) (by kernel_rfl) (by unfold xi09.t5; repeat' first | exact sR | exact sN | exact sL | apply sC | (apply sB; intro _)) h
def xi0b.t {γ:Type} (ret:(Bool)→Option γ) (v0:Ze):Option γ :=
 bif decide ((↑v0.length:Int)≤(40:Int)) then
 (xi03 (v0)).bind fun (r0:Bool) =>
 ret (r0)
 else
 ret (Bool.false)
theorem xi0b.u:∀ b,xi0b.un (xi0b.mk b)=b:=fun _ => by kernel_rfl
theorem xi0b.eq (v0) {b} (h:xi0b.t some v0=some b):xi0b v0=some b:=eqF xi0b.u Try.f16 (callT_le E tab) rfl rfl rfl (xi0b.t (rR xi0b.mk) v0) (by kernel_rfl) (by unfold xi0b.t; repeat' first | exact sR | exact sN | exact sL | apply sC | (apply sB; intro _)) h
def xi03.t {γ:Type} (ret:(Bool)→Option γ) (v0:Ze):Option γ :=
 (xs00 (v0)).bind fun (r0:Bool) =>
 ret (!r0)
theorem xi03.u:∀ b,xi03.un (xi03.mk b)=b:=fun _ => by kernel_rfl
theorem xi03.eq (v0) {b} (h:xi03.t some v0=some b):xi03 v0=some b:=eqF xi03.u Try.f26 (callT_le E tab) rfl rfl rfl (xi03.t (rR xi03.mk) v0) (by kernel_rfl) (by unfold xi03.t; repeat' first | exact sR | exact sN | exact sL | apply sC | (apply sB; intro _)) h
def xs00.t {γ:Type} (ret:(Bool)→Option γ) (v0:Ze):Option γ :=
 (xs01 (v0)).bind fun (r0:Int) =>
 ret (decide (r0 ≥ (0:Int)))
theorem xs00.u:∀ b,xs00.un (xs00.mk b)=b:=fun _ => by kernel_rfl
theorem xs00.eq (v0) {b} (h:xs00.t some v0=some b):xs00 v0=some b:=eqF xs00.u Try.f30 (callT_le E tab) rfl rfl rfl (xs00.t (rR xs00.mk) v0) (by kernel_rfl) (by unfold xs00.t; repeat' first | exact sR | exact sN | exact sL | apply sC | (apply sB; intro _)) h
def xs01.s2 (v0:Ze) (v1:Int) (v2:Int):List Cell:=vc (.d .fro Ya v0)::vc (.fn 31 [.rp [.fn 27 []] 0])::nn 5 (vc (iL v1)::vc (iL v2)::nn 10 ([]))
def xs01.q2:=fun v0 v1 v2 => loopAtL E (callT E tab) 34 Try.f34 2 [.r,.l,.r,.b] (xs01.s2 v0 v1 v2)
def xs01.l2:=fun v0 v1 v2 => tOf xs01.mk (xs01.q2 v0 v1 v2)
def xs01.t {γ:Type} (ret:(Int)→Option γ) (lp2:Ze→Int→Int→Option γ) (v0:Ze):Option γ :=
 lp2 (v0) ((↑v0.length:Int)) ((0:Int))
def xs01.t2 {γ:Type} (ret:(Int)→Option γ) (lp2:Ze→Int→Int→Option γ) (v0:Ze) (v1:Int) (v2:Int):Option γ :=
 bif decide (v2<v1) then
 bif decide ((0:Int)≤v2) then
 bif decide (v2.toNat<v0.length) then
 (xi02 ((v0.getD v2.toNat ((0:Int),(0:Int),(0:Int))).fst) ((v0.getD v2.toNat ((0:Int),(0:Int),(0:Int))).snd.fst) ((v0.getD v2.toNat ((0:Int),(0:Int),(0:Int))).snd.snd)).bind fun (r0:Bool) =>
 bif r0 then
 ret (v2)
 else
 lp2 (v0) (v1) (IntKind.i64.wrap (v2+(1:Int)))
 else
 none
 else
 none
 else
 ret ((-1:Int))
theorem xs01.u:∀ b,xs01.un (xs01.mk b)=b:=fun _ => by kernel_rfl
theorem xs01.eq (v0) {b} (h:xs01.t some xs01.l2 v0=some b):xs01 v0=some b:=eqF xs01.u Try.f34 (callT_le E tab) rfl rfl rfl (xs01.t (rR xs01.mk) xs01.q2 v0) (by kernel_rfl) (by unfold xs01.t; repeat' first | exact sR | exact sN | exact sL | apply sC | (apply sB; intro _)) h
theorem xs01.eq2 (v0 v1 v2) {b} (h:xs01.t2 some xs01.l2 v0 v1 v2=some b):xs01.l2 v0 v1 v2=some b:=eqL xs01.u (xs01.t2 (rR xs01.mk) xs01.q2 v0 v1 v2) (by kernel_rfl) (by unfold xs01.t2; repeat' first | exact sR | exact sN | exact sL | apply sC | (apply sB; intro _)) h
def xi02.t {γ:Type} (ret:(Bool)→Option γ) (v0:Int) (v1:Int) (v2:Int):Option γ :=
 (xi0m (v0) (v1) (v2)).bind fun (r0:Bool) =>
 ret (!r0)
theorem xi02.u:∀ b,xi02.un (xi02.mk b)=b:=fun _ => by kernel_rfl
theorem xi02.eq (v0 v1 v2) {b} (h:xi02.t some v0 v1 v2=some b):xi02 v0 v1 v2=some b:=eqF xi02.u Try.f31 (callT_le E tab) rfl rfl rfl (xi02.t (rR xi02.mk) v0 v1 v2) (by kernel_rfl) (by unfold xi02.t; repeat' first | exact sR | exact sN | exact sL | apply sC | (apply sB; intro _)) h
def xi0m.t {γ:Type} (ret:(Bool)→Option γ) (v0:Int) (v1:Int) (v2:Int):Option γ :=
 (xi0s (v0)).bind fun (r0:Bool) =>
 bif r0 then
 (xi0n (v1) ((1:Int)) ((2:Int))).bind fun (r1:Bool) =>
 bif r1 then
 (xi0n (v2) ((0:Int)) ((3:Int))).bind fun (r2:Bool) =>
 ret (r2)
 else
 ret (Bool.false)
 else
 ret (Bool.false)
theorem xi0m.u:∀ b,xi0m.un (xi0m.mk b)=b:=fun _ => by kernel_rfl
theorem xi0m.eq (v0 v1 v2) {b} (h:xi0m.t some v0 v1 v2=some b):xi0m v0 v1 v2=some b:=eqF xi0m.u Try.f27 (callT_le E tab) rfl rfl rfl (xi0m.t (rR xi0m.mk) v0 v1 v2) (by kernel_rfl) (by unfold xi0m.t; repeat' first | exact sR | exact sN | exact sL | apply sC | (apply sB; intro _)) h
def xi0s.t {γ:Type} (ret:(Bool)→Option γ) (v0:Int):Option γ :=
 (xi0n (v0) ((0:Int)) ((5:Int))).bind fun (r0:Bool) =>
 ret (r0)
theorem xi0s.u:∀ b,xi0s.un (xi0s.mk b)=b:=fun _ => by kernel_rfl
theorem xi0s.eq (v0) {b} (h:xi0s.t some v0=some b):xi0s v0=some b:=eqF xi0s.u Try.f32 (callT_le E tab) rfl rfl rfl (xi0s.t (rR xi0s.mk) v0) (by kernel_rfl) (by unfold xi0s.t; repeat' first | exact sR | exact sN | exact sL | apply sC | (apply sB; intro _)) h
def xi0n.t {γ:Type} (ret:(Bool)→Option γ) (v0:Int) (v1:Int) (v2:Int):Option γ :=
 bif decide (v1≤v0) then
 ret (decide (v0≤v2))
 else
 ret (Bool.false)
theorem xi0n.u:∀ b,xi0n.un (xi0n.mk b)=b:=fun _ => by kernel_rfl
theorem xi0n.eq (v0 v1 v2) {b} (h:xi0n.t some v0 v1 v2=some b):xi0n v0 v1 v2=some b:=eqF xi0n.u Try.f33 (callT_le E tab) rfl rfl rfl (xi0n.t (rR xi0n.mk) v0 v1 v2) (by kernel_rfl) (by unfold xi0n.t; repeat' first | exact sR | exact sN | exact sL | apply sC | (apply sB; intro _)) h
end
end GoV

/- Equations of the program's functions (printed by wip/tools/emit.py). -/
namespace GoV
open Go Go.Proofs
set_option maxRecDepth 100000
noncomputable section

def xi0c.s6 (v0:Ze) (v1:Int) (v2:Int) (v3:Int) (v4:Int) (v5:Int) (v6:Int) (v7:Int) (v8:Int) (v9:Int) (v10:Int) (v11:Int) (v12:Int) (v13:Int) (v14:Int) (v15:Int) (v16:Ze) (v17:Int) (v18:Int) (v19:Ze) (v20:Int) (v21:Int):List Cell:=vc (.d .fro Ya v0)::nn 1 (⟨(.box false),[iL v1,iL v2,iL v3,iL v4,iL v5,iL v6],false,false,false,0,0⟩::⟨(.box false),[iL v7,iL v8,iL v9,iL v10,iL v11,iL v12],false,false,false,0,0⟩::nn 1 (⟨(.box false),[iL v13,iL v14,iL v15],false,false,false,0,0⟩::nn 2 (vc (.d .fro Ya v16)::vc (iL v17)::vc (iL v18)::nn 7 (vc (.d .fro Ya v19)::vc (iL v20)::vc (iL v21)::nn 18 ([])))))
def xi0c.q6:=fun v0 v1 v2 v3 v4 v5 v6 v7 v8 v9 v10 v11 v12 v13 v14 v15 v16 v17 v18 v19 v20 v21 => loopAtL E (callT E tab) 17 Try.f17 1 [.r,.r,.l,.r,.b,.o,.r,.r,.l,.b,.r,.r,.b] (xi0c.s6 v0 v1 v2 v3 v4 v5 v6 v7 v8 v9 v10 v11 v12 v13 v14 v15 v16 v17 v18 v19 v20 v21)
def xi0c.l6:=fun v0 v1 v2 v3 v4 v5 v6 v7 v8 v9 v10 v11 v12 v13 v14 v15 v16 v17 v18 v19 v20 v21 => tOf xi0c.mk (xi0c.q6 v0 v1 v2 v3 v4 v5 v6 v7 v8 v9 v10 v11 v12 v13 v14 v15 v16 v17 v18 v19 v20 v21)
def xi0c.s3 (v0:Ze) (v1:Int) (v2:Int) (v3:Int) (v4:Int) (v5:Int) (v6:Int) (v7:Int) (v8:Int) (v9:Int) (v10:Int) (v11:Int) (v12:Int) (v13:Ze) (v14:Int) (v15:Int):List Cell:=vc (.d .fro Ya v0)::nn 1 (⟨(.box false),[iL v1,iL v2,iL v3,iL v4,iL v5,iL v6],false,false,false,0,0⟩::⟨(.box false),[iL v7,iL v8,iL v9,iL v10,iL v11,iL v12],false,false,false,0,0⟩::nn 4 (vc (.d .fro Ya v13)::vc (iL v14)::vc (iL v15)::nn 28 ([])))
def xi0c.q3:=fun v0 v1 v2 v3 v4 v5 v6 v7 v8 v9 v10 v11 v12 v13 v14 v15 => loopAtL E (callT E tab) 17 Try.f17 1 [.r,.r,.l,.r,.b] (xi0c.s3 v0 v1 v2 v3 v4 v5 v6 v7 v8 v9 v10 v11 v12 v13 v14 v15)
def xi0c.l3:=fun v0 v1 v2 v3 v4 v5 v6 v7 v8 v9 v10 v11 v12 v13 v14 v15 => tOf xi0c.mk (xi0c.q3 v0 v1 v2 v3 v4 v5 v6 v7 v8 v9 v10 v11 v12 v13 v14 v15)
def xi0c.t {γ:Type} (ret:(Int × Int × Int × Int × Int × Int)→Option γ) (lp3:Ze→Int→Int→Int→Int→Int→Int→Int→Int→Int→Int→Int→Int→Ze→Int→Int→Option γ) (v0:Ze):Option γ :=
 lp3 (v0) ((0:Int)) ((0:Int)) ((0:Int)) ((0:Int)) ((0:Int)) ((0:Int)) ((0:Int)) ((0:Int)) ((0:Int)) ((0:Int)) ((0:Int)) ((0:Int)) (v0) ((↑v0.length:Int)) ((0:Int))
def xi0c.t6 {γ:Type} (ret:(Int × Int × Int × Int × Int × Int)→Option γ) (lp6:Ze→Int→Int→Int→Int→Int→Int→Int→Int→Int→Int→Int→Int→Int→Int→Int→Ze→Int→Int→Ze→Int→Int→Option γ) (lp3:Ze→Int→Int→Int→Int→Int→Int→Int→Int→Int→Int→Int→Int→Ze→Int→Int→Option γ) (v0:Ze) (v1:Int) (v2:Int) (v3:Int) (v4:Int) (v5:Int) (v6:Int) (v7:Int) (v8:Int) (v9:Int) (v10:Int) (v11:Int) (v12:Int) (v13:Int) (v14:Int) (v15:Int) (v16:Ze) (v17:Int) (v18:Int) (v19:Ze) (v20:Int) (v21:Int):Option γ :=
 bif decide (v21<v20) then
 bif decide ((0:Int)≤v21) then
 bif decide (v21.toNat<v19.length) then
 (xi0r (v13) (v14) (v15) ((v19.getD v21.toNat ((0:Int),(0:Int),(0:Int))).fst) ((v19.getD v21.toNat ((0:Int),(0:Int),(0:Int))).snd.fst) ((v19.getD v21.toNat ((0:Int),(0:Int),(0:Int))).snd.snd)).bind fun (r0:Bool) =>
 bif r0 then
 bif decide (v13=(↑(0:Nat):Int)) then
 bif decide ((0:Int)≤(v19.getD v21.toNat ((0:Int),(0:Int),(0:Int))).fst) then
 bif decide (v13=(↑(0:Nat):Int)) then
 lp6 (v0) (v1) (v2) (v3) (v4) (v5) (v6) (IntKind.i64.wrap   (↑(BitVec.ofInt IntKind.i64.bits v7 |||           BitVec.ofInt IntKind.i64.bits             (IntKind.i64.wrap               ((1:Int) *                 (2:Int) ^                   Min.min (v19.getD v21.toNat ((0:Int),(0:Int),(0:Int))).fst.toNat                     IntKind.i64.bits))).toNat:    Int)) (v8) (v9) (v10) (v11) (v12) (v13) (v14) (v15) (v16) (v17) (v18) (v19) (v20) (IntKind.i64.wrap (v21+(1:Int)))
 else
 bif decide (v13=(↑((0:Nat)+(1:Nat)):Int)) then
 lp6 (v0) (v1) (v2) (v3) (v4) (v5) (v6) (v7) (IntKind.i64.wrap   (↑(BitVec.ofInt IntKind.i64.bits v7 |||           BitVec.ofInt IntKind.i64.bits             (IntKind.i64.wrap               ((1:Int) *                 (2:Int) ^                   Min.min (v19.getD v21.toNat ((0:Int),(0:Int),(0:Int))).fst.toNat                     IntKind.i64.bits))).toNat:    Int)) (v9) (v10) (v11) (v12) (v13) (v14) (v15) (v16) (v17) (v18) (v19) (v20) (IntKind.i64.wrap (v21+(1:Int)))
 else
 bif decide (v13=(↑((0:Nat)+(1:Nat)+(1:Nat)):Int)) then
 lp6 (v0) (v1) (v2) (v3) (v4) (v5) (v6) (v7) (v8) (IntKind.i64.wrap   (↑(BitVec.ofInt IntKind.i64.bits v7 |||           BitVec.ofInt IntKind.i64.bits             (IntKind.i64.wrap               ((1:Int) *                 (2:Int) ^                   Min.min (v19.getD v21.toNat ((0:Int),(0:Int),(0:Int))).fst.toNat                     IntKind.i64.bits))).toNat:    Int)) (v10) (v11) (v12) (v13) (v14) (v15) (v16) (v17) (v18) (v19) (v20) (IntKind.i64.wrap (v21+(1:Int)))
 else
 bif decide (v13=(↑((0:Nat)+(1:Nat)+(1:Nat)+(1:Nat)):Int)) then
 lp6 (v0) (v1) (v2) (v3) (v4) (v5) (v6) (v7) (v8) (v9) (IntKind.i64.wrap   (↑(BitVec.ofInt IntKind.i64.bits v7 |||           BitVec.ofInt IntKind.i64.bits             (IntKind.i64.wrap               ((1:Int) *                 (2:Int) ^                   Min.min (v19.getD v21.toNat ((0:Int),(0:Int),(0:Int))).fst.toNat                     IntKind.i64.bits))).toNat:    Int)) (v11) (v12) (v13) (v14) (v15) (v16) (v17) (v18) (v19) (v20) (IntKind.i64.wrap (v21+(1:Int)))
 else
 bif decide (v13=(↑((0:Nat)+(1:Nat)+(1:Nat)+(1:Nat)+(1:Nat)):Int)) then
 lp6 (v0) (v1) (v2) (v3) (v4) (v5) (v6) (v7) (v8) (v9) (v10) (IntKind.i64.wrap   (↑(BitVec.ofInt IntKind.i64.bits v7 |||           BitVec.ofInt IntKind.i64.bits             (IntKind.i64.wrap               ((1:Int) *                 (2:Int) ^                   Min.min (v19.getD v21.toNat ((0:Int),(0:Int),(0:Int))).fst.toNat                     IntKind.i64.bits))).toNat:    Int)) (v12) (v13) (v14) (v15) (v16) (v17) (v18) (v19) (v20) (IntKind.i64.wrap (v21+(1:Int)))
 else
 bif decide (v13=(↑((0:Nat)+(1:Nat)+(1:Nat)+(1:Nat)+(1:Nat)+(1:Nat)):Int)) then
 lp6 (v0) (v1) (v2) (v3) (v4) (v5) (v6) (v7) (v8) (v9) (v10) (v11) (IntKind.i64.wrap   (↑(BitVec.ofInt IntKind.i64.bits v7 |||           BitVec.ofInt IntKind.i64.bits             (IntKind.i64.wrap               ((1:Int) *                 (2:Int) ^                   Min.min (v19.getD v21.toNat ((0:Int),(0:Int),(0:Int))).fst.toNat                     IntKind.i64.bits))).toNat:    Int)) (v13) (v14) (v15) (v16) (v17) (v18) (v19) (v20) (IntKind.i64.wrap (v21+(1:Int)))
 else
 none
 else
 none
 else
 bif decide (v13=(↑((0:Nat)+(1:Nat)):Int)) then
 bif decide ((0:Int)≤(v19.getD v21.toNat ((0:Int),(0:Int),(0:Int))).fst) then
 bif decide (v13=(↑(0:Nat):Int)) then
 lp6 (v0) (v1) (v2) (v3) (v4) (v5) (v6) (IntKind.i64.wrap   (↑(BitVec.ofInt IntKind.i64.bits v8 |||           BitVec.ofInt IntKind.i64.bits             (IntKind.i64.wrap               ((1:Int) *                 (2:Int) ^                   Min.min (v19.getD v21.toNat ((0:Int),(0:Int),(0:Int))).fst.toNat                     IntKind.i64.bits))).toNat:    Int)) (v8) (v9) (v10) (v11) (v12) (v13) (v14) (v15) (v16) (v17) (v18) (v19) (v20) (IntKind.i64.wrap (v21+(1:Int)))
 else
 bif decide (v13=(↑((0:Nat)+(1:Nat)):Int)) then
 lp6 (v0) (v1) (v2) (v3) (v4) (v5) (v6) (v7) (IntKind.i64.wrap   (↑(BitVec.ofInt IntKind.i64.bits v8 |||           BitVec.ofInt IntKind.i64.bits             (IntKind.i64.wrap               ((1:Int) *                 (2:Int) ^                   Min.min (v19.getD v21.toNat ((0:Int),(0:Int),(0:Int))).fst.toNat                     IntKind.i64.bits))).toNat:    Int)) (v9) (v10) (v11) (v12) (v13) (v14) (v15) (v16) (v17) (v18) (v19) (v20) (IntKind.i64.wrap (v21+(1:Int)))
 else
 bif decide (v13=(↑((0:Nat)+(1:Nat)+(1:Nat)):Int)) then
 lp6 (v0) (v1) (v2) (v3) (v4) (v5) (v6) (v7) (v8) (IntKind.i64.wrap   (↑(BitVec.ofInt IntKind.i64.bits v8 |||           BitVec.ofInt IntKind.i64.bits             (IntKind.i64.wrap               ((1:Int) *                 (2:Int) ^                   Min.min (v19.getD v21.toNat ((0:Int),(0:Int),(0:Int))).fst.toNat                     IntKind.i64.bits))).toNat:    Int)) (v10) (v11) (v12) (v13) (v14) (v15) (v16) (v17) (v18) (v19) (v20) (IntKind.i64.wrap (v21+(1:Int)))
 else
 bif decide (v13=(↑((0:Nat)+(1:Nat)+(1:Nat)+(1:Nat)):Int)) then
 lp6 (v0) (v1) (v2) (v3) (v4) (v5) (v6) (v7) (v8) (v9) (IntKind.i64.wrap   (↑(BitVec.ofInt IntKind.i64.bits v8 |||           BitVec.ofInt IntKind.i64.bits             (IntKind.i64.wrap               ((1:Int) *                 (2:Int) ^                   Min.min (v19.getD v21.toNat ((0:Int),(0:Int),(0:Int))).fst.toNat                     IntKind.i64.bits))).toNat:    Int)) (v11) (v12) (v13) (v14) (v15) (v16) (v17) (v18) (v19) (v20) (IntKind.i64.wrap (v21+(1:Int)))
 else
 bif decide (v13=(↑((0:Nat)+(1:Nat)+(1:Nat)+(1:Nat)+(1:Nat)):Int)) then
 lp6 (v0) (v1) (v2) (v3) (v4) (v5) (v6) (v7) (v8) (v9) (v10) (IntKind.i64.wrap   (↑(BitVec.ofInt IntKind.i64.bits v8 |||           BitVec.ofInt IntKind.i64.bits             (IntKind.i64.wrap               ((1:Int) *                 (2:Int) ^                   Min.min (v19.getD v21.toNat ((0:Int),(0:Int),(0:Int))).fst.toNat                     IntKind.i64.bits))).toNat:    Int)) (v12) (v13) (v14) (v15) (v16) (v17) (v18) (v19) (v20) (IntKind.i64.wrap (v21+(1:Int)))
 else
 bif decide (v13=(↑((0:Nat)+(1:Nat)+(1:Nat)+(1:Nat)+(1:Nat)+(1:Nat)):Int)) then
 lp6 (v0) (v1) (v2) (v3) (v4) (v5) (v6) (v7) (v8) (v9) (v10) (v11) (IntKind.i64.wrap   (↑(BitVec.ofInt IntKind.i64.bits v8 |||           BitVec.ofInt IntKind.i64.bits             (IntKind.i64.wrap               ((1:Int) *                 (2:Int) ^                   Min.min (v19.getD v21.toNat ((0:Int),(0:Int),(0:Int))).fst.toNat                     IntKind.i64.bits))).toNat:    Int)) (v13) (v14) (v15) (v16) (v17) (v18) (v19) (v20) (IntKind.i64.wrap (v21+(1:Int)))
 else
 none
 else
 none
 else
 bif decide (v13=(↑((0:Nat)+(1:Nat)+(1:Nat)):Int)) then
 bif decide ((0:Int)≤(v19.getD v21.toNat ((0:Int),(0:Int),(0:Int))).fst) then
 bif decide (v13=(↑(0:Nat):Int)) then
 lp6 (v0) (v1) (v2) (v3) (v4) (v5) (v6) (IntKind.i64.wrap   (↑(BitVec.ofInt IntKind.i64.bits v9 |||           BitVec.ofInt IntKind.i64.bits             (IntKind.i64.wrap               ((1:Int) *                 (2:Int) ^                   Min.min (v19.getD v21.toNat ((0:Int),(0:Int),(0:Int))).fst.toNat                     IntKind.i64.bits))).toNat:    Int)) (v8) (v9) (v10) (v11) (v12) (v13) (v14) (v15) (v16) (v17) (v18) (v19) (v20) (IntKind.i64.wrap (v21+(1:Int)))
 else
 bif decide (v13=(↑((0:Nat)+(1:Nat)):Int)) then
 lp6 (v0) (v1) (v2) (v3) (v4) (v5) (v6) (v7) (IntKind.i64.wrap   (↑(BitVec.ofInt IntKind.i64.bits v9 |||           BitVec.ofInt IntKind.i64.bits             (IntKind.i64.wrap               ((1:Int) *                 (2:Int) ^                   Min.min (v19.getD v21.toNat ((0:Int),(0:Int),(0:Int))).fst.toNat                     IntKind.i64.bits))).toNat:    Int)) (v9) (v10) (v11) (v12) (v13) (v14) (v15) (v16) (v17) (v18) (v19) (v20) (IntKind.i64.wrap (v21+(1:Int)))
 else
 bif decide (v13=(↑((0:Nat)+(1:Nat)+(1:Nat)):Int)) then
 lp6 (v0) (v1) (v2) (v3) (v4) (v5) (v6) (v7) (v8) (IntKind.i64.wrap   (↑(BitVec.ofInt IntKind.i64.bits v9 |||           BitVec.ofInt IntKind.i64.bits             (IntKind.i64.wrap               ((1:Int) *                 (2:Int) ^                   Min.min (v19.getD v21.toNat ((0:Int),(0:Int),(0:Int))).fst.toNat                     IntKind.i64.bits))).toNat:    Int)) (v10) (v11) (v12) (v13) (v14) (v15) (v16) (v17) (v18) (v19) (v20) (IntKind.i64.wrap (v21+(1:Int)))
 else
 bif decide (v13=(↑((0:Nat)+(1:Nat)+(1:Nat)+(1:Nat)):Int)) then
 lp6 (v0) (v1) (v2) (v3) (v4) (v5) (v6) (v7) (v8) (v9) (IntKind.i64.wrap   (↑(BitVec.ofInt IntKind.i64.bits v9 |||           BitVec.ofInt IntKind.i64.bits             (IntKind.i64.wrap               ((1:Int) *                 (2:Int) ^                   Min.min (v19.getD v21.toNat ((0:Int),(0:Int),(0:Int))).fst.toNat                     IntKind.i64.bits))).toNat:    Int)) (v11) (v12) (v13) (v14) (v15) (v16) (v17) (v18) (v19) (v20) (IntKind.i64.wrap (v21+(1:Int)))
 else
 bif decide (v13=(↑((0:Nat)+(1:Nat)+(1:Nat)+(1:Nat)+(1:Nat)):Int)) then
 lp6 (v0) (v1) (v2) (v3) (v4) (v5) (v6) (v7) (v8) (v9) (v10) (IntKind.i64.wrap   (↑(BitVec.ofInt IntKind.i64.bits v9 |||           BitVec.ofInt IntKind.i64.bits             (IntKind.i64.wrap               ((1:Int) *                 (2:Int) ^                   Min.min (v19.getD v21.toNat ((0:Int),(0:Int),(0:Int))).fst.toNat                     IntKind.i64.bits))).toNat:    Int)) (v12) (v13) (v14) (v15) (v16) (v17) (v18) (v19) (v20) (IntKind.i64.wrap (v21+(1:Int)))
 else
 bif decide (v13=(↑((0:Nat)+(1:Nat)+(1:Nat)+(1:Nat)+(1:Nat)+(1:Nat)):Int)) then
 lp6 (v0) (v1) (v2) (v3) (v4) (v5) (v6) (v7) (v8) (v9) (v10) (v11) (IntKind.i64.wrap   (↑(BitVec.ofInt IntKind.i64.bits v9 |||           BitVec.ofInt IntKind.i64.bits             (IntKind.i64.wrap               ((1:Int) *                 (2:Int) ^                   Min.min (v19.getD v21.toNat ((0:Int),(0:Int),(0:Int))).fst.toNat                     IntKind.i64.bits))).toNat:    Int)) (v13) (v14) (v15) (v16) (v17) (v18) (v19) (v20) (IntKind.i64.wrap (v21+(1:Int)))
 else
 none
 else
 none
 else
 bif decide (v13=(↑((0:Nat)+(1:Nat)+(1:Nat)+(1:Nat)):Int)) then
 bif decide ((0:Int)≤(v19.getD v21.toNat ((0:Int),(0:Int),(0:Int))).fst) then
 bif decide (v13=(↑(0:Nat):Int)) then
 lp6 (v0) (v1) (v2) (v3) (v4) (v5) (v6) (IntKind.i64.wrap   (↑(BitVec.ofInt IntKind.i64.bits v10 |||           BitVec.ofInt IntKind.i64.bits             (IntKind.i64.wrap               ((1:Int) *                 (2:Int) ^                   Min.min (v19.getD v21.toNat ((0:Int),(0:Int),(0:Int))).fst.toNat                     IntKind.i64.bits))).toNat:    Int)) (v8) (v9) (v10) (v11) (v12) (v13) (v14) (v15) (v16) (v17) (v18) (v19) (v20) (IntKind.i64.wrap (v21+(1:Int)))
 else
 bif decide (v13=(↑((0:Nat)+(1:Nat)):Int)) then
 lp6 (v0) (v1) (v2) (v3) (v4) (v5) (v6) (v7) (IntKind.i64.wrap   (↑(BitVec.ofInt IntKind.i64.bits v10 |||           BitVec.ofInt IntKind.i64.bits             (IntKind.i64.wrap               ((1:Int) *                 (2:Int) ^                   Min.min (v19.getD v21.toNat ((0:Int),(0:Int),(0:Int))).fst.toNat                     IntKind.i64.bits))).toNat:    Int)) (v9) (v10) (v11) (v12) (v13) (v14) (v15) (v16) (v17) (v18) (v19) (v20) (IntKind.i64.wrap (v21+(1:Int)))
 else
 bif decide (v13=(↑((0:Nat)+(1:Nat)+(1:Nat)):Int)) then
 lp6 (v0) (v1) (v2) (v3) (v4) (v5) (v6) (v7) (v8) (IntKind.i64.wrap   (↑(BitVec.ofInt IntKind.i64.bits v10 |||           BitVec.ofInt IntKind.i64.bits             (IntKind.i64.wrap               ((1:Int) *                 (2:Int) ^                   Min.min (v19.getD v21.toNat ((0:Int),(0:Int),(0:Int))).fst.toNat                     IntKind.i64.bits))).toNat:    Int)) (v10) (v11) (v12) (v13) (v14) (v15) (v16) (v17) (v18) (v19) (v20) (IntKind.i64.wrap (v21+(1:Int)))
 else
 bif decide (v13=(↑((0:Nat)+(1:Nat)+(1:Nat)+(1:Nat)):Int)) then
 lp6 (v0) (v1) (v2) (v3) (v4) (v5) (v6) (v7) (v8) (v9) (IntKind.i64.wrap   (↑(BitVec.ofInt IntKind.i64.bits v10 |||           BitVec.ofInt IntKind.i64.bits             (IntKind.i64.wrap               ((1:Int) *                 (2:Int) ^                   Min.min (v19.getD v21.toNat ((0:Int),(0:Int),(0:Int))).fst.toNat                     IntKind.i64.bits))).toNat:    Int)) (v11) (v12) (v13) (v14) (v15) (v16) (v17) (v18) (v19) (v20) (IntKind.i64.wrap (v21+(1:Int)))
 else
 bif decide (v13=(↑((0:Nat)+(1:Nat)+(1:Nat)+(1:Nat)+(1:Nat)):Int)) then
 lp6 (v0) (v1) (v2) (v3) (v4) (v5) (v6) (v7) (v8) (v9) (v10) (IntKind.i64.wrap   (↑(BitVec.ofInt IntKind.i64.bits v10 |||           BitVec.ofInt IntKind.i64.bits             (IntKind.i64.wrap               ((1:Int) *                 (2:Int) ^                   Min.min (v19.getD v21.toNat ((0:Int),(0:Int),(0:Int))).fst.toNat                     IntKind.i64.bits))).toNat:    Int)) (v12) (v13) (v14) (v15) (v16) (v17) (v18) (v19) (v20) (IntKind.i64.wrap (v21+(1:Int)))
 else
 bif decide (v13=(↑((0:Nat)+(1:Nat)+(1:Nat)+(1:Nat)+(1:Nat)+(1:Nat)):Int)) then
 lp6 (v0) (v1) (v2) (v3) (v4) (v5) (v6) (v7) (v8) (v9) (v10) (v11) (IntKind.i64.wrap   (↑(BitVec.ofInt IntKind.i64.bits v10 |||           BitVec.ofInt IntKind.i64.bits             (IntKind.i64.wrap               ((1:Int) *                 (2:Int) ^                   Min.min (v19.getD v21.toNat ((0:Int),(0:Int),(0:Int))).fst.toNat                     IntKind.i64.bits))).toNat:    Int)) (v13) (v14) (v15) (v16) (v17) (v18) (v19) (v20) (IntKind.i64.wrap (v21+(1:Int)))
 else
 none
 else
 none
 else
 bif decide (v13=(↑((0:Nat)+(1:Nat)+(1:Nat)+(1:Nat)+(1:Nat)):Int)) then
 bif decide ((0:Int)≤(v19.getD v21.toNat ((0:Int),(0:Int),(0:Int))).fst) then
 bif decide (v13=(↑(0:Nat):Int)) then
 lp6 (v0) (v1) (v2) (v3) (v4) (v5) (v6) (IntKind.i64.wrap   (↑(BitVec.ofInt IntKind.i64.bits v11 |||           BitVec.ofInt IntKind.i64.bits             (IntKind.i64.wrap               ((1:Int) *                 (2:Int) ^                   Min.min (v19.getD v21.toNat ((0:Int),(0:Int),(0:Int))).fst.toNat                     IntKind.i64.bits))).toNat:    Int)) (v8) (v9) (v10) (v11) (v12) (v13) (v14) (v15) (v16) (v17) (v18) (v19) (v20) (IntKind.i64.wrap (v21+(1:Int)))
 else
 bif decide (v13=(↑((0:Nat)+(1:Nat)):Int)) then
 lp6 (v0) (v1) (v2) (v3) (v4) (v5) (v6) (v7) (IntKind.i64.wrap   (↑(BitVec.ofInt IntKind.i64.bits v11 |||           BitVec.ofInt IntKind.i64.bits             (IntKind.i64.wrap               ((1:Int) *                 (2:Int) ^                   Min.min (v19.getD v21.toNat ((0:Int),(0:Int),(0:Int))).fst.toNat                     IntKind.i64.bits))).toNat:    Int)) (v9) (v10) (v11) (v12) (v13) (v14) (v15) (v16) (v17) (v18) (v19) (v20) (IntKind.i64.wrap (v21+(1:Int)))
 else
 bif decide (v13=(↑((0:Nat)+(1:Nat)+(1:Nat)):Int)) then
 lp6 (v0) (v1) (v2) (v3) (v4) (v5) (v6) (v7) (v8) (IntKind.i64.wrap   (↑(BitVec.ofInt IntKind.i64.bits v11 |||           BitVec.ofInt IntKind.i64.bits             (IntKind.i64.wrap               ((1:Int) *                 (2:Int) ^                   Min.min (v19.getD v21.toNat ((0:Int),(0:Int),(0:Int))).fst.toNat                     IntKind.i64.bits))).toNat:    Int)) (v10) (v11) (v12) (v13) (v14) (v15) (v16) (v17) (v18) (v19) (v20) (IntKind.i64.wrap (v21+(1:Int)))
 else
 bif decide (v13=(↑((0:Nat)+(1:Nat)+(1:Nat)+(1:Nat)):Int)) then
 lp6 (v0) (v1) (v2) (v3) (v4) (v5) (v6) (v7) (v8) (v9) (IntKind.i64.wrap   (↑(BitVec.ofInt IntKind.i64.bits v11 |||           BitVec.ofInt IntKind.i64.bits             (IntKind.i64.wrap               ((1:Int) *                 (2:Int) ^                   Min.min (v19.getD v21.toNat ((0:Int),(0:Int),(0:Int))).fst.toNat                     IntKind.i64.bits))).toNat:    Int)) (v11) (v12) (v13) (v14) (v15) (v16) (v17) (v18) (v19) (v20) (IntKind.i64.wrap (v21+(1:Int)))
 else
 bif decide (v13=(↑((0:Nat)+(1:Nat)+(1:Nat)+(1:Nat)+(1:Nat)):Int)) then
 lp6 (v0) (v1) (v2) (v3) (v4) (v5) (v6) (v7) (v8) (v9) (v10) (IntKind.i64.wrap   (↑(BitVec.ofInt IntKind.i64.bits v11 |||           BitVec.ofInt IntKind.i64.bits             (IntKind.i64.wrap               ((1:Int) *                 (2:Int) ^                   Min.min (v19.getD v21.toNat ((0:Int),(0:Int),(0:Int))).fst.toNat                     IntKind.i64.bits))).toNat:    Int)) (v12) (v13) (v14) (v15) (v16) (v17) (v18) (v19) (v20) (IntKind.i64.wrap (v21+(1:Int)))
 else
 bif decide (v13=(↑((0:Nat)+(1:Nat)+(1:Nat)+(1:Nat)+(1:Nat)+(1:Nat)):Int)) then
 lp6 (v0) (v1) (v2) (v3) (v4) (v5) (v6) (v7) (v8) (v9) (v10) (v11) (IntKind.i64.wrap   (↑(BitVec.ofInt IntKind.i64.bits v11 |||           BitVec.ofInt IntKind.i64.bits             (IntKind.i64.wrap               ((1:Int) *                 (2:Int) ^                   Min.min (v19.getD v21.toNat ((0:Int),(0:Int),(0:Int))).fst.toNat                     IntKind.i64.bits))).toNat:    Int)) (v13) (v14) (v15) (v16) (v17) (v18) (v19) (v20) (IntKind.i64.wrap (v21+(1:Int)))
 else
 none
 else
 none
 else
 bif decide (v13=(↑((0:Nat)+(1:Nat)+(1:Nat)+(1:Nat)+(1:Nat)+(1:Nat)):Int)) then
 bif decide ((0:Int)≤(v19.getD v21.toNat ((0:Int),(0:Int),(0:Int))).fst) then
 bif decide (v13=(↑(0:Nat):Int)) then
 lp6 (v0) (v1) (v2) (v3) (v4) (v5) (v6) (IntKind.i64.wrap   (↑(BitVec.ofInt IntKind.i64.bits v12 |||           BitVec.ofInt IntKind.i64.bits             (IntKind.i64.wrap               ((1:Int) *                 (2:Int) ^                   Min.min (v19.getD v21.toNat ((0:Int),(0:Int),(0:Int))).fst.toNat                     IntKind.i64.bits))).toNat:    Int)) (v8) (v9) (v10) (v11) (v12) (v13) (v14) (v15) (v16) (v17) (v18) (v19) (v20) (IntKind.i64.wrap (v21+(1:Int)))
 else
 bif decide (v13=(↑((0:Nat)+(1:Nat)):Int)) then
 lp6 (v0) (v1) (v2) (v3) (v4) (v5) (v6) (v7) (IntKind.i64.wrap   (↑(BitVec.ofInt IntKind.i64.bits v12 |||           BitVec.ofInt IntKind.i64.bits             (IntKind.i64.wrap               ((1:Int) *                 (2:Int) ^                   Min.min (v19.getD v21.toNat ((0:Int),(0:Int),(0:Int))).fst.toNat                     IntKind.i64.bits))).toNat:    Int)) (v9) (v10) (v11) (v12) (v13) (v14) (v15) (v16) (v17) (v18) (v19) (v20) (IntKind.i64.wrap (v21+(1:Int)))
 else
 bif decide (v13=(↑((0:Nat)+(1:Nat)+(1:Nat)):Int)) then
 lp6 (v0) (v1) (v2) (v3) (v4) (v5) (v6) (v7) (v8) (IntKind.i64.wrap   (↑(BitVec.ofInt IntKind.i64.bits v12 |||           BitVec.ofInt IntKind.i64.bits             (IntKind.i64.wrap               ((1:Int) *                 (2:Int) ^                   Min.min (v19.getD v21.toNat ((0:Int),(0:Int),(0:Int))).fst.toNat                     IntKind.i64.bits))).toNat:    Int)) (v10) (v11) (v12) (v13) (v14) (v15) (v16) (v17) (v18) (v19) (v20) (IntKind.i64.wrap (v21+(1:Int)))
 else
 bif decide (v13=(↑((0:Nat)+(1:Nat)+(1:Nat)+(1:Nat)):Int)) then
 lp6 (v0) (v1) (v2) (v3) (v4) (v5) (v6) (v7) (v8) (v9) (IntKind.i64.wrap   (↑(BitVec.ofInt IntKind.i64.bits v12 |||           BitVec.ofInt IntKind.i64.bits             (IntKind.i64.wrap               ((1:Int) *                 (2:Int) ^                   Min.min (v19.getD v21.toNat ((0:Int),(0:Int),(0:Int))).fst.toNat                     IntKind.i64.bits))).toNat:    Int)) (v11) (v12) (v13) (v14) (v15) (v16) (v17) (v18) (v19) (v20) (IntKind.i64.wrap (v21+(1:Int)))
 else
 bif decide (v13=(↑((0:Nat)+(1:Nat)+(1:Nat)+(1:Nat)+(1:Nat)):Int)) then
 lp6 (v0) (v1) (v2) (v3) (v4) (v5) (v6) (v7) (v8) (v9) (v10) (IntKind.i64.wrap   (↑(BitVec.ofInt IntKind.i64.bits v12 |||           BitVec.ofInt IntKind.i64.bits             (IntKind.i64.wrap               ((1:Int) *                 (2:Int) ^                   Min.min (v19.getD v21.toNat ((0:Int),(0:Int),(0:Int))).fst.toNat                     IntKind.i64.bits))).toNat:    Int)) (v12) (v13) (v14) (v15) (v16) (v17) (v18) (v19) (v20) (IntKind.i64.wrap (v21+(1:Int)))
 else
 bif decide (v13=(↑((0:Nat)+(1:Nat)+(1:Nat)+(1:Nat)+(1:Nat)+(1:Nat)):Int)) then
 lp6 (v0) (v1) (v2) (v3) (v4) (v5) (v6) (v7) (v8) (v9) (v10) (v11) (IntKind.i64.wrap   (↑(BitVec.ofInt IntKind.i64.bits v12 |||           BitVec.ofInt IntKind.i64.bits             (IntKind.i64.wrap               ((1:Int) *                 (2:Int) ^                   Min.min (v19.getD v21.toNat ((0:Int),(0:Int),(0:Int))).fst.toNat                     IntKind.i64.bits))).toNat:    Int)) (v13) (v14) (v15) (v16) (v17) (v18) (v19) (v20) (IntKind.i64.wrap (v21+(1:Int)))
 else
 none
 else
 none
 else
 none
 else
 lp6 (v0) (v1) (v2) (v3) (v4) (v5) (v6) (v7) (v8) (v9) (v10) (v11) (v12) (v13) (v14) (v15) (v16) (v17) (v18) (v19) (v20) (IntKind.i64.wrap (v21+(1:Int)))
 else
 none
 else
 none
 else
 lp3 (v0) (v1) (v2) (v3) (v4) (v5) (v6) (v7) (v8) (v9) (v10) (v11) (v12) (v16) (v17) (IntKind.i64.wrap (v18+(1:Int)))
def xi0c.t3 {γ:Type} (ret:(Int × Int × Int × Int × Int × Int)→Option γ) (lp6:Ze→Int→Int→Int→Int→Int→Int→Int→Int→Int→Int→Int→Int→Int→Int→Int→Ze→Int→Int→Ze→Int→Int→Option γ) (v0:Ze) (v1:Int) (v2:Int) (v3:Int) (v4:Int) (v5:Int) (v6:Int) (v7:Int) (v8:Int) (v9:Int) (v10:Int) (v11:Int) (v12:Int) (v13:Ze) (v14:Int) (v15:Int):Option γ :=
 bif decide (v15<v14) then
 bif decide ((0:Int)≤v15) then
 bif decide (v15.toNat<v13.length) then
 bif decide ((0:Int)≤(Option.some (IntKind.i64.wrap (v15+(1:Int)))).getD (0:Int)) then
 bif decide ((Option.some (IntKind.i64.wrap (v15+(1:Int)))).getD (0:Int)≤(↑v0.length:Int)) then
 lp6 (v0) (v1) (v2) (v3) (v4) (v5) (v6) (v7) (v8) (v9) (v10) (v11) (v12) ((v13.getD v15.toNat ((0:Int),(0:Int),(0:Int))).fst) ((v13.getD v15.toNat ((0:Int),(0:Int),(0:Int))).snd.fst) ((v13.getD v15.toNat ((0:Int),(0:Int),(0:Int))).snd.snd) (v13) (v14) (v15) (List.drop ((Option.some (IntKind.i64.wrap (v15+(1:Int)))).getD (0:Int)).toNat v0) ((↑(List.drop ((Option.some (IntKind.i64.wrap (v15+(1:Int)))).getD (0:Int)).toNat v0).length:Int)) ((0:Int))
 else
 none
 else
 none
 else
 none
 else
 none
 else
 ret (v7,v8,v9,v10,v11,v12)
theorem xi0c.u:∀ b,xi0c.un (xi0c.mk b)=b:=fun _ => by kernel_rfl
theorem xi0c.eq (v0) {b} (h:xi0c.t some xi0c.l3 v0=some b):xi0c v0=some b:=eqF xi0c.u Try.f17 (callT_le E tab) rfl rfl rfl (xi0c.t (rR xi0c.mk) xi0c.q3 v0) (by kernel_rfl) (by unfold xi0c.t; repeat' first | exact sR | exact sN | exact sL | apply sC | (apply sB; intro _)) h
theorem xi0c.eq6 (v0 v1 v2 v3 v4 v5 v6 v7 v8 v9 v10 v11 v12 v13 v14 v15 v16 v17 v18 v19 v20 v21) {b} (h:xi0c.t6 some xi0c.l6 xi0c.l3 v0 v1 v2 v3 v4 v5 v6 v7 v8 v9 v10 v11 v12 v13 v14 v15 v16 v17 v18 v19 v20 v21=some b):xi0c.l6 v0 v1 v2 v3 v4 v5 v6 v7 v8 v9 v10 v11 v12 v13 v14 v15 v16 v17 v18 v19 v20 v21=some b:=eqL xi0c.u (xi0c.t6 (rR xi0c.mk) xi0c.q6 xi0c.q3 v0 v1 v2 v3 v4 v5 v6 v7 v8 v9 v10 v11 v12 v13 v14 v15 v16 v17 v18 v19 v20 v21) (by kernel_rfl) (by unfold xi0c.t6; repeat' first | exact sR | exact sN | exact sL | apply sC | (apply sB; intro _)) h
theorem xi0c.eq3 (v0 v1 v2 v3 v4 v5 v6 v7 v8 v9 v10 v11 v12 v13 v14 v15) {b} (h:xi0c.t3 some xi0c.l6 v0 v1 v2 v3 v4 v5 v6 v7 v8 v9 v10 v11 v12 v13 v14 v15=some b):xi0c.l3 v0 v1 v2 v3 v4 v5 v6 v7 v8 v9 v10 v11 v12 v13 v14 v15=some b:=eqL xi0c.u (xi0c.t3 (rR xi0c.mk) xi0c.q6 v0 v1 v2 v3 v4 v5 v6 v7 v8 v9 v10 v11 v12 v13 v14 v15) (by kernel_rfl) (by unfold xi0c.t3; repeat' first | exact sR | exact sN | exact sL | apply sC | (apply sB; intro _)) h
def xi0r.t {γ:Type} (ret:(Bool)→Option γ) (v0:Int) (v1:Int) (v2:Int) (v3:Int) (v4:Int) (v5:Int):Option γ :=
 bif v0 != v3 then
 bif v2 == v5 then
 bif v1 == (2:Int) then
 ret (Bool.true)
 else
 ret (v4 == (2:Int))
 else
 ret (Bool.false)
 else
 ret (Bool.false)
theorem xi0r.u:∀ b,xi0r.un (xi0r.mk b)=b:=fun _ => by kernel_rfl
theorem xi0r.eq (v0 v1 v2 v3 v4 v5) {b} (h:xi0r.t some v0 v1 v2 v3 v4 v5=some b):xi0r v0 v1 v2 v3 v4 v5=some b:=eqF xi0r.u Try.f28 (callT_le E tab) rfl rfl rfl (xi0r.t (rR xi0r.mk) v0 v1 v2 v3 v4 v5) (by kernel_rfl) (by unfold xi0r.t; repeat' first | exact sR | exact sN | exact sL | apply sC | (apply sB; intro _)) h
def xi0f.s3 (v0:Int) (v1:List Int) (v2:Int):List Cell:=vc (iL v0)::nn 2 (vc (.d .deep (.sl (.int .i64)) v1)::vc (iL v2)::nn 16 ([]))
def xi0f.q3:=fun v0 v1 v2 => loopAtL E (callT E tab) 18 Try.f18 1 [.r,.r,.l,.r,.b] (xi0f.s3 v0 v1 v2)
def xi0f.l3:=fun v0 v1 v2 => tOf xi0f.mk (xi0f.q3 v0 v1 v2)
def xi0f.t {γ:Type} (ret:((List Int))→Option γ) (lp3:Int→(List Int)→Int→Option γ) (v0:Int):Option γ :=
 lp3 (v0) ([]) ((0:Int))
def xi0f.t3 {γ:Type} (ret:((List Int))→Option γ) (lp3:Int→(List Int)→Int→Option γ) (v0:Int) (v1:List Int) (v2:Int):Option γ :=
 bif decide ((0:Int)≤v2) then
 bif v0.fdiv ((2:Int) ^ Min.min v2.toNat IntKind.i64.bits) != (0:Int) then
 bif decide ((0:Int)≤v2) then
 bif IntKind.i64.wrap     (↑(BitVec.ofInt IntKind.i64.bits (v0.fdiv ((2:Int) ^ Min.min v2.toNat IntKind.i64.bits)) &&&             BitVec.ofInt IntKind.i64.bits (1:Int)).toNat:      Int) ==   (1:Int) then
 bif decide (v1.length+[v2].length≤(4294967296:Nat)) then
 lp3 (v0) (v1 ++ [v2]) (IntKind.i64.wrap (v2+(1:Int)))
 else
 none
 else
 lp3 (v0) (v1) (IntKind.i64.wrap (v2+(1:Int)))
 else
 none
 else
 ret (v1)
 else
 none
theorem xi0f.u:∀ b,xi0f.un (xi0f.mk b)=b:=fun _ => by kernel_rfl
theorem xi0f.eq (v0) {b} (h:xi0f.t some xi0f.l3 v0=some b):xi0f v0=some b:=eqF xi0f.u Try.f18 (callT_le E tab) rfl rfl rfl (xi0f.t (rR xi0f.mk) xi0f.q3 v0) (by kernel_rfl) (by unfold xi0f.t; repeat' first | exact sR | exact sN | exact sL | apply sC | (apply sB; intro _)) h
theorem xi0f.eq3 (v0 v1 v2) {b} (h:xi0f.t3 some xi0f.l3 v0 v1 v2=some b):xi0f.l3 v0 v1 v2=some b:=eqL xi0f.u (xi0f.t3 (rR xi0f.mk) xi0f.q3 v0 v1 v2) (by kernel_rfl) (by unfold xi0f.t3; repeat' first | exact sR | exact sN | exact sL | apply sC | (apply sB; intro _)) h
def xl0i.s4 (v0:Zg) (v1:Zg) (v2:Int):List Cell:=vc (.d .fro (.sl (.sl (.int .i64))) v0)::vc (.d .fro (.sl (.sl (.int .i64))) v1)::nn 3 (vc (iL v2)::nn 21 ([]))
def xl0i.q4:=fun v0 v1 v2 => loopAtL E (callT E tab) 8 Try.f8 2 [.r,.r,.l,.r,.b] (xl0i.s4 v0 v1 v2)
def xl0i.l4:=fun v0 v1 v2 => tOf xl0i.mk (xl0i.q4 v0 v1 v2)
def xl0i.t {γ:Type} (ret:(Bool)→Option γ) (lp4:Zg→Zg→Int→Option γ) (v0:Zg) (v1:Zg):Option γ :=
 bif (↑v0.length:Int) != (↑v1.length:Int) then
 ret (Bool.false)
 else
 lp4 (v0) (v1) ((0:Int))
def xl0i.t4 {γ:Type} (ret:(Bool)→Option γ) (lp4:Zg→Zg→Int→Option γ) (v0:Zg) (v1:Zg) (v2:Int):Option γ :=
 bif decide (v2<(↑v0.length:Int)) then
 bif decide ((0:Int)≤v2) then
 bif decide (v2.toNat<v0.length) then
 bif decide ((0:Int)≤v2) then
 bif decide (v2.toNat<v1.length) then
 (xl0o (v0.getD v2.toNat []) (v1.getD v2.toNat [])).bind fun (r0:Bool) =>
 bif !r0 then
 ret (Bool.false)
 else
 lp4 (v0) (v1) (IntKind.i64.wrap (v2+(1:Int)))
 else
 none
 else
 none
 else
 none
 else
 none
 else
 ret (Bool.true)
theorem xl0i.u:∀ b,xl0i.un (xl0i.mk b)=b:=fun _ => by kernel_rfl
theorem xl0i.eq (v0 v1) {b} (h:xl0i.t some xl0i.l4 v0 v1=some b):xl0i v0 v1=some b:=eqF xl0i.u Try.f8 (callT_le E tab) rfl rfl rfl (xl0i.t (rR xl0i.mk) xl0i.q4 v0 v1) (by kernel_rfl) (by unfold xl0i.t; repeat' first | exact sR | exact sN | exact sL | apply sC | (apply sB; intro _)) h
theorem xl0i.eq4 (v0 v1 v2) {b} (h:xl0i.t4 some xl0i.l4 v0 v1 v2=some b):xl0i.l4 v0 v1 v2=some b:=eqL xl0i.u (xl0i.t4 (rR xl0i.mk) xl0i.q4 v0 v1 v2) (by kernel_rfl) (by unfold xl0i.t4; repeat' first | exact sR | exact sN | exact sL | apply sC | (apply sB; intro _)) h
def xl0o.s4 (v0:List Int) (v1:List Int) (v2:Int):List Cell:=vc (.d .fro (.sl (.int .i64)) v0)::vc (.d .fro (.sl (.int .i64)) v1)::nn 3 (vc (iL v2)::nn 20 ([]))
def xl0o.q4:=fun v0 v1 v2 => loopAtL E (callT E tab) 19 Try.f19 2 [.r,.r,.l,.r,.b] (xl0o.s4 v0 v1 v2)
def xl0o.l4:=fun v0 v1 v2 => tOf xl0o.mk (xl0o.q4 v0 v1 v2)
def xl0o.t {γ:Type} (ret:(Bool)→Option γ) (lp4:(List Int)→(List Int)→Int→Option γ) (v0:List Int) (v1:List Int):Option γ :=
 bif (↑v0.length:Int) != (↑v1.length:Int) then
 ret (Bool.false)
 else
 lp4 (v0) (v1) ((0:Int))
def xl0o.t4 {γ:Type} (ret:(Bool)→Option γ) (lp4:(List Int)→(List Int)→Int→Option γ) (v0:List Int) (v1:List Int) (v2:Int):Option γ :=
 bif decide (v2<(↑v0.length:Int)) then
 bif decide ((0:Int)≤v2) then
 bif decide (v2.toNat<v0.length) then
 bif decide ((0:Int)≤v2) then
 bif decide (v2.toNat<v1.length) then
 bif v0.getD v2.toNat (0:Int) != v1.getD v2.toNat (0:Int) then
 ret (Bool.false)
 else
 lp4 (v0) (v1) (IntKind.i64.wrap (v2+(1:Int)))
 else
 none
 else
 none
 else
 none
 else
 none
 else
 ret (Bool.true)
theorem xl0o.u:∀ b,xl0o.un (xl0o.mk b)=b:=fun _ => by kernel_rfl
theorem xl0o.eq (v0 v1) {b} (h:xl0o.t some xl0o.l4 v0 v1=some b):xl0o v0 v1=some b:=eqF xl0o.u Try.f19 (callT_le E tab) rfl rfl rfl (xl0o.t (rR xl0o.mk) xl0o.q4 v0 v1) (by kernel_rfl) (by unfold xl0o.t; repeat' first | exact sR | exact sN | exact sL | apply sC | (apply sB; intro _)) h
theorem xl0o.eq4 (v0 v1 v2) {b} (h:xl0o.t4 some xl0o.l4 v0 v1 v2=some b):xl0o.l4 v0 v1 v2=some b:=eqL xl0o.u (xl0o.t4 (rR xl0o.mk) xl0o.q4 v0 v1 v2) (by kernel_rfl) (by unfold xl0o.t4; repeat' first | exact sR | exact sN | exact sL | apply sC | (apply sB; intro _)) h
def xl0j.s4 (v0:Ze) (v1:Ze) (v2:Int):List Cell:=vc (.d .fro Ya v0)::vc (.d .fro Ya v1)::nn 3 (vc (iL v2)::nn 21 ([]))
def xl0j.q4:=fun v0 v1 v2 => loopAtL E (callT E tab) 9 Try.f9 2 [.r,.r,.l,.r,.b] (xl0j.s4 v0 v1 v2)
def xl0j.l4:=fun v0 v1 v2 => tOf xl0j.mk (xl0j.q4 v0 v1 v2)
def xl0j.t {γ:Type} (ret:(Bool)→Option γ) (lp4:Ze→Ze→Int→Option γ) (v0:Ze) (v1:Ze):Option γ :=
 bif (↑v0.length:Int) != (↑v1.length:Int) then
 ret (Bool.false)
 else
 lp4 (v0) (v1) ((0:Int))
def xl0j.t4 {γ:Type} (ret:(Bool)→Option γ) (lp4:Ze→Ze→Int→Option γ) (v0:Ze) (v1:Ze) (v2:Int):Option γ :=
 bif decide (v2<(↑v0.length:Int)) then
 bif decide ((0:Int)≤v2) then
 bif decide (v2.toNat<v0.length) then
 bif decide ((0:Int)≤v2) then
 bif decide (v2.toNat<v1.length) then
 (xl0p ((v0.getD v2.toNat ((0:Int),(0:Int),(0:Int))).fst) ((v0.getD v2.toNat ((0:Int),(0:Int),(0:Int))).snd.fst) ((v0.getD v2.toNat ((0:Int),(0:Int),(0:Int))).snd.snd) ((v1.getD v2.toNat ((0:Int),(0:Int),(0:Int))).fst) ((v1.getD v2.toNat ((0:Int),(0:Int),(0:Int))).snd.fst) ((v1.getD v2.toNat ((0:Int),(0:Int),(0:Int))).snd.snd)).bind fun (r0:Bool) =>
 bif !r0 then
 ret (Bool.false)
 else
 lp4 (v0) (v1) (IntKind.i64.wrap (v2+(1:Int)))
 else
 none
 else
 none
 else
 none
 else
 none
 else
 ret (Bool.true)
theorem xl0j.u:∀ b,xl0j.un (xl0j.mk b)=b:=fun _ => by kernel_rfl
theorem xl0j.eq (v0 v1) {b} (h:xl0j.t some xl0j.l4 v0 v1=some b):xl0j v0 v1=some b:=eqF xl0j.u Try.f9 (callT_le E tab) rfl rfl rfl (xl0j.t (rR xl0j.mk) xl0j.q4 v0 v1) (by kernel_rfl) (by unfold xl0j.t; repeat' first | exact sR | exact sN | exact sL | apply sC | (apply sB; intro _)) h
theorem xl0j.eq4 (v0 v1 v2) {b} (h:xl0j.t4 some xl0j.l4 v0 v1 v2=some b):xl0j.l4 v0 v1 v2=some b:=eqL xl0j.u (xl0j.t4 (rR xl0j.mk) xl0j.q4 v0 v1 v2) (by kernel_rfl) (by unfold xl0j.t4; repeat' first | exact sR | exact sN | exact sL | apply sC | (apply sB; intro _)) h
def xl0p.t {γ:Type} (ret:(Bool)→Option γ) (v0:Int) (v1:Int) (v2:Int) (v3:Int) (v4:Int) (v5:Int):Option γ :=
 bif v0 != v3 then
 ret (Bool.false)
 else
 bif v1 != v4 then
 ret (Bool.false)
 else
 bif v2 != v5 then
 ret (Bool.false)
 else
 ret (Bool.true)
theorem xl0p.u:∀ b,xl0p.un (xl0p.mk b)=b:=fun _ => by kernel_rfl
theorem xl0p.eq (v0 v1 v2 v3 v4 v5) {b} (h:xl0p.t some v0 v1 v2 v3 v4 v5=some b):xl0p v0 v1 v2 v3 v4 v5=some b:=eqF xl0p.u Try.f20 (callT_le E tab) rfl rfl rfl (xl0p.t (rR xl0p.mk) v0 v1 v2 v3 v4 v5) (by kernel_rfl) (by unfold xl0p.t; repeat' first | exact sR | exact sN | exact sL | apply sC | (apply sB; intro _)) h
def xl06.s2 (v0:Ze) (v1:Int) (v2:Int):List Cell:=⟨(.val .one),[.d .deep Ya v0],true,false,false,0,0⟩::vc (iL v1)::nn 3 (vc (iL v2)::nn 28 ([]))
def xl06.q2:=fun v0 v1 v2 => loopAtL E (callT E tab) 10 Try.f10 2 [.r,.l,.r,.b] (xl06.s2 v0 v1 v2)
def xl06.l2:=fun v0 v1 v2 => tOf xl06.mk (xl06.q2 v0 v1 v2)
def xl06.t {γ:Type} (ret:(Int × Ze)→Option γ) (lp2:Ze→Int→Int→Option γ) (v0:Ze) (v1:Int):Option γ :=
 lp2 (v0) (v1) ((0:Int))
def xl06.t2 {γ:Type} (ret:(Int × Ze)→Option γ) (lp2:Ze→Int→Int→Option γ) (v0:Ze) (v1:Int) (v2:Int):Option γ :=
 bif decide (v2<(↑v0.length:Int)) then
 bif decide ((0:Int)≤v2) then
 bif decide (v2.toNat<v0.length) then
 bif decide (v2.toNat<v0.length) then
 bif decide ((0:Int)≤v2) then
 bif decide (v2.toNat<(v0.set v2.toNat (v1,(v0.getD v2.toNat ((0:Int),(0:Int),(0:Int))).snd)).length) then
 bif decide (v2.toNat<(v0.set v2.toNat (v1,(v0.getD v2.toNat ((0:Int),(0:Int),(0:Int))).snd)).length) then
 bif decide ((0:Int)≤v2) then
 bif decide   (v2.toNat<    ((v0.set v2.toNat (v1,(v0.getD v2.toNat ((0:Int),(0:Int),(0:Int))).snd)).set v2.toNat         (((v0.set v2.toNat (v1,(v0.getD v2.toNat ((0:Int),(0:Int),(0:Int))).snd)).getD v2.toNat               ((0:Int),(0:Int),(0:Int))).fst,          IntKind.i64.wrap (v1+(1:Int)),          ((v0.set v2.toNat (v1,(v0.getD v2.toNat ((0:Int),(0:Int),(0:Int))).snd)).getD v2.toNat                 ((0:Int),(0:Int),(0:Int))).snd.snd)).length) then
 bif decide   (v2.toNat<    ((v0.set v2.toNat (v1,(v0.getD v2.toNat ((0:Int),(0:Int),(0:Int))).snd)).set v2.toNat         (((v0.set v2.toNat (v1,(v0.getD v2.toNat ((0:Int),(0:Int),(0:Int))).snd)).getD v2.toNat               ((0:Int),(0:Int),(0:Int))).fst,          IntKind.i64.wrap (v1+(1:Int)),          ((v0.set v2.toNat (v1,(v0.getD v2.toNat ((0:Int),(0:Int),(0:Int))).snd)).getD v2.toNat                 ((0:Int),(0:Int),(0:Int))).snd.snd)).length) then
 lp2 (((v0.set v2.toNat (v1,(v0.getD v2.toNat ((0:Int),(0:Int),(0:Int))).snd)).set v2.toNat       (((v0.set v2.toNat (v1,(v0.getD v2.toNat ((0:Int),(0:Int),(0:Int))).snd)).getD v2.toNat             ((0:Int),(0:Int),(0:Int))).fst,        IntKind.i64.wrap (v1+(1:Int)),        ((v0.set v2.toNat (v1,(v0.getD v2.toNat ((0:Int),(0:Int),(0:Int))).snd)).getD v2.toNat               ((0:Int),(0:Int),(0:Int))).snd.snd)).set   v2.toNat   ((((v0.set v2.toNat (v1,(v0.getD v2.toNat ((0:Int),(0:Int),(0:Int))).snd)).set v2.toNat             (((v0.set v2.toNat (v1,(v0.getD v2.toNat ((0:Int),(0:Int),(0:Int))).snd)).getD v2.toNat                   ((0:Int),(0:Int),(0:Int))).fst,              IntKind.i64.wrap (v1+(1:Int)),              ((v0.set v2.toNat (v1,(v0.getD v2.toNat ((0:Int),(0:Int),(0:Int))).snd)).getD v2.toNat                     ((0:Int),(0:Int),(0:Int))).snd.snd)).getD         v2.toNat ((0:Int),(0:Int),(0:Int))).fst,    (((v0.set v2.toNat (v1,(v0.getD v2.toNat ((0:Int),(0:Int),(0:Int))).snd)).set v2.toNat               (((v0.set v2.toNat (v1,(v0.getD v2.toNat ((0:Int),(0:Int),(0:Int))).snd)).getD v2.toNat                     ((0:Int),(0:Int),(0:Int))).fst,                IntKind.i64.wrap (v1+(1:Int)),                ((v0.set v2.toNat (v1,(v0.getD v2.toNat ((0:Int),(0:Int),(0:Int))).snd)).getD v2.toNat                       ((0:Int),(0:Int),(0:Int))).snd.snd)).getD           v2.toNat ((0:Int),(0:Int),(0:Int))).snd.fst,    IntKind.i64.wrap (IntKind.i64.wrap (v1+(1:Int))+(1:Int)))) (IntKind.i64.wrap (IntKind.i64.wrap (IntKind.i64.wrap (v1+(1:Int))+(1:Int))+(1:Int))) (IntKind.i64.wrap (v2+(1:Int)))
 else
 none
 else
 none
 else
 none
 else
 none
 else
 none
 else
 none
 else
 none
 else
 none
 else
 none
 else
 ret (v1,v0)
theorem xl06.u:∀ b,xl06.un (xl06.mk b)=b:=fun _ => by kernel_rfl
theorem xl06.eq (v0 v1) {b} (h:xl06.t some xl06.l2 v0 v1=some b):xl06 v0 v1=some b:=eqF xl06.u Try.f10 (callT_le E tab) rfl rfl rfl (xl06.t (rR xl06.mk) xl06.q2 v0 v1) (by kernel_rfl) (by unfold xl06.t; repeat' first | exact sR | exact sN | exact sL | apply sC | (apply sB; intro _)) h
theorem xl06.eq2 (v0 v1 v2) {b} (h:xl06.t2 some xl06.l2 v0 v1 v2=some b):xl06.l2 v0 v1 v2=some b:=eqL xl06.u (xl06.t2 (rR xl06.mk) xl06.q2 v0 v1 v2) (by kernel_rfl) (by unfold xl06.t2; repeat' first | exact sR | exact sN | exact sL | apply sC | (apply sB; intro _)) h
def xl05.s2 (v0:Zg) (v1:Int) (v2:Int):List Cell:=⟨(.val .one),[.d .deep (.sl (.sl (.int .i64))) v0],true,false,false,0,0⟩::vc (iL v1)::nn 3 (vc (iL v2)::nn 13 ([]))
def xl05.q2:=fun v0 v1 v2 => loopAtL E (callT E tab) 11 Try.f11 2 [.r,.l,.r,.b] (xl05.s2 v0 v1 v2)
def xl05.l2:=fun v0 v1 v2 => tOf xl05.mk (xl05.q2 v0 v1 v2)
def xl05.t {γ:Type} (ret:(Int × Zg)→Option γ) (lp2:Zg→Int→Int→Option γ) (v0:Zg) (v1:Int):Option γ :=
 lp2 (v0) (v1) ((0:Int))
def xl05.t2 {γ:Type} (ret:(Int × Zg)→Option γ) (lp2:Zg→Int→Int→Option γ) (v0:Zg) (v1:Int) (v2:Int):Option γ :=
 bif decide (v2<(↑v0.length:Int)) then
 bif decide ((0:Int)≤v2) then
 bif decide (v2.toNat<v0.length) then
 bif decide (v2.toNat<v0.length) then
 bif decide (v2.toNat<v0.length) then
 (xl07 (v0.getD v2.toNat []) (v1)).bind fun (r0:Int × (List Int)) =>
 bif decide (v2.toNat=v2.toNat) &&   (decide ((0:Nat)=(0:Nat)) && decide ((1:Nat)=(1:Nat))) then
 bif decide (v2.toNat<v0.length) then
 lp2 (v0.set v2.toNat r0.snd) (r0.fst) (IntKind.i64.wrap (v2+(1:Int)))
 else
 none
 else
 none
 else
 none
 else
 none
 else
 none
 else
 none
 else
 ret (v1,v0)
theorem xl05.u:∀ b,xl05.un (xl05.mk b)=b:=fun _ => by kernel_rfl
theorem xl05.eq (v0 v1) {b} (h:xl05.t some xl05.l2 v0 v1=some b):xl05 v0 v1=some b:=eqF xl05.u Try.f11 (callT_le E tab) rfl rfl rfl (xl05.t (rR xl05.mk) xl05.q2 v0 v1) (by kernel_rfl) (by unfold xl05.t; repeat' first | exact sR | exact sN | exact sL | apply sC | (apply sB; intro _)) h
theorem xl05.eq2 (v0 v1 v2) {b} (h:xl05.t2 some xl05.l2 v0 v1 v2=some b):xl05.l2 v0 v1 v2=some b:=eqL xl05.u (xl05.t2 (rR xl05.mk) xl05.q2 v0 v1 v2) (by kernel_rfl) (by unfold xl05.t2; repeat' first | exact sR | exact sN | exact sL | apply sC | (apply sB; intro _)) h
def xl07.s2 (v0:List Int) (v1:Int) (v2:Int):List Cell:=⟨(.val .one),[.d .deep (.sl (.int .i64)) v0],true,false,false,0,0⟩::vc (iL v1)::nn 3 (vc (iL v2)::nn 13 ([]))
def xl07.q2:=fun v0 v1 v2 => loopAtL E (callT E tab) 21 Try.f21 2 [.r,.l,.r,.b] (xl07.s2 v0 v1 v2)
def xl07.l2:=fun v0 v1 v2 => tOf xl07.mk (xl07.q2 v0 v1 v2)
def xl07.t {γ:Type} (ret:(Int × (List Int))→Option γ) (lp2:(List Int)→Int→Int→Option γ) (v0:List Int) (v1:Int):Option γ :=
 lp2 (v0) (v1) ((0:Int))
def xl07.t2 {γ:Type} (ret:(Int × (List Int))→Option γ) (lp2:(List Int)→Int→Int→Option γ) (v0:List Int) (v1:Int) (v2:Int):Option γ :=
 bif decide (v2<(↑v0.length:Int)) then
 bif decide ((0:Int)≤v2) then
 bif decide (v2.toNat<v0.length) then
 bif decide (v2.toNat<v0.length) then
 lp2 (v0.set v2.toNat v1) (IntKind.i64.wrap (v1+(1:Int))) (IntKind.i64.wrap (v2+(1:Int)))
 else
 none
 else
 none
 else
 none
 else
 ret (v1,v0)
theorem xl07.u:∀ b,xl07.un (xl07.mk b)=b:=fun _ => by kernel_rfl
theorem xl07.eq (v0 v1) {b} (h:xl07.t some xl07.l2 v0 v1=some b):xl07 v0 v1=some b:=eqF xl07.u Try.f21 (callT_le E tab) rfl rfl rfl (xl07.t (rR xl07.mk) xl07.q2 v0 v1) (by kernel_rfl) (by unfold xl07.t; repeat' first | exact sR | exact sN | exact sL | apply sC | (apply sB; intro _)) h
theorem xl07.eq2 (v0 v1 v2) {b} (h:xl07.t2 some xl07.l2 v0 v1 v2=some b):xl07.l2 v0 v1 v2=some b:=eqL xl07.u (xl07.t2 (rR xl07.mk) xl07.q2 v0 v1 v2) (by kernel_rfl) (by unfold xl07.t2; repeat' first | exact sR | exact sN | exact sL | apply sC | (apply sB; intro _)) h
def xl0d.s2 (v0:Zg) (v1:Int) (v2:Int):List Cell:=vc (.d .fro (.sl (.sl (.int .i64))) v0)::vc (iL v1)::nn 3 (vc (iL v2)::nn 15 ([]))
def xl0d.q2:=fun v0 v1 v2 => loopAtL E (callT E tab) 12 Try.f12 2 [.r,.l,.r,.b] (xl0d.s2 v0 v1 v2)
def xl0d.l2:=fun v0 v1 v2 => tOf xl0d.mk (xl0d.q2 v0 v1 v2)
def xl0d.t {γ:Type} (ret:(Int)→Option γ) (lp2:Zg→Int→Int→Option γ) (v0:Zg) (v1:Int):Option γ :=
 lp2 (v0) (v1) ((0:Int))
def xl0d.t2 {γ:Type} (ret:(Int)→Option γ) (lp2:Zg→Int→Int→Option γ) (v0:Zg) (v1:Int) (v2:Int):Option γ :=
 bif decide (v2<(↑v0.length:Int)) then
 bif decide ((0:Int)≤v2) then
 bif decide (v2.toNat<v0.length) then
 (xl0g (v0.getD v2.toNat []) (v1)).bind fun (r0:Int) =>
 bif decide (r0<(0:Int)) then
 ret ((-1:Int))
 else
 lp2 (v0) (r0) (IntKind.i64.wrap (v2+(1:Int)))
 else
 none
 else
 none
 else
 ret (v1)
theorem xl0d.u:∀ b,xl0d.un (xl0d.mk b)=b:=fun _ => by kernel_rfl
theorem xl0d.eq (v0 v1) {b} (h:xl0d.t some xl0d.l2 v0 v1=some b):xl0d v0 v1=some b:=eqF xl0d.u Try.f12 (callT_le E tab) rfl rfl rfl (xl0d.t (rR xl0d.mk) xl0d.q2 v0 v1) (by kernel_rfl) (by unfold xl0d.t; repeat' first | exact sR | exact sN | exact sL | apply sC | (apply sB; intro _)) h
theorem xl0d.eq2 (v0 v1 v2) {b} (h:xl0d.t2 some xl0d.l2 v0 v1 v2=some b):xl0d.l2 v0 v1 v2=some b:=eqL xl0d.u (xl0d.t2 (rR xl0d.mk) xl0d.q2 v0 v1 v2) (by kernel_rfl) (by unfold xl0d.t2; repeat' first | exact sR | exact sN | exact sL | apply sC | (apply sB; intro _)) h
def xl0g.s2 (v0:List Int) (v1:Int) (v2:Int):List Cell:=vc (.d .fro (.sl (.int .i64)) v0)::vc (iL v1)::nn 3 (vc (iL v2)::nn 15 ([]))
def xl0g.q2:=fun v0 v1 v2 => loopAtL E (callT E tab) 22 Try.f22 2 [.r,.l,.r,.b] (xl0g.s2 v0 v1 v2)
def xl0g.l2:=fun v0 v1 v2 => tOf xl0g.mk (xl0g.q2 v0 v1 v2)
def xl0g.t {γ:Type} (ret:(Int)→Option γ) (lp2:(List Int)→Int→Int→Option γ) (v0:List Int) (v1:Int):Option γ :=
 lp2 (v0) (v1) ((0:Int))
def xl0g.t2 {γ:Type} (ret:(Int)→Option γ) (lp2:(List Int)→Int→Int→Option γ) (v0:List Int) (v1:Int) (v2:Int):Option γ :=
 bif decide (v2<(↑v0.length:Int)) then
 bif decide ((0:Int)≤v2) then
 bif decide (v2.toNat<v0.length) then
 bif v0.getD v2.toNat (0:Int) != v1 then
 ret ((-1:Int))
 else
 lp2 (v0) (IntKind.i64.wrap (v1+(1:Int))) (IntKind.i64.wrap (v2+(1:Int)))
 else
 none
 else
 none
 else
 ret (v1)
theorem xl0g.u:∀ b,xl0g.un (xl0g.mk b)=b:=fun _ => by kernel_rfl
theorem xl0g.eq (v0 v1) {b} (h:xl0g.t some xl0g.l2 v0 v1=some b):xl0g v0 v1=some b:=eqF xl0g.u Try.f22 (callT_le E tab) rfl rfl rfl (xl0g.t (rR xl0g.mk) xl0g.q2 v0 v1) (by kernel_rfl) (by unfold xl0g.t; repeat' first | exact sR | exact sN | exact sL | apply sC | (apply sB; intro _)) h
theorem xl0g.eq2 (v0 v1 v2) {b} (h:xl0g.t2 some xl0g.l2 v0 v1 v2=some b):xl0g.l2 v0 v1 v2=some b:=eqL xl0g.u (xl0g.t2 (rR xl0g.mk) xl0g.q2 v0 v1 v2) (by kernel_rfl) (by unfold xl0g.t2; repeat' first | exact sR | exact sN | exact sL | apply sC | (apply sB; intro _)) h
end
end GoV
