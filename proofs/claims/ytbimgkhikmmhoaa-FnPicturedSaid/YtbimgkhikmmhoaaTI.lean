/- A part of the proof of FnPictured: an interpreter of the model over plain data, its soundness, and what it makes of the functions that the statement reaches. Conditions: none beyond what the given statement itself says. -/
import Derived.Test.YtbimgkhikmmhoaaTH
import Derived.Test.YtbimgkhikmmhoaaRows
set_option linter.unusedVariables false
set_option linter.unusedSimpArgs false
set_option linter.unnecessarySimpa false
set_option linter.unusedSectionVars false
/- The tables are right. -/
namespace GoV
open Go Go.Proofs
set_option maxRecDepth 100000
theorem ti_all:(tiT.all fun p => tiB Try.prog E p.1 p.2)=true:=by kernel_rfl
theorem fnok6:FnOKp Try.prog (6,Try.f6):=⟨Try.func6,by kernel_rfl,by kernel_rfl⟩
theorem fnok7:FnOKp Try.prog (7,Try.f7):=⟨Try.func7,by kernel_rfl,by kernel_rfl⟩
theorem fnok30:FnOKp Try.prog (30,Try.f30):=⟨Try.func30,by kernel_rfl,by kernel_rfl⟩
theorem fnok22:FnOKp Try.prog (22,Try.f22):=⟨Try.func22,by kernel_rfl,by kernel_rfl⟩
theorem fnok19:FnOKp Try.prog (19,Try.f19):=⟨Try.func19,by kernel_rfl,by kernel_rfl⟩
theorem fnok31:FnOKp Try.prog (31,Try.f31):=⟨Try.func31,by kernel_rfl,by kernel_rfl⟩
theorem fnok32:FnOKp Try.prog (32,Try.f32):=⟨Try.func32,by kernel_rfl,by kernel_rfl⟩
theorem fnok33:FnOKp Try.prog (33,Try.f33):=⟨Try.func33,by kernel_rfl,by kernel_rfl⟩
theorem fnok34:FnOKp Try.prog (34,Try.f34):=⟨Try.func34,by kernel_rfl,by kernel_rfl⟩
theorem fnok35:FnOKp Try.prog (35,Try.f35):=⟨Try.func35,by kernel_rfl,by kernel_rfl⟩
theorem fnok17:FnOKp Try.prog (17,Try.f17):=⟨Try.func17,by kernel_rfl,by kernel_rfl⟩
theorem fnok36:FnOKp Try.prog (36,Try.f36):=⟨Try.func36,by kernel_rfl,by kernel_rfl⟩
theorem fnok12:FnOKp Try.prog (12,Try.f12):=⟨Try.func12,by kernel_rfl,by kernel_rfl⟩
theorem fnok9:FnOKp Try.prog (9,Try.f9):=⟨Try.func9,by kernel_rfl,by kernel_rfl⟩
theorem fnok37:FnOKp Try.prog (37,Try.f37):=⟨Try.func37,by kernel_rfl,by kernel_rfl⟩
theorem fnok38:FnOKp Try.prog (38,Try.f38):=⟨Try.func38,by kernel_rfl,by kernel_rfl⟩
theorem fnok39:FnOKp Try.prog (39,Try.f39):=⟨Try.func39,by kernel_rfl,by kernel_rfl⟩
theorem fnok40:FnOKp Try.prog (40,Try.f40):=⟨Try.func40,by kernel_rfl,by kernel_rfl⟩
theorem fnok16:FnOKp Try.prog (16,Try.f16):=⟨Try.func16,by kernel_rfl,by kernel_rfl⟩
theorem fnok64:FnOKp Try.prog (64,Try.f64):=⟨Try.func64,by kernel_rfl,by kernel_rfl⟩
theorem fnok65:FnOKp Try.prog (65,Try.f65):=⟨Try.func65,by kernel_rfl,by kernel_rfl⟩
theorem fnok62:FnOKp Try.prog (62,Try.f62):=⟨Try.func62,by kernel_rfl,by kernel_rfl⟩
theorem fnok48:FnOKp Try.prog (48,Try.f48):=⟨Try.func48,by kernel_rfl,by kernel_rfl⟩
theorem fnok61:FnOKp Try.prog (61,Try.f61):=⟨Try.func61,by kernel_rfl,by kernel_rfl⟩
theorem fnok66:FnOKp Try.prog (66,Try.f66):=⟨Try.func66,by kernel_rfl,by kernel_rfl⟩
theorem fnok67:FnOKp Try.prog (67,Try.f67):=⟨Try.func67,by kernel_rfl,by kernel_rfl⟩
theorem fnok68:FnOKp Try.prog (68,Try.f68):=⟨Try.func68,by kernel_rfl,by kernel_rfl⟩
theorem fnok69:FnOKp Try.prog (69,Try.f69):=⟨Try.func69,by kernel_rfl,by kernel_rfl⟩
theorem fnok70:FnOKp Try.prog (70,Try.f70):=⟨Try.func70,by kernel_rfl,by kernel_rfl⟩
theorem fnok60:FnOKp Try.prog (60,Try.f60):=⟨Try.func60,by kernel_rfl,by kernel_rfl⟩
theorem fnok55:FnOKp Try.prog (55,Try.f55):=⟨Try.func55,by kernel_rfl,by kernel_rfl⟩
theorem fnok56:FnOKp Try.prog (56,Try.f56):=⟨Try.func56,by kernel_rfl,by kernel_rfl⟩
theorem fnok57:FnOKp Try.prog (57,Try.f57):=⟨Try.func57,by kernel_rfl,by kernel_rfl⟩
theorem fnok58:FnOKp Try.prog (58,Try.f58):=⟨Try.func58,by kernel_rfl,by kernel_rfl⟩
theorem fnok59:FnOKp Try.prog (59,Try.f59):=⟨Try.func59,by kernel_rfl,by kernel_rfl⟩
theorem fnok71:FnOKp Try.prog (71,Try.f71):=⟨Try.func71,by kernel_rfl,by kernel_rfl⟩
theorem fnok72:FnOKp Try.prog (72,Try.f72):=⟨Try.func72,by kernel_rfl,by kernel_rfl⟩
theorem fnok43:FnOKp Try.prog (43,Try.f43):=⟨Try.func43,by kernel_rfl,by kernel_rfl⟩
theorem fnok45:FnOKp Try.prog (45,Try.f45):=⟨Try.func45,by kernel_rfl,by kernel_rfl⟩
theorem fnok44:FnOKp Try.prog (44,Try.f44):=⟨Try.func44,by kernel_rfl,by kernel_rfl⟩
theorem fnok73:FnOKp Try.prog (73,Try.f73):=⟨Try.func73,by kernel_rfl,by kernel_rfl⟩
theorem fnok74:FnOKp Try.prog (74,Try.f74):=⟨Try.func74,by kernel_rfl,by kernel_rfl⟩
theorem fnok89:FnOKp Try.prog (89,Try.f89):=⟨Try.func89,by kernel_rfl,by kernel_rfl⟩
theorem fnok88:FnOKp Try.prog (88,Try.f88):=⟨Try.func88,by kernel_rfl,by kernel_rfl⟩
theorem fnok81:FnOKp Try.prog (81,Try.f81):=⟨Try.func81,by kernel_rfl,by kernel_rfl⟩
theorem fnok90:FnOKp Try.prog (90,Try.f90):=⟨Try.func90,by kernel_rfl,by kernel_rfl⟩
theorem fnok91:FnOKp Try.prog (91,Try.f91):=⟨Try.func91,by kernel_rfl,by kernel_rfl⟩
theorem fnok92:FnOKp Try.prog (92,Try.f92):=⟨Try.func92,by kernel_rfl,by kernel_rfl⟩
theorem fnok85:FnOKp Try.prog (85,Try.f85):=⟨Try.func85,by kernel_rfl,by kernel_rfl⟩
theorem fnok93:FnOKp Try.prog (93,Try.f93):=⟨Try.func93,by kernel_rfl,by kernel_rfl⟩
theorem fnok76:FnOKp Try.prog (76,Try.f76):=⟨Try.func76,by kernel_rfl,by kernel_rfl⟩
theorem fnok77:FnOKp Try.prog (77,Try.f77):=⟨Try.func77,by kernel_rfl,by kernel_rfl⟩
theorem fnok78:FnOKp Try.prog (78,Try.f78):=⟨Try.func78,by kernel_rfl,by kernel_rfl⟩
theorem fnok95:FnOKp Try.prog (95,Try.f95):=⟨Try.func95,by kernel_rfl,by kernel_rfl⟩
theorem fnok96:FnOKp Try.prog (96,Try.f96):=⟨Try.func96,by kernel_rfl,by kernel_rfl⟩
theorem fnok97:FnOKp Try.prog (97,Try.f97):=⟨Try.func97,by kernel_rfl,by kernel_rfl⟩
theorem fnok99:FnOKp Try.prog (99,Try.f99):=⟨Try.func99,by kernel_rfl,by kernel_rfl⟩
theorem fnok98:FnOKp Try.prog (98,Try.f98):=⟨Try.func98,by kernel_rfl,by kernel_rfl⟩
theorem fnok101:FnOKp Try.prog (101,Try.f101):=⟨Try.func101,by kernel_rfl,by kernel_rfl⟩
theorem fns_all:∀ p,p∈fnT→FnOKp Try.prog p:=by
 unfold fnT
 simp only [List.forall_mem_cons]
 exact ⟨fnok6,fnok7,fnok30,fnok22,fnok19,fnok31,fnok32,fnok33,fnok34,fnok35,fnok17,fnok36,fnok12,fnok9,fnok37,fnok38,fnok39,fnok40,fnok16,fnok64,fnok65,fnok62,fnok48,fnok61,fnok66,fnok67,fnok68,fnok69,fnok70,fnok60,fnok55,fnok56,fnok57,fnok58,fnok59,fnok71,fnok72,fnok43,fnok45,fnok44,fnok73,fnok74,fnok89,fnok88,fnok81,fnok90,fnok91,fnok92,fnok85,fnok93,fnok76,fnok77,fnok78,fnok95,fnok96,fnok97,fnok99,fnok98,fnok101,fun _ h => by cases h⟩
theorem eqt70:EqtOK Try.prog 70 (flatTs (.pair (.int .i64) (.pair (.int .i64) .bool))):=eqt_struct (fs:=Try.prog.fieldsOf 70) (by kernel_rfl) (by kernel_rfl) (by kernel_rfl) (by kernel_rfl)
theorem eqtT70:(E.ti 70).bind (fun i => i.T)=some (.pair (.int .i64) (.pair (.int .i64) .bool)):=by kernel_rfl
theorem eqt_ok:∀ t i T,E.eqt t=true→E.ti t=some i→i.T=some T→EqtOK Try.prog t (flatTs T):=by
 intro t i T h hi hT
 obtain ⟨x,hx,he⟩:=List.any_eq_true.1 h
 have e:=Nat.eq_of_beq_eq_true he
 subst e
 have hb:(E.ti t).bind (fun i => i.T)=some T:=by rw [hi]; exact hT
 simp only [eqtT,List.mem_cons,List.not_mem_nil,or_false] at hx
 rcases hx with rfl
 · rw [Option.some.inj (hb.symm.trans eqtT70)]
   exact eqt70
theorem env_ok0:EnvOK Try.prog { E with adr:=fun _ => none }:=noAdr_ok (fun t i h => tiB_ok (List.all_eq_true.1 ti_all _ (assoc_mem h))) (fun f fn h => (fns_all _ (assoc_mem h)).1) (by kernel_rfl) eqt_ok
theorem adr100:AdrOK Try.prog 100 (adrWire (.pair (.sl (.int .i64)) (.pair (.sl (.int .i64)) .bool))):=wire_ok env_ok0 (fn:=Try.f100) Try.func100 (by kernel_rfl) rfl rfl rfl ⟨rfl,rfl,rfl⟩ ⟨rfl,rfl,rfl⟩ ⟨rfl,rfl,rfl⟩ ⟨rfl,rfl,rfl⟩ ⟨rfl,rfl,rfl⟩ ⟨rfl,rfl,rfl⟩ ⟨rfl,rfl,rfl⟩ rfl rfl rfl ⟨rfl,rfl,rfl⟩ ⟨rfl,rfl,rfl⟩ ⟨rfl,rfl,rfl⟩ ⟨rfl,rfl,rfl⟩ ⟨rfl,rfl,rfl⟩ ⟨rfl,rfl,rfl⟩ (is:=⟨.struct [(0,1,false),(1,1,false)],2,true,some (.pair (.sl (.pair (.int .i64) (.pair (.int .i64) .bool))) (.sl (.pair (.sl (.int .i64)) (.pair (.sl (.int .i64)) .bool)))),[.nil (.pair (.int .i64) (.pair (.int .i64) .bool)),.nil (.pair (.sl (.int .i64)) (.pair (.sl (.int .i64)) .bool))]⟩) (iw:=⟨.slice 84 (.pair (.sl (.int .i64)) (.pair (.sl (.int .i64)) .bool)),1,false,some (.sl (.pair (.sl (.int .i64)) (.pair (.sl (.int .i64)) .bool))),[.nil (.pair (.sl (.int .i64)) (.pair (.sl (.int .i64)) .bool))]⟩) (ip:=⟨.slice 70 (.pair (.int .i64) (.pair (.int .i64) .bool)),1,false,some (.sl (.pair (.int .i64) (.pair (.int .i64) .bool))),[.nil (.pair (.int .i64) (.pair (.int .i64) .bool))]⟩) (by kernel_rfl) rfl rfl (by kernel_rfl) (by kernel_rfl) rfl rfl ⟨rfl,rfl⟩ ⟨rfl,rfl⟩
theorem adr_ok:∀ g p,E.adr g=some p→AdrOK Try.prog g p:=by
 intro g p h
 change (bif Nat.beq g 100 then some (adrWire (.pair (.sl (.int .i64)) (.pair (.sl (.int .i64)) .bool))) else none)=some p at h
 cases hb:Nat.beq g 100 with
 | false => rw [hb] at h; cases h
 | true =>
   rw [hb] at h
   obtain rfl:=Option.some.inj h
   have:=Nat.eq_of_beq_eq_true hb
   subst this
   exact adr100
theorem env_ok:EnvOK Try.prog E:=⟨fun t i h => tiB_ok (List.all_eq_true.1 ti_all _ (assoc_mem h)),fun f fn h => (fns_all _ (assoc_mem h)).1,by kernel_rfl,eqt_ok,adr_ok⟩
theorem ext86_ok:∀ (cells:List Cell) (res:Val) (fin:List Cell),extClone (.pair (.int .i64) (.pair (.int .i64) .bool)) cells=some (res,fin)→∀ (G:Ctx) (vals:VS) (B:Nat→Nat) (S:Nat→Nat→BS),noRef cells→Rl G [] cells ⟨G.args,[]⟩ G.w0 vals B G.F0 S→Calls Try.prog 86 G.args G.w0 (Done G cells.length res fin) :=
 clone_ok env_ok (fn:=Try.f86) Try.func86 rfl rfl rfl rfl rfl (t:=29) (e:=70) (by kernel_rfl) (fun x K => by kernel_rfl) (by kernel_rfl) (fun x => by kernel_rfl)
theorem extf86_ok : ∃ fn, Try.prog.funcs[86]? = some fn ∧ (fn.name == "runtime.NumGoroutine") = false ∧ fn.body.isSome = true := ⟨Try.f86, Try.func86, by kernel_rfl, by kernel_rfl⟩
theorem ext87_ok:∀ (cells:List Cell) (res:Val) (fin:List Cell),extClone (.int .i64) cells=some (res,fin)→∀ (G:Ctx) (vals:VS) (B:Nat→Nat) (S:Nat→Nat→BS),noRef cells→Rl G [] cells ⟨G.args,[]⟩ G.w0 vals B G.F0 S→Calls Try.prog 87 G.args G.w0 (Done G cells.length res fin) :=
 clone_ok env_ok (fn:=Try.f87) Try.func87 rfl rfl rfl rfl rfl (t:=44) (e:=3) (by kernel_rfl) (fun x K => by kernel_rfl) (by kernel_rfl) (fun x => by kernel_rfl)
theorem extf87_ok : ∃ fn, Try.prog.funcs[87]? = some fn ∧ (fn.name == "runtime.NumGoroutine") = false ∧ fn.body.isSome = true := ⟨Try.f87, Try.func87, by kernel_rfl, by kernel_rfl⟩
theorem ext_ok : ∀ f g, E.ext f = some g → (∃ fn, Try.prog.funcs[f]? = some fn ∧ (fn.name == "runtime.NumGoroutine") = false ∧ fn.body.isSome = true) ∧
 ∀ (cells:List Cell) (res:Val) (fin:List Cell),g cells=some (res,fin)→∀ (G:Ctx) (vals:VS) (B:Nat→Nat) (S:Nat→Nat→BS),noRef cells→Rl G [] cells ⟨G.args,[]⟩ G.w0 vals B G.F0 S→Calls Try.prog f G.args G.w0 (Done G cells.length res fin):=by
 intro f g h
 have hm:=assoc_mem (l:=extT) h
 simp only [extT,List.mem_cons,List.not_mem_nil,or_false,Prod.mk.injEq] at hm
 rcases hm with ⟨rfl,rfl⟩ | ⟨rfl,rfl⟩
 · exact ⟨extf86_ok,ext86_ok⟩
 · exact ⟨extf87_ok,ext87_ok⟩
theorem fns_ok:FnsOK Try.prog E:=⟨fun f fn h => fns_all _ (assoc_mem h),ext_ok⟩
theorem own_ok:ownKnob Try.prog.godebug=none:=by kernel_rfl
theorem laid_ok:laidOutB Try.prog=true:=by kernel_rfl
end GoV
