/- A part of the proof of FnExactPlaySnap: an interpreter of the model over plain data, its soundness, and what it makes of the functions that the statement reaches. Conditions: none beyond what the given statement itself says. -/
import Derived.Test.YtbimgkhikmmhoaaTH
import Derived.Test.YtbimgkhikmmhoaaRows
set_option linter.unusedVariables false
set_option linter.unusedSimpArgs false
set_option linter.unnecessarySimpa false
set_option linter.unusedSectionVars false
/- The tables are right. -/
namespace GoV
open Go Go.Proofs
set_option maxRecDepth 100000
theorem ti_all:(tiT.all fun p => tiB Try.prog E p.1 p.2)=true:=by kernel_rfl
theorem fnok3:FnOKp Try.prog (3,Try.f3):=⟨Try.func3,by kernel_rfl,by kernel_rfl⟩
theorem fnok4:FnOKp Try.prog (4,Try.f4):=⟨Try.func4,by kernel_rfl,by kernel_rfl⟩
theorem fnok5:FnOKp Try.prog (5,Try.f5):=⟨Try.func5,by kernel_rfl,by kernel_rfl⟩
theorem fnok8:FnOKp Try.prog (8,Try.f8):=⟨Try.func8,by kernel_rfl,by kernel_rfl⟩
theorem fnok10:FnOKp Try.prog (10,Try.f10):=⟨Try.func10,by kernel_rfl,by kernel_rfl⟩
theorem fnok11:FnOKp Try.prog (11,Try.f11):=⟨Try.func11,by kernel_rfl,by kernel_rfl⟩
theorem fnok9:FnOKp Try.prog (9,Try.f9):=⟨Try.func9,by kernel_rfl,by kernel_rfl⟩
theorem fnok12:FnOKp Try.prog (12,Try.f12):=⟨Try.func12,by kernel_rfl,by kernel_rfl⟩
theorem fnok13:FnOKp Try.prog (13,Try.f13):=⟨Try.func13,by kernel_rfl,by kernel_rfl⟩
theorem fnok14:FnOKp Try.prog (14,Try.f14):=⟨Try.func14,by kernel_rfl,by kernel_rfl⟩
theorem fnok15:FnOKp Try.prog (15,Try.f15):=⟨Try.func15,by kernel_rfl,by kernel_rfl⟩
theorem fnok16:FnOKp Try.prog (16,Try.f16):=⟨Try.func16,by kernel_rfl,by kernel_rfl⟩
theorem fnok17:FnOKp Try.prog (17,Try.f17):=⟨Try.func17,by kernel_rfl,by kernel_rfl⟩
theorem fnok18:FnOKp Try.prog (18,Try.f18):=⟨Try.func18,by kernel_rfl,by kernel_rfl⟩
theorem fnok20:FnOKp Try.prog (20,Try.f20):=⟨Try.func20,by kernel_rfl,by kernel_rfl⟩
theorem fnok21:FnOKp Try.prog (21,Try.f21):=⟨Try.func21,by kernel_rfl,by kernel_rfl⟩
theorem fnok19:FnOKp Try.prog (19,Try.f19):=⟨Try.func19,by kernel_rfl,by kernel_rfl⟩
theorem fnok22:FnOKp Try.prog (22,Try.f22):=⟨Try.func22,by kernel_rfl,by kernel_rfl⟩
theorem fnok23:FnOKp Try.prog (23,Try.f23):=⟨Try.func23,by kernel_rfl,by kernel_rfl⟩
theorem fnok24:FnOKp Try.prog (24,Try.f24):=⟨Try.func24,by kernel_rfl,by kernel_rfl⟩
theorem fnok25:FnOKp Try.prog (25,Try.f25):=⟨Try.func25,by kernel_rfl,by kernel_rfl⟩
theorem fnok26:FnOKp Try.prog (26,Try.f26):=⟨Try.func26,by kernel_rfl,by kernel_rfl⟩
theorem fnok27:FnOKp Try.prog (27,Try.f27):=⟨Try.func27,by kernel_rfl,by kernel_rfl⟩
theorem fnok28:FnOKp Try.prog (28,Try.f28):=⟨Try.func28,by kernel_rfl,by kernel_rfl⟩
theorem fnok29:FnOKp Try.prog (29,Try.f29):=⟨Try.func29,by kernel_rfl,by kernel_rfl⟩
theorem fnok41:FnOKp Try.prog (41,Try.f41):=⟨Try.func41,by kernel_rfl,by kernel_rfl⟩
theorem fnok42:FnOKp Try.prog (42,Try.f42):=⟨Try.func42,by kernel_rfl,by kernel_rfl⟩
theorem fnok46:FnOKp Try.prog (46,Try.f46):=⟨Try.func46,by kernel_rfl,by kernel_rfl⟩
theorem fnok47:FnOKp Try.prog (47,Try.f47):=⟨Try.func47,by kernel_rfl,by kernel_rfl⟩
theorem fnok43:FnOKp Try.prog (43,Try.f43):=⟨Try.func43,by kernel_rfl,by kernel_rfl⟩
theorem fnok45:FnOKp Try.prog (45,Try.f45):=⟨Try.func45,by kernel_rfl,by kernel_rfl⟩
theorem fnok44:FnOKp Try.prog (44,Try.f44):=⟨Try.func44,by kernel_rfl,by kernel_rfl⟩
theorem fnok34:FnOKp Try.prog (34,Try.f34):=⟨Try.func34,by kernel_rfl,by kernel_rfl⟩
theorem fnok48:FnOKp Try.prog (48,Try.f48):=⟨Try.func48,by kernel_rfl,by kernel_rfl⟩
theorem fnok49:FnOKp Try.prog (49,Try.f49):=⟨Try.func49,by kernel_rfl,by kernel_rfl⟩
theorem fnok50:FnOKp Try.prog (50,Try.f50):=⟨Try.func50,by kernel_rfl,by kernel_rfl⟩
theorem fnok51:FnOKp Try.prog (51,Try.f51):=⟨Try.func51,by kernel_rfl,by kernel_rfl⟩
theorem fnok52:FnOKp Try.prog (52,Try.f52):=⟨Try.func52,by kernel_rfl,by kernel_rfl⟩
theorem fnok53:FnOKp Try.prog (53,Try.f53):=⟨Try.func53,by kernel_rfl,by kernel_rfl⟩
theorem fnok54:FnOKp Try.prog (54,Try.f54):=⟨Try.func54,by kernel_rfl,by kernel_rfl⟩
theorem fnok39:FnOKp Try.prog (39,Try.f39):=⟨Try.func39,by kernel_rfl,by kernel_rfl⟩
theorem fnok55:FnOKp Try.prog (55,Try.f55):=⟨Try.func55,by kernel_rfl,by kernel_rfl⟩
theorem fnok56:FnOKp Try.prog (56,Try.f56):=⟨Try.func56,by kernel_rfl,by kernel_rfl⟩
theorem fnok57:FnOKp Try.prog (57,Try.f57):=⟨Try.func57,by kernel_rfl,by kernel_rfl⟩
theorem fnok58:FnOKp Try.prog (58,Try.f58):=⟨Try.func58,by kernel_rfl,by kernel_rfl⟩
theorem fnok59:FnOKp Try.prog (59,Try.f59):=⟨Try.func59,by kernel_rfl,by kernel_rfl⟩
theorem fnok60:FnOKp Try.prog (60,Try.f60):=⟨Try.func60,by kernel_rfl,by kernel_rfl⟩
theorem fnok61:FnOKp Try.prog (61,Try.f61):=⟨Try.func61,by kernel_rfl,by kernel_rfl⟩
theorem fnok62:FnOKp Try.prog (62,Try.f62):=⟨Try.func62,by kernel_rfl,by kernel_rfl⟩
theorem fnok63:FnOKp Try.prog (63,Try.f63):=⟨Try.func63,by kernel_rfl,by kernel_rfl⟩
theorem fnok75:FnOKp Try.prog (75,Try.f75):=⟨Try.func75,by kernel_rfl,by kernel_rfl⟩
theorem fnok79:FnOKp Try.prog (79,Try.f79):=⟨Try.func79,by kernel_rfl,by kernel_rfl⟩
theorem fnok80:FnOKp Try.prog (80,Try.f80):=⟨Try.func80,by kernel_rfl,by kernel_rfl⟩
theorem fnok76:FnOKp Try.prog (76,Try.f76):=⟨Try.func76,by kernel_rfl,by kernel_rfl⟩
theorem fnok77:FnOKp Try.prog (77,Try.f77):=⟨Try.func77,by kernel_rfl,by kernel_rfl⟩
theorem fnok78:FnOKp Try.prog (78,Try.f78):=⟨Try.func78,by kernel_rfl,by kernel_rfl⟩
theorem fnok68:FnOKp Try.prog (68,Try.f68):=⟨Try.func68,by kernel_rfl,by kernel_rfl⟩
theorem fnok69:FnOKp Try.prog (69,Try.f69):=⟨Try.func69,by kernel_rfl,by kernel_rfl⟩
theorem fnok70:FnOKp Try.prog (70,Try.f70):=⟨Try.func70,by kernel_rfl,by kernel_rfl⟩
theorem fnok67:FnOKp Try.prog (67,Try.f67):=⟨Try.func67,by kernel_rfl,by kernel_rfl⟩
theorem fnok81:FnOKp Try.prog (81,Try.f81):=⟨Try.func81,by kernel_rfl,by kernel_rfl⟩
theorem fnok82:FnOKp Try.prog (82,Try.f82):=⟨Try.func82,by kernel_rfl,by kernel_rfl⟩
theorem fnok83:FnOKp Try.prog (83,Try.f83):=⟨Try.func83,by kernel_rfl,by kernel_rfl⟩
theorem fnok84:FnOKp Try.prog (84,Try.f84):=⟨Try.func84,by kernel_rfl,by kernel_rfl⟩
theorem fnok85:FnOKp Try.prog (85,Try.f85):=⟨Try.func85,by kernel_rfl,by kernel_rfl⟩
theorem fnok88:FnOKp Try.prog (88,Try.f88):=⟨Try.func88,by kernel_rfl,by kernel_rfl⟩
theorem fnok94:FnOKp Try.prog (94,Try.f94):=⟨Try.func94,by kernel_rfl,by kernel_rfl⟩
theorem fnok90:FnOKp Try.prog (90,Try.f90):=⟨Try.func90,by kernel_rfl,by kernel_rfl⟩
theorem fnok91:FnOKp Try.prog (91,Try.f91):=⟨Try.func91,by kernel_rfl,by kernel_rfl⟩
theorem fnok92:FnOKp Try.prog (92,Try.f92):=⟨Try.func92,by kernel_rfl,by kernel_rfl⟩
theorem fnok95:FnOKp Try.prog (95,Try.f95):=⟨Try.func95,by kernel_rfl,by kernel_rfl⟩
theorem fnok96:FnOKp Try.prog (96,Try.f96):=⟨Try.func96,by kernel_rfl,by kernel_rfl⟩
theorem fnok97:FnOKp Try.prog (97,Try.f97):=⟨Try.func97,by kernel_rfl,by kernel_rfl⟩
theorem fnok99:FnOKp Try.prog (99,Try.f99):=⟨Try.func99,by kernel_rfl,by kernel_rfl⟩
theorem fnok98:FnOKp Try.prog (98,Try.f98):=⟨Try.func98,by kernel_rfl,by kernel_rfl⟩
theorem fnok101:FnOKp Try.prog (101,Try.f101):=⟨Try.func101,by kernel_rfl,by kernel_rfl⟩
theorem fns_all:∀ p,p∈fnT→FnOKp Try.prog p:=by
 unfold fnT
 simp only [List.forall_mem_cons]
 exact ⟨fnok3,fnok4,fnok5,fnok8,fnok10,fnok11,fnok9,fnok12,fnok13,fnok14,fnok15,fnok16,fnok17,fnok18,fnok20,fnok21,fnok19,fnok22,fnok23,fnok24,fnok25,fnok26,fnok27,fnok28,fnok29,fnok41,fnok42,fnok46,fnok47,fnok43,fnok45,fnok44,fnok34,fnok48,fnok49,fnok50,fnok51,fnok52,fnok53,fnok54,fnok39,fnok55,fnok56,fnok57,fnok58,fnok59,fnok60,fnok61,fnok62,fnok63,fnok75,fnok79,fnok80,fnok76,fnok77,fnok78,fnok68,fnok69,fnok70,fnok67,fnok81,fnok82,fnok83,fnok84,fnok85,fnok88,fnok94,fnok90,fnok91,fnok92,fnok95,fnok96,fnok97,fnok99,fnok98,fnok101,fun _ h => by cases h⟩
theorem env_ok0:EnvOK Try.prog { E with adr:=fun _ => none }:=noAdr_ok (fun t i h => tiB_ok (List.all_eq_true.1 ti_all _ (assoc_mem h))) (fun f fn h => (fns_all _ (assoc_mem h)).1) (by kernel_rfl) (fun t _ _ h => by cases h)
theorem adr100:AdrOK Try.prog 100 (adrWire (.pair (.sl (.int .i64)) (.pair (.sl (.int .i64)) .bool))):=wire_ok env_ok0 (fn:=Try.f100) Try.func100 (by kernel_rfl) rfl rfl rfl ⟨rfl,rfl,rfl⟩ ⟨rfl,rfl,rfl⟩ ⟨rfl,rfl,rfl⟩ ⟨rfl,rfl,rfl⟩ ⟨rfl,rfl,rfl⟩ ⟨rfl,rfl,rfl⟩ ⟨rfl,rfl,rfl⟩ rfl rfl rfl ⟨rfl,rfl,rfl⟩ ⟨rfl,rfl,rfl⟩ ⟨rfl,rfl,rfl⟩ ⟨rfl,rfl,rfl⟩ ⟨rfl,rfl,rfl⟩ ⟨rfl,rfl,rfl⟩ (is:=⟨.struct [(0,1,false),(1,1,false)],2,true,some (.pair (.sl (.pair (.int .i64) (.pair (.int .i64) .bool))) (.sl (.pair (.sl (.int .i64)) (.pair (.sl (.int .i64)) .bool)))),[.nil (.pair (.int .i64) (.pair (.int .i64) .bool)),.nil (.pair (.sl (.int .i64)) (.pair (.sl (.int .i64)) .bool))]⟩) (iw:=⟨.slice 84 (.pair (.sl (.int .i64)) (.pair (.sl (.int .i64)) .bool)),1,false,some (.sl (.pair (.sl (.int .i64)) (.pair (.sl (.int .i64)) .bool))),[.nil (.pair (.sl (.int .i64)) (.pair (.sl (.int .i64)) .bool))]⟩) (ip:=⟨.slice 70 (.pair (.int .i64) (.pair (.int .i64) .bool)),1,false,some (.sl (.pair (.int .i64) (.pair (.int .i64) .bool))),[.nil (.pair (.int .i64) (.pair (.int .i64) .bool))]⟩) (by kernel_rfl) rfl rfl (by kernel_rfl) (by kernel_rfl) rfl rfl ⟨rfl,rfl⟩ ⟨rfl,rfl⟩
theorem adr_ok:∀ g p,E.adr g=some p→AdrOK Try.prog g p:=by
 intro g p h
 change (bif Nat.beq g 100 then some (adrWire (.pair (.sl (.int .i64)) (.pair (.sl (.int .i64)) .bool))) else none)=some p at h
 cases hb:Nat.beq g 100 with
 | false => rw [hb] at h; cases h
 | true =>
   rw [hb] at h
   obtain rfl:=Option.some.inj h
   have:=Nat.eq_of_beq_eq_true hb
   subst this
   exact adr100
theorem env_ok:EnvOK Try.prog E:=⟨fun t i h => tiB_ok (List.all_eq_true.1 ti_all _ (assoc_mem h)),fun f fn h => (fns_all _ (assoc_mem h)).1,by kernel_rfl,(fun t _ _ h => by cases h),adr_ok⟩
theorem ext86_ok:∀ (cells:List Cell) (res:Val) (fin:List Cell),extClone (.pair (.int .i64) (.pair (.int .i64) .bool)) cells=some (res,fin)→∀ (G:Ctx) (vals:VS) (B:Nat→Nat) (S:Nat→Nat→BS),noRef cells→Rl G [] cells ⟨G.args,[]⟩ G.w0 vals B G.F0 S→Calls Try.prog 86 G.args G.w0 (Done G cells.length res fin) :=
 clone_ok env_ok (fn:=Try.f86) Try.func86 rfl rfl rfl rfl rfl (t:=29) (e:=70) (by kernel_rfl) (fun x K => by kernel_rfl) (by kernel_rfl) (fun x => by kernel_rfl)
theorem extf86_ok : ∃ fn, Try.prog.funcs[86]? = some fn ∧ (fn.name == "runtime.NumGoroutine") = false ∧ fn.body.isSome = true := ⟨Try.f86, Try.func86, by kernel_rfl, by kernel_rfl⟩
theorem ext87_ok:∀ (cells:List Cell) (res:Val) (fin:List Cell),extClone (.int .i64) cells=some (res,fin)→∀ (G:Ctx) (vals:VS) (B:Nat→Nat) (S:Nat→Nat→BS),noRef cells→Rl G [] cells ⟨G.args,[]⟩ G.w0 vals B G.F0 S→Calls Try.prog 87 G.args G.w0 (Done G cells.length res fin) :=
 clone_ok env_ok (fn:=Try.f87) Try.func87 rfl rfl rfl rfl rfl (t:=44) (e:=3) (by kernel_rfl) (fun x K => by kernel_rfl) (by kernel_rfl) (fun x => by kernel_rfl)
theorem extf87_ok : ∃ fn, Try.prog.funcs[87]? = some fn ∧ (fn.name == "runtime.NumGoroutine") = false ∧ fn.body.isSome = true := ⟨Try.f87, Try.func87, by kernel_rfl, by kernel_rfl⟩
theorem ext_ok : ∀ f g, E.ext f = some g → (∃ fn, Try.prog.funcs[f]? = some fn ∧ (fn.name == "runtime.NumGoroutine") = false ∧ fn.body.isSome = true) ∧
 ∀ (cells:List Cell) (res:Val) (fin:List Cell),g cells=some (res,fin)→∀ (G:Ctx) (vals:VS) (B:Nat→Nat) (S:Nat→Nat→BS),noRef cells→Rl G [] cells ⟨G.args,[]⟩ G.w0 vals B G.F0 S→Calls Try.prog f G.args G.w0 (Done G cells.length res fin):=by
 intro f g h
 have hm:=assoc_mem (l:=extT) h
 simp only [extT,List.mem_cons,List.not_mem_nil,or_false,Prod.mk.injEq] at hm
 rcases hm with ⟨rfl,rfl⟩ | ⟨rfl,rfl⟩
 · exact ⟨extf86_ok,ext86_ok⟩
 · exact ⟨extf87_ok,ext87_ok⟩
theorem fns_ok:FnsOK Try.prog E:=⟨fun f fn h => fns_all _ (assoc_mem h),ext_ok⟩
theorem own_ok:ownKnob Try.prog.godebug=none:=by kernel_rfl
theorem laid_ok:laidOutB Try.prog=true:=by kernel_rfl
end GoV
