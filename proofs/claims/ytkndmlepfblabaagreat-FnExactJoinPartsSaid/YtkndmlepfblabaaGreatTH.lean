/- A part of the proof of FnExactJoinParts: an interpreter of the model over plain data, its soundness, and what it makes of the functions that the statement reaches. Conditions: none beyond what the given statement itself says. -/
import Derived.Test.YtkndmlepfblabaaGreatTG
import Derived.Test.YtkndmlepfblabaaGreatRows
set_option linter.unusedVariables false
set_option linter.unusedSimpArgs false
set_option linter.unnecessarySimpa false
set_option linter.unusedSectionVars false
/- The tables are right. -/
namespace GoV
open Go Go.Proofs
set_option maxRecDepth 100000
theorem ti_all:(tiT.all fun p => tiB Tryz.prog E p.1 p.2)=true:=by kernel_rfl
theorem fnok3:FnOKp Tryz.prog (3,Tryz.f3):=⟨Tryz.func3,by kernel_rfl,by kernel_rfl⟩
theorem fnok4:FnOKp Tryz.prog (4,Tryz.f4):=⟨Tryz.func4,by kernel_rfl,by kernel_rfl⟩
theorem fnok5:FnOKp Tryz.prog (5,Tryz.f5):=⟨Tryz.func5,by kernel_rfl,by kernel_rfl⟩
theorem fnok7:FnOKp Tryz.prog (7,Tryz.f7):=⟨Tryz.func7,by kernel_rfl,by kernel_rfl⟩
theorem fnok8:FnOKp Tryz.prog (8,Tryz.f8):=⟨Tryz.func8,by kernel_rfl,by kernel_rfl⟩
theorem fnok6:FnOKp Tryz.prog (6,Tryz.f6):=⟨Tryz.func6,by kernel_rfl,by kernel_rfl⟩
theorem fnok9:FnOKp Tryz.prog (9,Tryz.f9):=⟨Tryz.func9,by kernel_rfl,by kernel_rfl⟩
theorem fnok10:FnOKp Tryz.prog (10,Tryz.f10):=⟨Tryz.func10,by kernel_rfl,by kernel_rfl⟩
theorem fnok11:FnOKp Tryz.prog (11,Tryz.f11):=⟨Tryz.func11,by kernel_rfl,by kernel_rfl⟩
theorem fnok12:FnOKp Tryz.prog (12,Tryz.f12):=⟨Tryz.func12,by kernel_rfl,by kernel_rfl⟩
theorem fnok13:FnOKp Tryz.prog (13,Tryz.f13):=⟨Tryz.func13,by kernel_rfl,by kernel_rfl⟩
theorem fnok14:FnOKp Tryz.prog (14,Tryz.f14):=⟨Tryz.func14,by kernel_rfl,by kernel_rfl⟩
theorem fnok15:FnOKp Tryz.prog (15,Tryz.f15):=⟨Tryz.func15,by kernel_rfl,by kernel_rfl⟩
theorem fnok16:FnOKp Tryz.prog (16,Tryz.f16):=⟨Tryz.func16,by kernel_rfl,by kernel_rfl⟩
theorem fnok17:FnOKp Tryz.prog (17,Tryz.f17):=⟨Tryz.func17,by kernel_rfl,by kernel_rfl⟩
theorem fnok18:FnOKp Tryz.prog (18,Tryz.f18):=⟨Tryz.func18,by kernel_rfl,by kernel_rfl⟩
theorem fnok25:FnOKp Tryz.prog (25,Tryz.f25):=⟨Tryz.func25,by kernel_rfl,by kernel_rfl⟩
theorem fnok26:FnOKp Tryz.prog (26,Tryz.f26):=⟨Tryz.func26,by kernel_rfl,by kernel_rfl⟩
theorem fnok19:FnOKp Tryz.prog (19,Tryz.f19):=⟨Tryz.func19,by kernel_rfl,by kernel_rfl⟩
theorem fnok20:FnOKp Tryz.prog (20,Tryz.f20):=⟨Tryz.func20,by kernel_rfl,by kernel_rfl⟩
theorem fnok21:FnOKp Tryz.prog (21,Tryz.f21):=⟨Tryz.func21,by kernel_rfl,by kernel_rfl⟩
theorem fnok22:FnOKp Tryz.prog (22,Tryz.f22):=⟨Tryz.func22,by kernel_rfl,by kernel_rfl⟩
theorem fnok23:FnOKp Tryz.prog (23,Tryz.f23):=⟨Tryz.func23,by kernel_rfl,by kernel_rfl⟩
theorem fnok24:FnOKp Tryz.prog (24,Tryz.f24):=⟨Tryz.func24,by kernel_rfl,by kernel_rfl⟩
theorem fnok27:FnOKp Tryz.prog (27,Tryz.f27):=⟨Tryz.func27,by kernel_rfl,by kernel_rfl⟩
theorem fnok28:FnOKp Tryz.prog (28,Tryz.f28):=⟨Tryz.func28,by kernel_rfl,by kernel_rfl⟩
theorem fnok29:FnOKp Tryz.prog (29,Tryz.f29):=⟨Tryz.func29,by kernel_rfl,by kernel_rfl⟩
theorem fnok30:FnOKp Tryz.prog (30,Tryz.f30):=⟨Tryz.func30,by kernel_rfl,by kernel_rfl⟩
theorem fnok31:FnOKp Tryz.prog (31,Tryz.f31):=⟨Tryz.func31,by kernel_rfl,by kernel_rfl⟩
theorem fnok33:FnOKp Tryz.prog (33,Tryz.f33):=⟨Tryz.func33,by kernel_rfl,by kernel_rfl⟩
theorem fnok35:FnOKp Tryz.prog (35,Tryz.f35):=⟨Tryz.func35,by kernel_rfl,by kernel_rfl⟩
theorem fnok34:FnOKp Tryz.prog (34,Tryz.f34):=⟨Tryz.func34,by kernel_rfl,by kernel_rfl⟩
theorem fnok36:FnOKp Tryz.prog (36,Tryz.f36):=⟨Tryz.func36,by kernel_rfl,by kernel_rfl⟩
theorem fnok37:FnOKp Tryz.prog (37,Tryz.f37):=⟨Tryz.func37,by kernel_rfl,by kernel_rfl⟩
theorem fnok38:FnOKp Tryz.prog (38,Tryz.f38):=⟨Tryz.func38,by kernel_rfl,by kernel_rfl⟩
theorem fnok39:FnOKp Tryz.prog (39,Tryz.f39):=⟨Tryz.func39,by kernel_rfl,by kernel_rfl⟩
theorem fnok40:FnOKp Tryz.prog (40,Tryz.f40):=⟨Tryz.func40,by kernel_rfl,by kernel_rfl⟩
theorem fnok41:FnOKp Tryz.prog (41,Tryz.f41):=⟨Tryz.func41,by kernel_rfl,by kernel_rfl⟩
theorem fnok49:FnOKp Tryz.prog (49,Tryz.f49):=⟨Tryz.func49,by kernel_rfl,by kernel_rfl⟩
theorem fnok42:FnOKp Tryz.prog (42,Tryz.f42):=⟨Tryz.func42,by kernel_rfl,by kernel_rfl⟩
theorem fnok43:FnOKp Tryz.prog (43,Tryz.f43):=⟨Tryz.func43,by kernel_rfl,by kernel_rfl⟩
theorem fnok44:FnOKp Tryz.prog (44,Tryz.f44):=⟨Tryz.func44,by kernel_rfl,by kernel_rfl⟩
theorem fnok45:FnOKp Tryz.prog (45,Tryz.f45):=⟨Tryz.func45,by kernel_rfl,by kernel_rfl⟩
theorem fnok46:FnOKp Tryz.prog (46,Tryz.f46):=⟨Tryz.func46,by kernel_rfl,by kernel_rfl⟩
theorem fnok47:FnOKp Tryz.prog (47,Tryz.f47):=⟨Tryz.func47,by kernel_rfl,by kernel_rfl⟩
theorem fnok48:FnOKp Tryz.prog (48,Tryz.f48):=⟨Tryz.func48,by kernel_rfl,by kernel_rfl⟩
theorem fnok50:FnOKp Tryz.prog (50,Tryz.f50):=⟨Tryz.func50,by kernel_rfl,by kernel_rfl⟩
theorem fnok51:FnOKp Tryz.prog (51,Tryz.f51):=⟨Tryz.func51,by kernel_rfl,by kernel_rfl⟩
theorem fnok52:FnOKp Tryz.prog (52,Tryz.f52):=⟨Tryz.func52,by kernel_rfl,by kernel_rfl⟩
theorem fnok53:FnOKp Tryz.prog (53,Tryz.f53):=⟨Tryz.func53,by kernel_rfl,by kernel_rfl⟩
theorem fnok54:FnOKp Tryz.prog (54,Tryz.f54):=⟨Tryz.func54,by kernel_rfl,by kernel_rfl⟩
theorem fnok55:FnOKp Tryz.prog (55,Tryz.f55):=⟨Tryz.func55,by kernel_rfl,by kernel_rfl⟩
theorem fnok56:FnOKp Tryz.prog (56,Tryz.f56):=⟨Tryz.func56,by kernel_rfl,by kernel_rfl⟩
theorem fnok57:FnOKp Tryz.prog (57,Tryz.f57):=⟨Tryz.func57,by kernel_rfl,by kernel_rfl⟩
theorem fnok59:FnOKp Tryz.prog (59,Tryz.f59):=⟨Tryz.func59,by kernel_rfl,by kernel_rfl⟩
theorem fnok58:FnOKp Tryz.prog (58,Tryz.f58):=⟨Tryz.func58,by kernel_rfl,by kernel_rfl⟩
theorem fnok61:FnOKp Tryz.prog (61,Tryz.f61):=⟨Tryz.func61,by kernel_rfl,by kernel_rfl⟩
theorem fnok60:FnOKp Tryz.prog (60,Tryz.f60):=⟨Tryz.func60,by kernel_rfl,by kernel_rfl⟩
theorem fnok62:FnOKp Tryz.prog (62,Tryz.f62):=⟨Tryz.func62,by kernel_rfl,by kernel_rfl⟩
theorem fnok63:FnOKp Tryz.prog (63,Tryz.f63):=⟨Tryz.func63,by kernel_rfl,by kernel_rfl⟩
theorem fnok64:FnOKp Tryz.prog (64,Tryz.f64):=⟨Tryz.func64,by kernel_rfl,by kernel_rfl⟩
theorem fnok65:FnOKp Tryz.prog (65,Tryz.f65):=⟨Tryz.func65,by kernel_rfl,by kernel_rfl⟩
theorem fnok67:FnOKp Tryz.prog (67,Tryz.f67):=⟨Tryz.func67,by kernel_rfl,by kernel_rfl⟩
theorem fnok66:FnOKp Tryz.prog (66,Tryz.f66):=⟨Tryz.func66,by kernel_rfl,by kernel_rfl⟩
theorem fnok68:FnOKp Tryz.prog (68,Tryz.f68):=⟨Tryz.func68,by kernel_rfl,by kernel_rfl⟩
theorem fnok69:FnOKp Tryz.prog (69,Tryz.f69):=⟨Tryz.func69,by kernel_rfl,by kernel_rfl⟩
theorem fnok70:FnOKp Tryz.prog (70,Tryz.f70):=⟨Tryz.func70,by kernel_rfl,by kernel_rfl⟩
theorem fnok71:FnOKp Tryz.prog (71,Tryz.f71):=⟨Tryz.func71,by kernel_rfl,by kernel_rfl⟩
theorem fnok72:FnOKp Tryz.prog (72,Tryz.f72):=⟨Tryz.func72,by kernel_rfl,by kernel_rfl⟩
theorem fnok74:FnOKp Tryz.prog (74,Tryz.f74):=⟨Tryz.func74,by kernel_rfl,by kernel_rfl⟩
theorem fnok73:FnOKp Tryz.prog (73,Tryz.f73):=⟨Tryz.func73,by kernel_rfl,by kernel_rfl⟩
theorem fnok76:FnOKp Tryz.prog (76,Tryz.f76):=⟨Tryz.func76,by kernel_rfl,by kernel_rfl⟩
theorem fnok75:FnOKp Tryz.prog (75,Tryz.f75):=⟨Tryz.func75,by kernel_rfl,by kernel_rfl⟩
theorem fnok77:FnOKp Tryz.prog (77,Tryz.f77):=⟨Tryz.func77,by kernel_rfl,by kernel_rfl⟩
theorem fnok78:FnOKp Tryz.prog (78,Tryz.f78):=⟨Tryz.func78,by kernel_rfl,by kernel_rfl⟩
theorem fnok79:FnOKp Tryz.prog (79,Tryz.f79):=⟨Tryz.func79,by kernel_rfl,by kernel_rfl⟩
theorem fnok80:FnOKp Tryz.prog (80,Tryz.f80):=⟨Tryz.func80,by kernel_rfl,by kernel_rfl⟩
theorem fnok81:FnOKp Tryz.prog (81,Tryz.f81):=⟨Tryz.func81,by kernel_rfl,by kernel_rfl⟩
theorem fnok82:FnOKp Tryz.prog (82,Tryz.f82):=⟨Tryz.func82,by kernel_rfl,by kernel_rfl⟩
theorem fnok83:FnOKp Tryz.prog (83,Tryz.f83):=⟨Tryz.func83,by kernel_rfl,by kernel_rfl⟩
theorem fnok84:FnOKp Tryz.prog (84,Tryz.f84):=⟨Tryz.func84,by kernel_rfl,by kernel_rfl⟩
theorem fnok85:FnOKp Tryz.prog (85,Tryz.f85):=⟨Tryz.func85,by kernel_rfl,by kernel_rfl⟩
theorem fnok86:FnOKp Tryz.prog (86,Tryz.f86):=⟨Tryz.func86,by kernel_rfl,by kernel_rfl⟩
theorem fnok87:FnOKp Tryz.prog (87,Tryz.f87):=⟨Tryz.func87,by kernel_rfl,by kernel_rfl⟩
theorem fnok88:FnOKp Tryz.prog (88,Tryz.f88):=⟨Tryz.func88,by kernel_rfl,by kernel_rfl⟩
theorem fnok89:FnOKp Tryz.prog (89,Tryz.f89):=⟨Tryz.func89,by kernel_rfl,by kernel_rfl⟩
theorem fnok90:FnOKp Tryz.prog (90,Tryz.f90):=⟨Tryz.func90,by kernel_rfl,by kernel_rfl⟩
theorem fnok91:FnOKp Tryz.prog (91,Tryz.f91):=⟨Tryz.func91,by kernel_rfl,by kernel_rfl⟩
theorem fnok92:FnOKp Tryz.prog (92,Tryz.f92):=⟨Tryz.func92,by kernel_rfl,by kernel_rfl⟩
theorem fnok93:FnOKp Tryz.prog (93,Tryz.f93):=⟨Tryz.func93,by kernel_rfl,by kernel_rfl⟩
theorem fnok94:FnOKp Tryz.prog (94,Tryz.f94):=⟨Tryz.func94,by kernel_rfl,by kernel_rfl⟩
theorem fnok95:FnOKp Tryz.prog (95,Tryz.f95):=⟨Tryz.func95,by kernel_rfl,by kernel_rfl⟩
theorem fnok96:FnOKp Tryz.prog (96,Tryz.f96):=⟨Tryz.func96,by kernel_rfl,by kernel_rfl⟩
theorem fnok97:FnOKp Tryz.prog (97,Tryz.f97):=⟨Tryz.func97,by kernel_rfl,by kernel_rfl⟩
theorem fnok98:FnOKp Tryz.prog (98,Tryz.f98):=⟨Tryz.func98,by kernel_rfl,by kernel_rfl⟩
theorem fnok100:FnOKp Tryz.prog (100,Tryz.f100):=⟨Tryz.func100,by kernel_rfl,by kernel_rfl⟩
theorem fnok99:FnOKp Tryz.prog (99,Tryz.f99):=⟨Tryz.func99,by kernel_rfl,by kernel_rfl⟩
theorem fnok101:FnOKp Tryz.prog (101,Tryz.f101):=⟨Tryz.func101,by kernel_rfl,by kernel_rfl⟩
theorem fnok102:FnOKp Tryz.prog (102,Tryz.f102):=⟨Tryz.func102,by kernel_rfl,by kernel_rfl⟩
theorem fnok103:FnOKp Tryz.prog (103,Tryz.f103):=⟨Tryz.func103,by kernel_rfl,by kernel_rfl⟩
theorem fnok104:FnOKp Tryz.prog (104,Tryz.f104):=⟨Tryz.func104,by kernel_rfl,by kernel_rfl⟩
theorem fns_all:∀ p,p∈fnT→FnOKp Tryz.prog p:=by
 unfold fnT
 simp only [List.forall_mem_cons]
 exact ⟨fnok3,fnok4,fnok5,fnok7,fnok8,fnok6,fnok9,fnok10,fnok11,fnok12,fnok13,fnok14,fnok15,fnok16,fnok17,fnok18,fnok25,fnok26,fnok19,fnok20,fnok21,fnok22,fnok23,fnok24,fnok27,fnok28,fnok29,fnok30,fnok31,fnok33,fnok35,fnok34,fnok36,fnok37,fnok38,fnok39,fnok40,fnok41,fnok49,fnok42,fnok43,fnok44,fnok45,fnok46,fnok47,fnok48,fnok50,fnok51,fnok52,fnok53,fnok54,fnok55,fnok56,fnok57,fnok59,fnok58,fnok61,fnok60,fnok62,fnok63,fnok64,fnok65,fnok67,fnok66,fnok68,fnok69,fnok70,fnok71,fnok72,fnok74,fnok73,fnok76,fnok75,fnok77,fnok78,fnok79,fnok80,fnok81,fnok82,fnok83,fnok84,fnok85,fnok86,fnok87,fnok88,fnok89,fnok90,fnok91,fnok92,fnok93,fnok94,fnok95,fnok96,fnok97,fnok98,fnok100,fnok99,fnok101,fnok102,fnok103,fnok104,fun _ h => by cases h⟩
theorem env_ok:EnvOK Tryz.prog E:=⟨fun t i h => tiB_ok (List.all_eq_true.1 ti_all _ (assoc_mem h)),fun f fn h => (fns_all _ (assoc_mem h)).1,by kernel_rfl,fun t _ _ h => by cases h⟩
theorem ext32_ok:∀ (cells:List Cell) (res:Val) (fin:List Cell),extClone (.int .i64) cells=some (res,fin)→∀ (G:Ctx) (vals:VS) (B:Nat→Nat) (S:Nat→Nat→BS),noRef cells→Rl G [] cells ⟨G.args,[]⟩ G.w0 vals B G.F0 S→Calls Tryz.prog 32 G.args G.w0 (Done G cells.length res fin) :=
 clone_ok env_ok (fn:=Tryz.f32) Tryz.func32 rfl rfl rfl rfl rfl (t:=45) (e:=3) (by kernel_rfl) (fun x K => by kernel_rfl) (by kernel_rfl) (fun x => by kernel_rfl)
theorem extf32_ok : ∃ fn, Tryz.prog.funcs[32]? = some fn ∧ (fn.name == "runtime.NumGoroutine") = false ∧ fn.body.isSome = true := ⟨Tryz.f32, Tryz.func32, by kernel_rfl, by kernel_rfl⟩
theorem ext_ok : ∀ f g, E.ext f = some g → (∃ fn, Tryz.prog.funcs[f]? = some fn ∧ (fn.name == "runtime.NumGoroutine") = false ∧ fn.body.isSome = true) ∧
 ∀ (cells:List Cell) (res:Val) (fin:List Cell),g cells=some (res,fin)→∀ (G:Ctx) (vals:VS) (B:Nat→Nat) (S:Nat→Nat→BS),noRef cells→Rl G [] cells ⟨G.args,[]⟩ G.w0 vals B G.F0 S→Calls Tryz.prog f G.args G.w0 (Done G cells.length res fin):=by
 intro f g h
 have hm:=assoc_mem (l:=extT) h
 simp only [extT,List.mem_cons,List.not_mem_nil,or_false,Prod.mk.injEq] at hm
 rcases hm with ⟨rfl,rfl⟩
 · exact ⟨extf32_ok,ext32_ok⟩
theorem fns_ok:FnsOK Tryz.prog E:=⟨fun f fn h => fns_all _ (assoc_mem h),ext_ok⟩
theorem own_ok:ownKnob Tryz.prog.godebug=none:=by kernel_rfl
theorem laid_ok:laidOutB Tryz.prog=true:=by kernel_rfl
end GoV
