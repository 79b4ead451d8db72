/- A part of the proof of FnExactConflictsOf: an interpreter of the model over plain data, its soundness, and what it makes of the functions that the statement reaches. Conditions: none beyond what the given statement itself says. -/
import Derived.Test.YtnelnnjegledcaaTG
import Derived.Test.YtnelnnjegledcaaRows
set_option linter.unusedVariables false
set_option linter.unusedSimpArgs false
set_option linter.unnecessarySimpa false
set_option linter.unusedSectionVars false
/- The tables are right. -/
namespace GoV
open Go Go.Proofs
set_option maxRecDepth 100000
theorem ti_all:(tiT.all fun p => tiB Try.prog E p.1 p.2)=true:=by kernel_rfl
theorem fnok3:FnOKp Try.prog (3,Try.f3):=⟨Try.func3,by kernel_rfl,by kernel_rfl⟩
theorem fnok4:FnOKp Try.prog (4,Try.f4):=⟨Try.func4,by kernel_rfl,by kernel_rfl⟩
theorem fnok6:FnOKp Try.prog (6,Try.f6):=⟨Try.func6,by kernel_rfl,by kernel_rfl⟩
theorem fnok5:FnOKp Try.prog (5,Try.f5):=⟨Try.func5,by kernel_rfl,by kernel_rfl⟩
theorem fnok7:FnOKp Try.prog (7,Try.f7):=⟨Try.func7,by kernel_rfl,by kernel_rfl⟩
theorem fnok8:FnOKp Try.prog (8,Try.f8):=⟨Try.func8,by kernel_rfl,by kernel_rfl⟩
theorem fnok9:FnOKp Try.prog (9,Try.f9):=⟨Try.func9,by kernel_rfl,by kernel_rfl⟩
theorem fnok10:FnOKp Try.prog (10,Try.f10):=⟨Try.func10,by kernel_rfl,by kernel_rfl⟩
theorem fnok11:FnOKp Try.prog (11,Try.f11):=⟨Try.func11,by kernel_rfl,by kernel_rfl⟩
theorem fnok12:FnOKp Try.prog (12,Try.f12):=⟨Try.func12,by kernel_rfl,by kernel_rfl⟩
theorem fnok15:FnOKp Try.prog (15,Try.f15):=⟨Try.func15,by kernel_rfl,by kernel_rfl⟩
theorem fnok13:FnOKp Try.prog (13,Try.f13):=⟨Try.func13,by kernel_rfl,by kernel_rfl⟩
theorem fnok14:FnOKp Try.prog (14,Try.f14):=⟨Try.func14,by kernel_rfl,by kernel_rfl⟩
theorem fnok16:FnOKp Try.prog (16,Try.f16):=⟨Try.func16,by kernel_rfl,by kernel_rfl⟩
theorem fnok17:FnOKp Try.prog (17,Try.f17):=⟨Try.func17,by kernel_rfl,by kernel_rfl⟩
theorem fnok18:FnOKp Try.prog (18,Try.f18):=⟨Try.func18,by kernel_rfl,by kernel_rfl⟩
theorem fnok19:FnOKp Try.prog (19,Try.f19):=⟨Try.func19,by kernel_rfl,by kernel_rfl⟩
theorem fnok20:FnOKp Try.prog (20,Try.f20):=⟨Try.func20,by kernel_rfl,by kernel_rfl⟩
theorem fnok21:FnOKp Try.prog (21,Try.f21):=⟨Try.func21,by kernel_rfl,by kernel_rfl⟩
theorem fnok22:FnOKp Try.prog (22,Try.f22):=⟨Try.func22,by kernel_rfl,by kernel_rfl⟩
theorem fnok23:FnOKp Try.prog (23,Try.f23):=⟨Try.func23,by kernel_rfl,by kernel_rfl⟩
theorem fnok24:FnOKp Try.prog (24,Try.f24):=⟨Try.func24,by kernel_rfl,by kernel_rfl⟩
theorem fnok25:FnOKp Try.prog (25,Try.f25):=⟨Try.func25,by kernel_rfl,by kernel_rfl⟩
theorem fnok26:FnOKp Try.prog (26,Try.f26):=⟨Try.func26,by kernel_rfl,by kernel_rfl⟩
theorem fnok27:FnOKp Try.prog (27,Try.f27):=⟨Try.func27,by kernel_rfl,by kernel_rfl⟩
theorem fnok28:FnOKp Try.prog (28,Try.f28):=⟨Try.func28,by kernel_rfl,by kernel_rfl⟩
theorem fnok29:FnOKp Try.prog (29,Try.f29):=⟨Try.func29,by kernel_rfl,by kernel_rfl⟩
theorem fnok31:FnOKp Try.prog (31,Try.f31):=⟨Try.func31,by kernel_rfl,by kernel_rfl⟩
theorem fnok30:FnOKp Try.prog (30,Try.f30):=⟨Try.func30,by kernel_rfl,by kernel_rfl⟩
theorem fnok32:FnOKp Try.prog (32,Try.f32):=⟨Try.func32,by kernel_rfl,by kernel_rfl⟩
theorem fnok33:FnOKp Try.prog (33,Try.f33):=⟨Try.func33,by kernel_rfl,by kernel_rfl⟩
theorem fnok34:FnOKp Try.prog (34,Try.f34):=⟨Try.func34,by kernel_rfl,by kernel_rfl⟩
theorem fns_all:∀ p,p∈fnT→FnOKp Try.prog p:=by
 unfold fnT
 simp only [List.forall_mem_cons]
 exact ⟨fnok3,fnok4,fnok6,fnok5,fnok7,fnok8,fnok9,fnok10,fnok11,fnok12,fnok15,fnok13,fnok14,fnok16,fnok17,fnok18,fnok19,fnok20,fnok21,fnok22,fnok23,fnok24,fnok25,fnok26,fnok27,fnok28,fnok29,fnok31,fnok30,fnok32,fnok33,fnok34,fun _ h => by cases h⟩
theorem env_ok:EnvOK Try.prog E:=⟨fun t i h => tiB_ok (List.all_eq_true.1 ti_all _ (assoc_mem h)),fun f fn h => (fns_all _ (assoc_mem h)).1,by kernel_rfl,(fun t _ _ h => by cases h),(fun g p h => by cases h)⟩
theorem fns_ok:FnsOK Try.prog E:=⟨fun f fn h => fns_all _ (assoc_mem h),fun f g h => by cases h⟩
theorem own_ok:ownKnob Try.prog.godebug=none:=by kernel_rfl
theorem laid_ok:laidOutB Try.prog=true:=by kernel_rfl
end GoV
