/- A part of the proof of FnExactSerialRun: an interpreter of the model over plain data, its soundness, and what it makes of the functions that the statement reaches. Conditions: none beyond what the given statement itself says. -/
import Derived.Test.YtcilpkgidhkfjaaTG
import Derived.Test.YtcilpkgidhkfjaaRows
set_option linter.unusedVariables false
set_option linter.unusedSimpArgs false
set_option linter.unnecessarySimpa false
set_option linter.unusedSectionVars false
/- The tables are right. -/
namespace GoV
open Go Go.Proofs
set_option maxRecDepth 100000
theorem ti_all : (tiT.all fun p => tiB Try.prog E p.1 p.2) = true := by kernel_rfl
theorem fnok7 : FnOKp Try.prog (7, Try.f7) := ⟨Try.func7, by kernel_rfl, by kernel_rfl⟩
theorem fnok16 : FnOKp Try.prog (16, Try.f16) := ⟨Try.func16, by kernel_rfl, by kernel_rfl⟩
theorem fnok18 : FnOKp Try.prog (18, Try.f18) := ⟨Try.func18, by kernel_rfl, by kernel_rfl⟩
theorem fnok12 : FnOKp Try.prog (12, Try.f12) := ⟨Try.func12, by kernel_rfl, by kernel_rfl⟩
theorem fnok35 : FnOKp Try.prog (35, Try.f35) := ⟨Try.func35, by kernel_rfl, by kernel_rfl⟩
theorem fnok36 : FnOKp Try.prog (36, Try.f36) := ⟨Try.func36, by kernel_rfl, by kernel_rfl⟩
theorem fnok21 : FnOKp Try.prog (21, Try.f21) := ⟨Try.func21, by kernel_rfl, by kernel_rfl⟩
theorem fnok15 : FnOKp Try.prog (15, Try.f15) := ⟨Try.func15, by kernel_rfl, by kernel_rfl⟩
theorem fnok22 : FnOKp Try.prog (22, Try.f22) := ⟨Try.func22, by kernel_rfl, by kernel_rfl⟩
theorem fnok31 : FnOKp Try.prog (31, Try.f31) := ⟨Try.func31, by kernel_rfl, by kernel_rfl⟩
theorem fnok37 : FnOKp Try.prog (37, Try.f37) := ⟨Try.func37, by kernel_rfl, by kernel_rfl⟩
theorem fnok52 : FnOKp Try.prog (52, Try.f52) := ⟨Try.func52, by kernel_rfl, by kernel_rfl⟩
theorem fnok50 : FnOKp Try.prog (50, Try.f50) := ⟨Try.func50, by kernel_rfl, by kernel_rfl⟩
theorem fnok73 : FnOKp Try.prog (73, Try.f73) := ⟨Try.func73, by kernel_rfl, by kernel_rfl⟩
theorem fnok74 : FnOKp Try.prog (74, Try.f74) := ⟨Try.func74, by kernel_rfl, by kernel_rfl⟩
theorem fnok53 : FnOKp Try.prog (53, Try.f53) := ⟨Try.func53, by kernel_rfl, by kernel_rfl⟩
theorem fnok63 : FnOKp Try.prog (63, Try.f63) := ⟨Try.func63, by kernel_rfl, by kernel_rfl⟩
theorem fnok75 : FnOKp Try.prog (75, Try.f75) := ⟨Try.func75, by kernel_rfl, by kernel_rfl⟩
theorem fnok49 : FnOKp Try.prog (49, Try.f49) := ⟨Try.func49, by kernel_rfl, by kernel_rfl⟩
theorem fnok76 : FnOKp Try.prog (76, Try.f76) := ⟨Try.func76, by kernel_rfl, by kernel_rfl⟩
theorem fnok55 : FnOKp Try.prog (55, Try.f55) := ⟨Try.func55, by kernel_rfl, by kernel_rfl⟩
theorem fnok77 : FnOKp Try.prog (77, Try.f77) := ⟨Try.func77, by kernel_rfl, by kernel_rfl⟩
theorem fnok56 : FnOKp Try.prog (56, Try.f56) := ⟨Try.func56, by kernel_rfl, by kernel_rfl⟩
theorem fnok69 : FnOKp Try.prog (69, Try.f69) := ⟨Try.func69, by kernel_rfl, by kernel_rfl⟩
theorem fnok86 : FnOKp Try.prog (86, Try.f86) := ⟨Try.func86, by kernel_rfl, by kernel_rfl⟩
theorem fnok87 : FnOKp Try.prog (87, Try.f87) := ⟨Try.func87, by kernel_rfl, by kernel_rfl⟩
theorem fnok88 : FnOKp Try.prog (88, Try.f88) := ⟨Try.func88, by kernel_rfl, by kernel_rfl⟩
theorem fnok95 : FnOKp Try.prog (95, Try.f95) := ⟨Try.func95, by kernel_rfl, by kernel_rfl⟩
theorem fnok94 : FnOKp Try.prog (94, Try.f94) := ⟨Try.func94, by kernel_rfl, by kernel_rfl⟩
theorem fnok81 : FnOKp Try.prog (81, Try.f81) := ⟨Try.func81, by kernel_rfl, by kernel_rfl⟩
theorem fnok102 : FnOKp Try.prog (102, Try.f102) := ⟨Try.func102, by kernel_rfl, by kernel_rfl⟩
theorem fnok100 : FnOKp Try.prog (100, Try.f100) := ⟨Try.func100, by kernel_rfl, by kernel_rfl⟩
theorem fnok106 : FnOKp Try.prog (106, Try.f106) := ⟨Try.func106, by kernel_rfl, by kernel_rfl⟩
theorem fnok105 : FnOKp Try.prog (105, Try.f105) := ⟨Try.func105, by kernel_rfl, by kernel_rfl⟩
theorem fnok108 : FnOKp Try.prog (108, Try.f108) := ⟨Try.func108, by kernel_rfl, by kernel_rfl⟩
theorem fnok111 : FnOKp Try.prog (111, Try.f111) := ⟨Try.func111, by kernel_rfl, by kernel_rfl⟩
theorem fns_all : ∀ p, p ∈ fnT → FnOKp Try.prog p := by
  unfold fnT
  simp only [List.forall_mem_cons]
  exact ⟨fnok7, fnok16, fnok18, fnok12, fnok35, fnok36, fnok21, fnok15, fnok22, fnok31, fnok37, fnok52, fnok50, fnok73, fnok74, fnok53, fnok63, fnok75, fnok49, fnok76, fnok55, fnok77, fnok56, fnok69, fnok86, fnok87, fnok88, fnok95, fnok94, fnok81, fnok102, fnok100, fnok106, fnok105, fnok108, fnok111, fun _ h => by cases h⟩
theorem env_ok : EnvOK Try.prog E := ⟨fun t i h => tiB_ok (List.all_eq_true.1 ti_all _ (assoc_mem h)), fun f fn h => (fns_all _ (assoc_mem h)).1, by kernel_rfl, fun t h => by cases h⟩
theorem ext101_ok : ∀ (cells : List Cell) (res : Val) (fin : List Cell), extClone (.pair (.int .i64) (.pair (.int .i64) (.int .i64))) cells = some (res, fin) → ∀ (G : Ctx) (vals : VS) (B : Nat → Nat) (S : Nat → Nat → BS), noRef cells → Rl G [] cells ⟨G.args, []⟩ G.w0 vals B G.F0 S → Calls Try.prog 101 G.args G.w0 (Done G cells.length res fin) :=
  clone_ok env_ok (fn := Try.f101) Try.func101 rfl rfl rfl rfl rfl (t := 39) (e := 76) (by kernel_rfl) (fun x K => by kernel_rfl) (by kernel_rfl) (fun x => by kernel_rfl)
theorem extf101_ok : ∃ fn, Try.prog.funcs[101]? = some fn ∧ (fn.name == "runtime.NumGoroutine") = false ∧ fn.body.isSome = true := ⟨Try.f101, Try.func101, by kernel_rfl, by kernel_rfl⟩
theorem ext_ok : ∀ f g, E.ext f = some g → (∃ fn, Try.prog.funcs[f]? = some fn ∧ (fn.name == "runtime.NumGoroutine") = false ∧ fn.body.isSome = true) ∧
    ∀ (cells : List Cell) (res : Val) (fin : List Cell), g cells = some (res, fin) → ∀ (G : Ctx) (vals : VS) (B : Nat → Nat) (S : Nat → Nat → BS), noRef cells → Rl G [] cells ⟨G.args, []⟩ G.w0 vals B G.F0 S → Calls Try.prog f G.args G.w0 (Done G cells.length res fin) := by
  intro f g h
  have hm := assoc_mem (l := extT) h
  simp only [extT, List.mem_cons, List.not_mem_nil, or_false, Prod.mk.injEq] at hm
  rcases hm with ⟨rfl, rfl⟩
  · exact ⟨extf101_ok, ext101_ok⟩
theorem fns_ok : FnsOK Try.prog E := ⟨fun f fn h => fns_all _ (assoc_mem h), ext_ok⟩
theorem own_ok : ownKnob Try.prog.godebug = none := by kernel_rfl
theorem laid_ok : laidOutB Try.prog = true := by kernel_rfl
end GoV
