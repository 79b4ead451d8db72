/- A part of the proof of FnExactPopMap: an interpreter of the model over plain data, its soundness, and what it makes of the functions that the statement reaches. Conditions: none beyond what the given statement itself says. -/
import Derived.Test.YtnfegdcbofnjhaaTH
import Derived.Test.YtnfegdcbofnjhaaRows
set_option linter.unusedVariables false
set_option linter.unusedSimpArgs false
set_option linter.unnecessarySimpa false
set_option linter.unusedSectionVars false
/- The tables are right. -/
namespace GoV
open Go Go.Proofs
set_option maxRecDepth 100000
theorem ti_all : (tiT.all fun p => tiB Try.prog E p.1 p.2) = true := by kernel_rfl
theorem fnok3 : FnOKp Try.prog (3, Try.f3) := ⟨Try.func3, by kernel_rfl, by kernel_rfl⟩
theorem fnok10 : FnOKp Try.prog (10, Try.f10) := ⟨Try.func10, by kernel_rfl, by kernel_rfl⟩
theorem fnok12 : FnOKp Try.prog (12, Try.f12) := ⟨Try.func12, by kernel_rfl, by kernel_rfl⟩
theorem fnok11 : FnOKp Try.prog (11, Try.f11) := ⟨Try.func11, by kernel_rfl, by kernel_rfl⟩
theorem fnok13 : FnOKp Try.prog (13, Try.f13) := ⟨Try.func13, by kernel_rfl, by kernel_rfl⟩
theorem fnok14 : FnOKp Try.prog (14, Try.f14) := ⟨Try.func14, by kernel_rfl, by kernel_rfl⟩
theorem fnok15 : FnOKp Try.prog (15, Try.f15) := ⟨Try.func15, by kernel_rfl, by kernel_rfl⟩
theorem fnok16 : FnOKp Try.prog (16, Try.f16) := ⟨Try.func16, by kernel_rfl, by kernel_rfl⟩
theorem fnok17 : FnOKp Try.prog (17, Try.f17) := ⟨Try.func17, by kernel_rfl, by kernel_rfl⟩
theorem fnok46 : FnOKp Try.prog (46, Try.f46) := ⟨Try.func46, by kernel_rfl, by kernel_rfl⟩
theorem fnok52 : FnOKp Try.prog (52, Try.f52) := ⟨Try.func52, by kernel_rfl, by kernel_rfl⟩
theorem fnok53 : FnOKp Try.prog (53, Try.f53) := ⟨Try.func53, by kernel_rfl, by kernel_rfl⟩
theorem fnok47 : FnOKp Try.prog (47, Try.f47) := ⟨Try.func47, by kernel_rfl, by kernel_rfl⟩
theorem fnok48 : FnOKp Try.prog (48, Try.f48) := ⟨Try.func48, by kernel_rfl, by kernel_rfl⟩
theorem fnok49 : FnOKp Try.prog (49, Try.f49) := ⟨Try.func49, by kernel_rfl, by kernel_rfl⟩
theorem fnok50 : FnOKp Try.prog (50, Try.f50) := ⟨Try.func50, by kernel_rfl, by kernel_rfl⟩
theorem fnok51 : FnOKp Try.prog (51, Try.f51) := ⟨Try.func51, by kernel_rfl, by kernel_rfl⟩
theorem fnok54 : FnOKp Try.prog (54, Try.f54) := ⟨Try.func54, by kernel_rfl, by kernel_rfl⟩
theorem fnok55 : FnOKp Try.prog (55, Try.f55) := ⟨Try.func55, by kernel_rfl, by kernel_rfl⟩
theorem fnok56 : FnOKp Try.prog (56, Try.f56) := ⟨Try.func56, by kernel_rfl, by kernel_rfl⟩
theorem fnok57 : FnOKp Try.prog (57, Try.f57) := ⟨Try.func57, by kernel_rfl, by kernel_rfl⟩
theorem fnok58 : FnOKp Try.prog (58, Try.f58) := ⟨Try.func58, by kernel_rfl, by kernel_rfl⟩
theorem fnok59 : FnOKp Try.prog (59, Try.f59) := ⟨Try.func59, by kernel_rfl, by kernel_rfl⟩
theorem fnok88 : FnOKp Try.prog (88, Try.f88) := ⟨Try.func88, by kernel_rfl, by kernel_rfl⟩
theorem fnok89 : FnOKp Try.prog (89, Try.f89) := ⟨Try.func89, by kernel_rfl, by kernel_rfl⟩
theorem fnok90 : FnOKp Try.prog (90, Try.f90) := ⟨Try.func90, by kernel_rfl, by kernel_rfl⟩
theorem fnok91 : FnOKp Try.prog (91, Try.f91) := ⟨Try.func91, by kernel_rfl, by kernel_rfl⟩
theorem fnok93 : FnOKp Try.prog (93, Try.f93) := ⟨Try.func93, by kernel_rfl, by kernel_rfl⟩
theorem fnok92 : FnOKp Try.prog (92, Try.f92) := ⟨Try.func92, by kernel_rfl, by kernel_rfl⟩
theorem fnok94 : FnOKp Try.prog (94, Try.f94) := ⟨Try.func94, by kernel_rfl, by kernel_rfl⟩
theorem fnok96 : FnOKp Try.prog (96, Try.f96) := ⟨Try.func96, by kernel_rfl, by kernel_rfl⟩
theorem fnok97 : FnOKp Try.prog (97, Try.f97) := ⟨Try.func97, by kernel_rfl, by kernel_rfl⟩
theorem fnok82 : FnOKp Try.prog (82, Try.f82) := ⟨Try.func82, by kernel_rfl, by kernel_rfl⟩
theorem fnok109 : FnOKp Try.prog (109, Try.f109) := ⟨Try.func109, by kernel_rfl, by kernel_rfl⟩
theorem fnok108 : FnOKp Try.prog (108, Try.f108) := ⟨Try.func108, by kernel_rfl, by kernel_rfl⟩
theorem fnok110 : FnOKp Try.prog (110, Try.f110) := ⟨Try.func110, by kernel_rfl, by kernel_rfl⟩
theorem fnok111 : FnOKp Try.prog (111, Try.f111) := ⟨Try.func111, by kernel_rfl, by kernel_rfl⟩
theorem fnok112 : FnOKp Try.prog (112, Try.f112) := ⟨Try.func112, by kernel_rfl, by kernel_rfl⟩
theorem fnok80 : FnOKp Try.prog (80, Try.f80) := ⟨Try.func80, by kernel_rfl, by kernel_rfl⟩
theorem fns_all : ∀ p, p ∈ fnT → FnOKp Try.prog p := by
  unfold fnT
  simp only [List.forall_mem_cons]
  exact ⟨fnok3, fnok10, fnok12, fnok11, fnok13, fnok14, fnok15, fnok16, fnok17, fnok46, fnok52, fnok53, fnok47, fnok48, fnok49, fnok50, fnok51, fnok54, fnok55, fnok56, fnok57, fnok58, fnok59, fnok88, fnok89, fnok90, fnok91, fnok93, fnok92, fnok94, fnok96, fnok97, fnok82, fnok109, fnok108, fnok110, fnok111, fnok112, fnok80, fun _ h => by cases h⟩
theorem eqt29 : EqtOK Try.prog 29 (flatTs (.pair (.int .i64) (.int .i64))) := eqt_struct (fs := Try.prog.fieldsOf 29) (by kernel_rfl) (by kernel_rfl) (by kernel_rfl) (by kernel_rfl)
theorem eqtT29 : (E.ti 29).bind (fun i => i.T) = some (.pair (.int .i64) (.int .i64)) := by kernel_rfl
theorem eqt_ok : ∀ t i T, E.eqt t = true → E.ti t = some i → i.T = some T → EqtOK Try.prog t (flatTs T) := by
  intro t i T h hi hT
  obtain ⟨x, hx, he⟩ := List.any_eq_true.1 h
  have e := Nat.eq_of_beq_eq_true he
  subst e
  have hb : (E.ti t).bind (fun i => i.T) = some T := by rw [hi]; exact hT
  simp only [eqtT, List.mem_cons, List.not_mem_nil, or_false] at hx
  rcases hx with rfl
  · rw [Option.some.inj (hb.symm.trans eqtT29)]
    exact eqt29
theorem env_ok : EnvOK Try.prog E := ⟨fun t i h => tiB_ok (List.all_eq_true.1 ti_all _ (assoc_mem h)), fun f fn h => (fns_all _ (assoc_mem h)).1, by kernel_rfl, eqt_ok⟩
theorem ext95_ok : ∀ (cells : List Cell) (res : Val) (fin : List Cell), extClone (.pair (.int .i64) (.int .i64)) cells = some (res, fin) → ∀ (G : Ctx) (vals : VS) (B : Nat → Nat) (S : Nat → Nat → BS), noRef cells → Rl G [] cells ⟨G.args, []⟩ G.w0 vals B G.F0 S → Calls Try.prog 95 G.args G.w0 (Done G cells.length res fin) :=
  clone_ok env_ok (fn := Try.f95) Try.func95 rfl rfl rfl rfl rfl (t := 28) (e := 29) (by kernel_rfl) (fun x K => by kernel_rfl) (by kernel_rfl) (fun x => by kernel_rfl)
theorem extf95_ok : ∃ fn, Try.prog.funcs[95]? = some fn ∧ (fn.name == "runtime.NumGoroutine") = false ∧ fn.body.isSome = true := ⟨Try.f95, Try.func95, by kernel_rfl, by kernel_rfl⟩
theorem ext_ok : ∀ f g, E.ext f = some g → (∃ fn, Try.prog.funcs[f]? = some fn ∧ (fn.name == "runtime.NumGoroutine") = false ∧ fn.body.isSome = true) ∧
    ∀ (cells : List Cell) (res : Val) (fin : List Cell), g cells = some (res, fin) → ∀ (G : Ctx) (vals : VS) (B : Nat → Nat) (S : Nat → Nat → BS), noRef cells → Rl G [] cells ⟨G.args, []⟩ G.w0 vals B G.F0 S → Calls Try.prog f G.args G.w0 (Done G cells.length res fin) := by
  intro f g h
  have hm := assoc_mem (l := extT) h
  simp only [extT, List.mem_cons, List.not_mem_nil, or_false, Prod.mk.injEq] at hm
  rcases hm with ⟨rfl, rfl⟩
  · exact ⟨extf95_ok, ext95_ok⟩
theorem fns_ok : FnsOK Try.prog E := ⟨fun f fn h => fns_all _ (assoc_mem h), ext_ok⟩
theorem own_ok : ownKnob Try.prog.godebug = none := by kernel_rfl
theorem laid_ok : laidOutB Try.prog = true := by kernel_rfl
end GoV
