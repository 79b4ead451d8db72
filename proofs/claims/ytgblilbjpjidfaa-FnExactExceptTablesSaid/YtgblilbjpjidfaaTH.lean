/- A part of the proof of FnExactExceptTables: an interpreter of the model over plain data, its soundness, and what it makes of the functions that the statement reaches. Conditions: none beyond what the given statement itself says. -/
import Derived.Test.YtgblilbjpjidfaaTG
import Derived.Test.YtgblilbjpjidfaaRows
set_option linter.unusedVariables false
set_option linter.unusedSimpArgs false
set_option linter.unnecessarySimpa false
set_option linter.unusedSectionVars false
/- The tables are right. -/
namespace GoV
open Go Go.Proofs
set_option maxRecDepth 100000
theorem ti_all : (tiT.all fun p => tiB Try.prog E p.1 p.2) = true := by kernel_rfl
theorem fnok3 : FnOKp Try.prog (3, Try.f3) := ⟨Try.func3, by kernel_rfl, by kernel_rfl⟩
theorem fnok4 : FnOKp Try.prog (4, Try.f4) := ⟨Try.func4, by kernel_rfl, by kernel_rfl⟩
theorem fnok5 : FnOKp Try.prog (5, Try.f5) := ⟨Try.func5, by kernel_rfl, by kernel_rfl⟩
theorem fnok6 : FnOKp Try.prog (6, Try.f6) := ⟨Try.func6, by kernel_rfl, by kernel_rfl⟩
theorem fnok7 : FnOKp Try.prog (7, Try.f7) := ⟨Try.func7, by kernel_rfl, by kernel_rfl⟩
theorem fnok8 : FnOKp Try.prog (8, Try.f8) := ⟨Try.func8, by kernel_rfl, by kernel_rfl⟩
theorem fnok15 : FnOKp Try.prog (15, Try.f15) := ⟨Try.func15, by kernel_rfl, by kernel_rfl⟩
theorem fnok17 : FnOKp Try.prog (17, Try.f17) := ⟨Try.func17, by kernel_rfl, by kernel_rfl⟩
theorem fnok16 : FnOKp Try.prog (16, Try.f16) := ⟨Try.func16, by kernel_rfl, by kernel_rfl⟩
theorem fnok18 : FnOKp Try.prog (18, Try.f18) := ⟨Try.func18, by kernel_rfl, by kernel_rfl⟩
theorem fnok19 : FnOKp Try.prog (19, Try.f19) := ⟨Try.func19, by kernel_rfl, by kernel_rfl⟩
theorem fnok20 : FnOKp Try.prog (20, Try.f20) := ⟨Try.func20, by kernel_rfl, by kernel_rfl⟩
theorem fnok21 : FnOKp Try.prog (21, Try.f21) := ⟨Try.func21, by kernel_rfl, by kernel_rfl⟩
theorem fnok22 : FnOKp Try.prog (22, Try.f22) := ⟨Try.func22, by kernel_rfl, by kernel_rfl⟩
theorem fnok23 : FnOKp Try.prog (23, Try.f23) := ⟨Try.func23, by kernel_rfl, by kernel_rfl⟩
theorem fnok24 : FnOKp Try.prog (24, Try.f24) := ⟨Try.func24, by kernel_rfl, by kernel_rfl⟩
theorem fnok25 : FnOKp Try.prog (25, Try.f25) := ⟨Try.func25, by kernel_rfl, by kernel_rfl⟩
theorem fnok26 : FnOKp Try.prog (26, Try.f26) := ⟨Try.func26, by kernel_rfl, by kernel_rfl⟩
theorem fnok27 : FnOKp Try.prog (27, Try.f27) := ⟨Try.func27, by kernel_rfl, by kernel_rfl⟩
theorem fnok28 : FnOKp Try.prog (28, Try.f28) := ⟨Try.func28, by kernel_rfl, by kernel_rfl⟩
theorem fnok29 : FnOKp Try.prog (29, Try.f29) := ⟨Try.func29, by kernel_rfl, by kernel_rfl⟩
theorem fnok30 : FnOKp Try.prog (30, Try.f30) := ⟨Try.func30, by kernel_rfl, by kernel_rfl⟩
theorem fnok32 : FnOKp Try.prog (32, Try.f32) := ⟨Try.func32, by kernel_rfl, by kernel_rfl⟩
theorem fnok31 : FnOKp Try.prog (31, Try.f31) := ⟨Try.func31, by kernel_rfl, by kernel_rfl⟩
theorem fnok33 : FnOKp Try.prog (33, Try.f33) := ⟨Try.func33, by kernel_rfl, by kernel_rfl⟩
theorem fnok34 : FnOKp Try.prog (34, Try.f34) := ⟨Try.func34, by kernel_rfl, by kernel_rfl⟩
theorem fnok35 : FnOKp Try.prog (35, Try.f35) := ⟨Try.func35, by kernel_rfl, by kernel_rfl⟩
theorem fnok36 : FnOKp Try.prog (36, Try.f36) := ⟨Try.func36, by kernel_rfl, by kernel_rfl⟩
theorem fnok38 : FnOKp Try.prog (38, Try.f38) := ⟨Try.func38, by kernel_rfl, by kernel_rfl⟩
theorem fnok59 : FnOKp Try.prog (59, Try.f59) := ⟨Try.func59, by kernel_rfl, by kernel_rfl⟩
theorem fnok61 : FnOKp Try.prog (61, Try.f61) := ⟨Try.func61, by kernel_rfl, by kernel_rfl⟩
theorem fnok60 : FnOKp Try.prog (60, Try.f60) := ⟨Try.func60, by kernel_rfl, by kernel_rfl⟩
theorem fnok62 : FnOKp Try.prog (62, Try.f62) := ⟨Try.func62, by kernel_rfl, by kernel_rfl⟩
theorem fnok63 : FnOKp Try.prog (63, Try.f63) := ⟨Try.func63, by kernel_rfl, by kernel_rfl⟩
theorem fnok40 : FnOKp Try.prog (40, Try.f40) := ⟨Try.func40, by kernel_rfl, by kernel_rfl⟩
theorem fnok41 : FnOKp Try.prog (41, Try.f41) := ⟨Try.func41, by kernel_rfl, by kernel_rfl⟩
theorem fnok64 : FnOKp Try.prog (64, Try.f64) := ⟨Try.func64, by kernel_rfl, by kernel_rfl⟩
theorem fnok65 : FnOKp Try.prog (65, Try.f65) := ⟨Try.func65, by kernel_rfl, by kernel_rfl⟩
theorem fnok66 : FnOKp Try.prog (66, Try.f66) := ⟨Try.func66, by kernel_rfl, by kernel_rfl⟩
theorem fnok67 : FnOKp Try.prog (67, Try.f67) := ⟨Try.func67, by kernel_rfl, by kernel_rfl⟩
theorem fnok68 : FnOKp Try.prog (68, Try.f68) := ⟨Try.func68, by kernel_rfl, by kernel_rfl⟩
theorem fnok69 : FnOKp Try.prog (69, Try.f69) := ⟨Try.func69, by kernel_rfl, by kernel_rfl⟩
theorem fnok70 : FnOKp Try.prog (70, Try.f70) := ⟨Try.func70, by kernel_rfl, by kernel_rfl⟩
theorem fnok71 : FnOKp Try.prog (71, Try.f71) := ⟨Try.func71, by kernel_rfl, by kernel_rfl⟩
theorem fnok73 : FnOKp Try.prog (73, Try.f73) := ⟨Try.func73, by kernel_rfl, by kernel_rfl⟩
theorem fnok72 : FnOKp Try.prog (72, Try.f72) := ⟨Try.func72, by kernel_rfl, by kernel_rfl⟩
theorem fnok76 : FnOKp Try.prog (76, Try.f76) := ⟨Try.func76, by kernel_rfl, by kernel_rfl⟩
theorem fnok79 : FnOKp Try.prog (79, Try.f79) := ⟨Try.func79, by kernel_rfl, by kernel_rfl⟩
theorem fnok77 : FnOKp Try.prog (77, Try.f77) := ⟨Try.func77, by kernel_rfl, by kernel_rfl⟩
theorem fnok78 : FnOKp Try.prog (78, Try.f78) := ⟨Try.func78, by kernel_rfl, by kernel_rfl⟩
theorem fnok80 : FnOKp Try.prog (80, Try.f80) := ⟨Try.func80, by kernel_rfl, by kernel_rfl⟩
theorem fnok81 : FnOKp Try.prog (81, Try.f81) := ⟨Try.func81, by kernel_rfl, by kernel_rfl⟩
theorem fnok82 : FnOKp Try.prog (82, Try.f82) := ⟨Try.func82, by kernel_rfl, by kernel_rfl⟩
theorem fnok83 : FnOKp Try.prog (83, Try.f83) := ⟨Try.func83, by kernel_rfl, by kernel_rfl⟩
theorem fnok87 : FnOKp Try.prog (87, Try.f87) := ⟨Try.func87, by kernel_rfl, by kernel_rfl⟩
theorem fnok84 : FnOKp Try.prog (84, Try.f84) := ⟨Try.func84, by kernel_rfl, by kernel_rfl⟩
theorem fnok85 : FnOKp Try.prog (85, Try.f85) := ⟨Try.func85, by kernel_rfl, by kernel_rfl⟩
theorem fnok106 : FnOKp Try.prog (106, Try.f106) := ⟨Try.func106, by kernel_rfl, by kernel_rfl⟩
theorem fnok107 : FnOKp Try.prog (107, Try.f107) := ⟨Try.func107, by kernel_rfl, by kernel_rfl⟩
theorem fnok88 : FnOKp Try.prog (88, Try.f88) := ⟨Try.func88, by kernel_rfl, by kernel_rfl⟩
theorem fnok91 : FnOKp Try.prog (91, Try.f91) := ⟨Try.func91, by kernel_rfl, by kernel_rfl⟩
theorem fnok92 : FnOKp Try.prog (92, Try.f92) := ⟨Try.func92, by kernel_rfl, by kernel_rfl⟩
theorem fnok108 : FnOKp Try.prog (108, Try.f108) := ⟨Try.func108, by kernel_rfl, by kernel_rfl⟩
theorem fnok109 : FnOKp Try.prog (109, Try.f109) := ⟨Try.func109, by kernel_rfl, by kernel_rfl⟩
theorem fnok94 : FnOKp Try.prog (94, Try.f94) := ⟨Try.func94, by kernel_rfl, by kernel_rfl⟩
theorem fnok48 : FnOKp Try.prog (48, Try.f48) := ⟨Try.func48, by kernel_rfl, by kernel_rfl⟩
theorem fnok110 : FnOKp Try.prog (110, Try.f110) := ⟨Try.func110, by kernel_rfl, by kernel_rfl⟩
theorem fnok111 : FnOKp Try.prog (111, Try.f111) := ⟨Try.func111, by kernel_rfl, by kernel_rfl⟩
theorem fnok112 : FnOKp Try.prog (112, Try.f112) := ⟨Try.func112, by kernel_rfl, by kernel_rfl⟩
theorem fnok74 : FnOKp Try.prog (74, Try.f74) := ⟨Try.func74, by kernel_rfl, by kernel_rfl⟩
theorem fnok75 : FnOKp Try.prog (75, Try.f75) := ⟨Try.func75, by kernel_rfl, by kernel_rfl⟩
theorem fnok115 : FnOKp Try.prog (115, Try.f115) := ⟨Try.func115, by kernel_rfl, by kernel_rfl⟩
theorem fnok117 : FnOKp Try.prog (117, Try.f117) := ⟨Try.func117, by kernel_rfl, by kernel_rfl⟩
theorem fnok116 : FnOKp Try.prog (116, Try.f116) := ⟨Try.func116, by kernel_rfl, by kernel_rfl⟩
theorem fnok120 : FnOKp Try.prog (120, Try.f120) := ⟨Try.func120, by kernel_rfl, by kernel_rfl⟩
theorem fnok123 : FnOKp Try.prog (123, Try.f123) := ⟨Try.func123, by kernel_rfl, by kernel_rfl⟩
theorem fnok124 : FnOKp Try.prog (124, Try.f124) := ⟨Try.func124, by kernel_rfl, by kernel_rfl⟩
theorem fnok127 : FnOKp Try.prog (127, Try.f127) := ⟨Try.func127, by kernel_rfl, by kernel_rfl⟩
theorem fnok141 : FnOKp Try.prog (141, Try.f141) := ⟨Try.func141, by kernel_rfl, by kernel_rfl⟩
theorem fnok131 : FnOKp Try.prog (131, Try.f131) := ⟨Try.func131, by kernel_rfl, by kernel_rfl⟩
theorem fnok113 : FnOKp Try.prog (113, Try.f113) := ⟨Try.func113, by kernel_rfl, by kernel_rfl⟩
theorem fnok114 : FnOKp Try.prog (114, Try.f114) := ⟨Try.func114, by kernel_rfl, by kernel_rfl⟩
theorem fnok118 : FnOKp Try.prog (118, Try.f118) := ⟨Try.func118, by kernel_rfl, by kernel_rfl⟩
theorem fnok119 : FnOKp Try.prog (119, Try.f119) := ⟨Try.func119, by kernel_rfl, by kernel_rfl⟩
theorem fnok144 : FnOKp Try.prog (144, Try.f144) := ⟨Try.func144, by kernel_rfl, by kernel_rfl⟩
theorem fnok143 : FnOKp Try.prog (143, Try.f143) := ⟨Try.func143, by kernel_rfl, by kernel_rfl⟩
theorem fnok121 : FnOKp Try.prog (121, Try.f121) := ⟨Try.func121, by kernel_rfl, by kernel_rfl⟩
theorem fnok100 : FnOKp Try.prog (100, Try.f100) := ⟨Try.func100, by kernel_rfl, by kernel_rfl⟩
theorem fnok45 : FnOKp Try.prog (45, Try.f45) := ⟨Try.func45, by kernel_rfl, by kernel_rfl⟩
theorem fnok133 : FnOKp Try.prog (133, Try.f133) := ⟨Try.func133, by kernel_rfl, by kernel_rfl⟩
theorem fnok155 : FnOKp Try.prog (155, Try.f155) := ⟨Try.func155, by kernel_rfl, by kernel_rfl⟩
theorem fnok47 : FnOKp Try.prog (47, Try.f47) := ⟨Try.func47, by kernel_rfl, by kernel_rfl⟩
theorem fnok156 : FnOKp Try.prog (156, Try.f156) := ⟨Try.func156, by kernel_rfl, by kernel_rfl⟩
theorem fnok122 : FnOKp Try.prog (122, Try.f122) := ⟨Try.func122, by kernel_rfl, by kernel_rfl⟩
theorem fnok149 : FnOKp Try.prog (149, Try.f149) := ⟨Try.func149, by kernel_rfl, by kernel_rfl⟩
theorem fnok148 : FnOKp Try.prog (148, Try.f148) := ⟨Try.func148, by kernel_rfl, by kernel_rfl⟩
theorem fnok163 : FnOKp Try.prog (163, Try.f163) := ⟨Try.func163, by kernel_rfl, by kernel_rfl⟩
theorem fnok159 : FnOKp Try.prog (159, Try.f159) := ⟨Try.func159, by kernel_rfl, by kernel_rfl⟩
theorem fns_all : ∀ p, p ∈ fnT → FnOKp Try.prog p := by
  unfold fnT
  simp only [List.forall_mem_cons]
  exact ⟨fnok3, fnok4, fnok5, fnok6, fnok7, fnok8, fnok15, fnok17, fnok16, fnok18, fnok19, fnok20, fnok21, fnok22, fnok23, fnok24, fnok25, fnok26, fnok27, fnok28, fnok29, fnok30, fnok32, fnok31, fnok33, fnok34, fnok35, fnok36, fnok38, fnok59, fnok61, fnok60, fnok62, fnok63, fnok40, fnok41, fnok64, fnok65, fnok66, fnok67, fnok68, fnok69, fnok70, fnok71, fnok73, fnok72, fnok76, fnok79, fnok77, fnok78, fnok80, fnok81, fnok82, fnok83, fnok87, fnok84, fnok85, fnok106, fnok107, fnok88, fnok91, fnok92, fnok108, fnok109, fnok94, fnok48, fnok110, fnok111, fnok112, fnok74, fnok75, fnok115, fnok117, fnok116, fnok120, fnok123, fnok124, fnok127, fnok141, fnok131, fnok113, fnok114, fnok118, fnok119, fnok144, fnok143, fnok121, fnok100, fnok45, fnok133, fnok155, fnok47, fnok156, fnok122, fnok149, fnok148, fnok163, fnok159, fun _ h => by cases h⟩
theorem env_ok : EnvOK Try.prog E := ⟨fun t i h => tiB_ok (List.all_eq_true.1 ti_all _ (assoc_mem h)), fun f fn h => (fns_all _ (assoc_mem h)).1, by kernel_rfl, fun t h => by cases h⟩
theorem ext142_ok : ∀ (cells : List Cell) (res : Val) (fin : List Cell), extClone (.int .i64) cells = some (res, fin) → ∀ (G : Ctx) (vals : VS) (B : Nat → Nat) (S : Nat → Nat → BS), noRef cells → Rl G [] cells ⟨G.args, []⟩ G.w0 vals B G.F0 S → Calls Try.prog 142 G.args G.w0 (Done G cells.length res fin) :=
  clone_ok env_ok (fn := Try.f142) Try.func142 rfl rfl rfl rfl rfl (t := 53) (e := 3) (by kernel_rfl) (fun x K => by kernel_rfl) (by kernel_rfl) (fun x => by kernel_rfl)
theorem extf142_ok : ∃ fn, Try.prog.funcs[142]? = some fn ∧ (fn.name == "runtime.NumGoroutine") = false ∧ fn.body.isSome = true := ⟨Try.f142, Try.func142, by kernel_rfl, by kernel_rfl⟩
theorem ext_ok : ∀ f g, E.ext f = some g → (∃ fn, Try.prog.funcs[f]? = some fn ∧ (fn.name == "runtime.NumGoroutine") = false ∧ fn.body.isSome = true) ∧
    ∀ (cells : List Cell) (res : Val) (fin : List Cell), g cells = some (res, fin) → ∀ (G : Ctx) (vals : VS) (B : Nat → Nat) (S : Nat → Nat → BS), noRef cells → Rl G [] cells ⟨G.args, []⟩ G.w0 vals B G.F0 S → Calls Try.prog f G.args G.w0 (Done G cells.length res fin) := by
  intro f g h
  have hm := assoc_mem (l := extT) h
  simp only [extT, List.mem_cons, List.not_mem_nil, or_false, Prod.mk.injEq] at hm
  rcases hm with ⟨rfl, rfl⟩
  · exact ⟨extf142_ok, ext142_ok⟩
theorem fns_ok : FnsOK Try.prog E := ⟨fun f fn h => fns_all _ (assoc_mem h), ext_ok⟩
theorem own_ok : ownKnob Try.prog.godebug = none := by kernel_rfl
theorem laid_ok : laidOutB Try.prog = true := by kernel_rfl
end GoV
