/- A part of the proof of FnExactJoinTables: an interpreter of the model over plain data, its soundness, and what it makes of the functions that the statement reaches. Conditions: none beyond what the given statement itself says. -/
import Derived.Test.YtgblilbjpjidfaaTG
import Derived.Test.YtgblilbjpjidfaaRows
set_option linter.unusedVariables false
set_option linter.unusedSimpArgs false
set_option linter.unnecessarySimpa false
set_option linter.unusedSectionVars false
/- The tables are right. -/
namespace GoV
open Go Go.Proofs
set_option maxRecDepth 100000
theorem ti_all : (tiT.all fun p => tiB Try.prog E p.1 p.2) = true := by kernel_rfl
theorem fnok9 : FnOKp Try.prog (9, Try.f9) := ⟨Try.func9, by kernel_rfl, by kernel_rfl⟩
theorem fnok10 : FnOKp Try.prog (10, Try.f10) := ⟨Try.func10, by kernel_rfl, by kernel_rfl⟩
theorem fnok11 : FnOKp Try.prog (11, Try.f11) := ⟨Try.func11, by kernel_rfl, by kernel_rfl⟩
theorem fnok12 : FnOKp Try.prog (12, Try.f12) := ⟨Try.func12, by kernel_rfl, by kernel_rfl⟩
theorem fnok13 : FnOKp Try.prog (13, Try.f13) := ⟨Try.func13, by kernel_rfl, by kernel_rfl⟩
theorem fnok14 : FnOKp Try.prog (14, Try.f14) := ⟨Try.func14, by kernel_rfl, by kernel_rfl⟩
theorem fnok36 : FnOKp Try.prog (36, Try.f36) := ⟨Try.func36, by kernel_rfl, by kernel_rfl⟩
theorem fnok38 : FnOKp Try.prog (38, Try.f38) := ⟨Try.func38, by kernel_rfl, by kernel_rfl⟩
theorem fnok37 : FnOKp Try.prog (37, Try.f37) := ⟨Try.func37, by kernel_rfl, by kernel_rfl⟩
theorem fnok39 : FnOKp Try.prog (39, Try.f39) := ⟨Try.func39, by kernel_rfl, by kernel_rfl⟩
theorem fnok19 : FnOKp Try.prog (19, Try.f19) := ⟨Try.func19, by kernel_rfl, by kernel_rfl⟩
theorem fnok40 : FnOKp Try.prog (40, Try.f40) := ⟨Try.func40, by kernel_rfl, by kernel_rfl⟩
theorem fnok41 : FnOKp Try.prog (41, Try.f41) := ⟨Try.func41, by kernel_rfl, by kernel_rfl⟩
theorem fnok20 : FnOKp Try.prog (20, Try.f20) := ⟨Try.func20, by kernel_rfl, by kernel_rfl⟩
theorem fnok21 : FnOKp Try.prog (21, Try.f21) := ⟨Try.func21, by kernel_rfl, by kernel_rfl⟩
theorem fnok15 : FnOKp Try.prog (15, Try.f15) := ⟨Try.func15, by kernel_rfl, by kernel_rfl⟩
theorem fnok17 : FnOKp Try.prog (17, Try.f17) := ⟨Try.func17, by kernel_rfl, by kernel_rfl⟩
theorem fnok42 : FnOKp Try.prog (42, Try.f42) := ⟨Try.func42, by kernel_rfl, by kernel_rfl⟩
theorem fnok43 : FnOKp Try.prog (43, Try.f43) := ⟨Try.func43, by kernel_rfl, by kernel_rfl⟩
theorem fnok45 : FnOKp Try.prog (45, Try.f45) := ⟨Try.func45, by kernel_rfl, by kernel_rfl⟩
theorem fnok44 : FnOKp Try.prog (44, Try.f44) := ⟨Try.func44, by kernel_rfl, by kernel_rfl⟩
theorem fnok46 : FnOKp Try.prog (46, Try.f46) := ⟨Try.func46, by kernel_rfl, by kernel_rfl⟩
theorem fnok47 : FnOKp Try.prog (47, Try.f47) := ⟨Try.func47, by kernel_rfl, by kernel_rfl⟩
theorem fnok48 : FnOKp Try.prog (48, Try.f48) := ⟨Try.func48, by kernel_rfl, by kernel_rfl⟩
theorem fnok49 : FnOKp Try.prog (49, Try.f49) := ⟨Try.func49, by kernel_rfl, by kernel_rfl⟩
theorem fnok50 : FnOKp Try.prog (50, Try.f50) := ⟨Try.func50, by kernel_rfl, by kernel_rfl⟩
theorem fnok51 : FnOKp Try.prog (51, Try.f51) := ⟨Try.func51, by kernel_rfl, by kernel_rfl⟩
theorem fnok52 : FnOKp Try.prog (52, Try.f52) := ⟨Try.func52, by kernel_rfl, by kernel_rfl⟩
theorem fnok53 : FnOKp Try.prog (53, Try.f53) := ⟨Try.func53, by kernel_rfl, by kernel_rfl⟩
theorem fnok55 : FnOKp Try.prog (55, Try.f55) := ⟨Try.func55, by kernel_rfl, by kernel_rfl⟩
theorem fnok54 : FnOKp Try.prog (54, Try.f54) := ⟨Try.func54, by kernel_rfl, by kernel_rfl⟩
theorem fnok56 : FnOKp Try.prog (56, Try.f56) := ⟨Try.func56, by kernel_rfl, by kernel_rfl⟩
theorem fnok57 : FnOKp Try.prog (57, Try.f57) := ⟨Try.func57, by kernel_rfl, by kernel_rfl⟩
theorem fnok58 : FnOKp Try.prog (58, Try.f58) := ⟨Try.func58, by kernel_rfl, by kernel_rfl⟩
theorem fnok83 : FnOKp Try.prog (83, Try.f83) := ⟨Try.func83, by kernel_rfl, by kernel_rfl⟩
theorem fnok87 : FnOKp Try.prog (87, Try.f87) := ⟨Try.func87, by kernel_rfl, by kernel_rfl⟩
theorem fnok65 : FnOKp Try.prog (65, Try.f65) := ⟨Try.func65, by kernel_rfl, by kernel_rfl⟩
theorem fnok84 : FnOKp Try.prog (84, Try.f84) := ⟨Try.func84, by kernel_rfl, by kernel_rfl⟩
theorem fnok85 : FnOKp Try.prog (85, Try.f85) := ⟨Try.func85, by kernel_rfl, by kernel_rfl⟩
theorem fnok86 : FnOKp Try.prog (86, Try.f86) := ⟨Try.func86, by kernel_rfl, by kernel_rfl⟩
theorem fnok60 : FnOKp Try.prog (60, Try.f60) := ⟨Try.func60, by kernel_rfl, by kernel_rfl⟩
theorem fnok88 : FnOKp Try.prog (88, Try.f88) := ⟨Try.func88, by kernel_rfl, by kernel_rfl⟩
theorem fnok90 : FnOKp Try.prog (90, Try.f90) := ⟨Try.func90, by kernel_rfl, by kernel_rfl⟩
theorem fnok89 : FnOKp Try.prog (89, Try.f89) := ⟨Try.func89, by kernel_rfl, by kernel_rfl⟩
theorem fnok93 : FnOKp Try.prog (93, Try.f93) := ⟨Try.func93, by kernel_rfl, by kernel_rfl⟩
theorem fnok67 : FnOKp Try.prog (67, Try.f67) := ⟨Try.func67, by kernel_rfl, by kernel_rfl⟩
theorem fnok94 : FnOKp Try.prog (94, Try.f94) := ⟨Try.func94, by kernel_rfl, by kernel_rfl⟩
theorem fnok64 : FnOKp Try.prog (64, Try.f64) := ⟨Try.func64, by kernel_rfl, by kernel_rfl⟩
theorem fnok59 : FnOKp Try.prog (59, Try.f59) := ⟨Try.func59, by kernel_rfl, by kernel_rfl⟩
theorem fnok95 : FnOKp Try.prog (95, Try.f95) := ⟨Try.func95, by kernel_rfl, by kernel_rfl⟩
theorem fnok71 : FnOKp Try.prog (71, Try.f71) := ⟨Try.func71, by kernel_rfl, by kernel_rfl⟩
theorem fnok96 : FnOKp Try.prog (96, Try.f96) := ⟨Try.func96, by kernel_rfl, by kernel_rfl⟩
theorem fnok97 : FnOKp Try.prog (97, Try.f97) := ⟨Try.func97, by kernel_rfl, by kernel_rfl⟩
theorem fnok62 : FnOKp Try.prog (62, Try.f62) := ⟨Try.func62, by kernel_rfl, by kernel_rfl⟩
theorem fnok98 : FnOKp Try.prog (98, Try.f98) := ⟨Try.func98, by kernel_rfl, by kernel_rfl⟩
theorem fnok99 : FnOKp Try.prog (99, Try.f99) := ⟨Try.func99, by kernel_rfl, by kernel_rfl⟩
theorem fnok100 : FnOKp Try.prog (100, Try.f100) := ⟨Try.func100, by kernel_rfl, by kernel_rfl⟩
theorem fnok101 : FnOKp Try.prog (101, Try.f101) := ⟨Try.func101, by kernel_rfl, by kernel_rfl⟩
theorem fnok102 : FnOKp Try.prog (102, Try.f102) := ⟨Try.func102, by kernel_rfl, by kernel_rfl⟩
theorem fnok103 : FnOKp Try.prog (103, Try.f103) := ⟨Try.func103, by kernel_rfl, by kernel_rfl⟩
theorem fnok104 : FnOKp Try.prog (104, Try.f104) := ⟨Try.func104, by kernel_rfl, by kernel_rfl⟩
theorem fnok105 : FnOKp Try.prog (105, Try.f105) := ⟨Try.func105, by kernel_rfl, by kernel_rfl⟩
theorem fnok123 : FnOKp Try.prog (123, Try.f123) := ⟨Try.func123, by kernel_rfl, by kernel_rfl⟩
theorem fnok124 : FnOKp Try.prog (124, Try.f124) := ⟨Try.func124, by kernel_rfl, by kernel_rfl⟩
theorem fnok106 : FnOKp Try.prog (106, Try.f106) := ⟨Try.func106, by kernel_rfl, by kernel_rfl⟩
theorem fnok107 : FnOKp Try.prog (107, Try.f107) := ⟨Try.func107, by kernel_rfl, by kernel_rfl⟩
theorem fnok66 : FnOKp Try.prog (66, Try.f66) := ⟨Try.func66, by kernel_rfl, by kernel_rfl⟩
theorem fnok91 : FnOKp Try.prog (91, Try.f91) := ⟨Try.func91, by kernel_rfl, by kernel_rfl⟩
theorem fnok92 : FnOKp Try.prog (92, Try.f92) := ⟨Try.func92, by kernel_rfl, by kernel_rfl⟩
theorem fnok126 : FnOKp Try.prog (126, Try.f126) := ⟨Try.func126, by kernel_rfl, by kernel_rfl⟩
theorem fnok125 : FnOKp Try.prog (125, Try.f125) := ⟨Try.func125, by kernel_rfl, by kernel_rfl⟩
theorem fnok128 : FnOKp Try.prog (128, Try.f128) := ⟨Try.func128, by kernel_rfl, by kernel_rfl⟩
theorem fnok129 : FnOKp Try.prog (129, Try.f129) := ⟨Try.func129, by kernel_rfl, by kernel_rfl⟩
theorem fnok130 : FnOKp Try.prog (130, Try.f130) := ⟨Try.func130, by kernel_rfl, by kernel_rfl⟩
theorem fnok108 : FnOKp Try.prog (108, Try.f108) := ⟨Try.func108, by kernel_rfl, by kernel_rfl⟩
theorem fnok109 : FnOKp Try.prog (109, Try.f109) := ⟨Try.func109, by kernel_rfl, by kernel_rfl⟩
theorem fnok131 : FnOKp Try.prog (131, Try.f131) := ⟨Try.func131, by kernel_rfl, by kernel_rfl⟩
theorem fnok110 : FnOKp Try.prog (110, Try.f110) := ⟨Try.func110, by kernel_rfl, by kernel_rfl⟩
theorem fnok132 : FnOKp Try.prog (132, Try.f132) := ⟨Try.func132, by kernel_rfl, by kernel_rfl⟩
theorem fnok134 : FnOKp Try.prog (134, Try.f134) := ⟨Try.func134, by kernel_rfl, by kernel_rfl⟩
theorem fnok133 : FnOKp Try.prog (133, Try.f133) := ⟨Try.func133, by kernel_rfl, by kernel_rfl⟩
theorem fnok135 : FnOKp Try.prog (135, Try.f135) := ⟨Try.func135, by kernel_rfl, by kernel_rfl⟩
theorem fnok136 : FnOKp Try.prog (136, Try.f136) := ⟨Try.func136, by kernel_rfl, by kernel_rfl⟩
theorem fnok138 : FnOKp Try.prog (138, Try.f138) := ⟨Try.func138, by kernel_rfl, by kernel_rfl⟩
theorem fnok137 : FnOKp Try.prog (137, Try.f137) := ⟨Try.func137, by kernel_rfl, by kernel_rfl⟩
theorem fnok139 : FnOKp Try.prog (139, Try.f139) := ⟨Try.func139, by kernel_rfl, by kernel_rfl⟩
theorem fnok140 : FnOKp Try.prog (140, Try.f140) := ⟨Try.func140, by kernel_rfl, by kernel_rfl⟩
theorem fnok127 : FnOKp Try.prog (127, Try.f127) := ⟨Try.func127, by kernel_rfl, by kernel_rfl⟩
theorem fnok145 : FnOKp Try.prog (145, Try.f145) := ⟨Try.func145, by kernel_rfl, by kernel_rfl⟩
theorem fnok146 : FnOKp Try.prog (146, Try.f146) := ⟨Try.func146, by kernel_rfl, by kernel_rfl⟩
theorem fnok147 : FnOKp Try.prog (147, Try.f147) := ⟨Try.func147, by kernel_rfl, by kernel_rfl⟩
theorem fnok141 : FnOKp Try.prog (141, Try.f141) := ⟨Try.func141, by kernel_rfl, by kernel_rfl⟩
theorem fnok118 : FnOKp Try.prog (118, Try.f118) := ⟨Try.func118, by kernel_rfl, by kernel_rfl⟩
theorem fnok149 : FnOKp Try.prog (149, Try.f149) := ⟨Try.func149, by kernel_rfl, by kernel_rfl⟩
theorem fnok148 : FnOKp Try.prog (148, Try.f148) := ⟨Try.func148, by kernel_rfl, by kernel_rfl⟩
theorem fnok151 : FnOKp Try.prog (151, Try.f151) := ⟨Try.func151, by kernel_rfl, by kernel_rfl⟩
theorem fnok150 : FnOKp Try.prog (150, Try.f150) := ⟨Try.func150, by kernel_rfl, by kernel_rfl⟩
theorem fnok152 : FnOKp Try.prog (152, Try.f152) := ⟨Try.func152, by kernel_rfl, by kernel_rfl⟩
theorem fnok154 : FnOKp Try.prog (154, Try.f154) := ⟨Try.func154, by kernel_rfl, by kernel_rfl⟩
theorem fnok153 : FnOKp Try.prog (153, Try.f153) := ⟨Try.func153, by kernel_rfl, by kernel_rfl⟩
theorem fnok119 : FnOKp Try.prog (119, Try.f119) := ⟨Try.func119, by kernel_rfl, by kernel_rfl⟩
theorem fnok157 : FnOKp Try.prog (157, Try.f157) := ⟨Try.func157, by kernel_rfl, by kernel_rfl⟩
theorem fnok158 : FnOKp Try.prog (158, Try.f158) := ⟨Try.func158, by kernel_rfl, by kernel_rfl⟩
theorem fnok155 : FnOKp Try.prog (155, Try.f155) := ⟨Try.func155, by kernel_rfl, by kernel_rfl⟩
theorem fnok159 : FnOKp Try.prog (159, Try.f159) := ⟨Try.func159, by kernel_rfl, by kernel_rfl⟩
theorem fnok160 : FnOKp Try.prog (160, Try.f160) := ⟨Try.func160, by kernel_rfl, by kernel_rfl⟩
theorem fnok162 : FnOKp Try.prog (162, Try.f162) := ⟨Try.func162, by kernel_rfl, by kernel_rfl⟩
theorem fnok161 : FnOKp Try.prog (161, Try.f161) := ⟨Try.func161, by kernel_rfl, by kernel_rfl⟩
theorem fnok164 : FnOKp Try.prog (164, Try.f164) := ⟨Try.func164, by kernel_rfl, by kernel_rfl⟩
theorem fnok163 : FnOKp Try.prog (163, Try.f163) := ⟨Try.func163, by kernel_rfl, by kernel_rfl⟩
theorem fnok165 : FnOKp Try.prog (165, Try.f165) := ⟨Try.func165, by kernel_rfl, by kernel_rfl⟩
theorem fns_all : ∀ p, p ∈ fnT → FnOKp Try.prog p := by
  unfold fnT
  simp only [List.forall_mem_cons]
  exact ⟨fnok9, fnok10, fnok11, fnok12, fnok13, fnok14, fnok36, fnok38, fnok37, fnok39, fnok19, fnok40, fnok41, fnok20, fnok21, fnok15, fnok17, fnok42, fnok43, fnok45, fnok44, fnok46, fnok47, fnok48, fnok49, fnok50, fnok51, fnok52, fnok53, fnok55, fnok54, fnok56, fnok57, fnok58, fnok83, fnok87, fnok65, fnok84, fnok85, fnok86, fnok60, fnok88, fnok90, fnok89, fnok93, fnok67, fnok94, fnok64, fnok59, fnok95, fnok71, fnok96, fnok97, fnok62, fnok98, fnok99, fnok100, fnok101, fnok102, fnok103, fnok104, fnok105, fnok123, fnok124, fnok106, fnok107, fnok66, fnok91, fnok92, fnok126, fnok125, fnok128, fnok129, fnok130, fnok108, fnok109, fnok131, fnok110, fnok132, fnok134, fnok133, fnok135, fnok136, fnok138, fnok137, fnok139, fnok140, fnok127, fnok145, fnok146, fnok147, fnok141, fnok118, fnok149, fnok148, fnok151, fnok150, fnok152, fnok154, fnok153, fnok119, fnok157, fnok158, fnok155, fnok159, fnok160, fnok162, fnok161, fnok164, fnok163, fnok165, fun _ h => by cases h⟩
theorem env_ok : EnvOK Try.prog E := ⟨fun t i h => tiB_ok (List.all_eq_true.1 ti_all _ (assoc_mem h)), fun f fn h => (fns_all _ (assoc_mem h)).1, by kernel_rfl, fun t h => by cases h⟩
theorem ext142_ok : ∀ (cells : List Cell) (res : Val) (fin : List Cell), extClone (.int .i64) cells = some (res, fin) → ∀ (G : Ctx) (vals : VS) (B : Nat → Nat) (S : Nat → Nat → BS), noRef cells → Rl G [] cells ⟨G.args, []⟩ G.w0 vals B G.F0 S → Calls Try.prog 142 G.args G.w0 (Done G cells.length res fin) :=
  clone_ok env_ok (fn := Try.f142) Try.func142 rfl rfl rfl rfl rfl (t := 53) (e := 3) (by kernel_rfl) (fun x K => by kernel_rfl) (by kernel_rfl) (fun x => by kernel_rfl)
theorem extf142_ok : ∃ fn, Try.prog.funcs[142]? = some fn ∧ (fn.name == "runtime.NumGoroutine") = false ∧ fn.body.isSome = true := ⟨Try.f142, Try.func142, by kernel_rfl, by kernel_rfl⟩
theorem ext_ok : ∀ f g, E.ext f = some g → (∃ fn, Try.prog.funcs[f]? = some fn ∧ (fn.name == "runtime.NumGoroutine") = false ∧ fn.body.isSome = true) ∧
    ∀ (cells : List Cell) (res : Val) (fin : List Cell), g cells = some (res, fin) → ∀ (G : Ctx) (vals : VS) (B : Nat → Nat) (S : Nat → Nat → BS), noRef cells → Rl G [] cells ⟨G.args, []⟩ G.w0 vals B G.F0 S → Calls Try.prog f G.args G.w0 (Done G cells.length res fin) := by
  intro f g h
  have hm := assoc_mem (l := extT) h
  simp only [extT, List.mem_cons, List.not_mem_nil, or_false, Prod.mk.injEq] at hm
  rcases hm with ⟨rfl, rfl⟩
  · exact ⟨extf142_ok, ext142_ok⟩
theorem fns_ok : FnsOK Try.prog E := ⟨fun f fn h => fns_all _ (assoc_mem h), ext_ok⟩
theorem own_ok : ownKnob Try.prog.godebug = none := by kernel_rfl
theorem laid_ok : laidOutB Try.prog = true := by kernel_rfl
end GoV
