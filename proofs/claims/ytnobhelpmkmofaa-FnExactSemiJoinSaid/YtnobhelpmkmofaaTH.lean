/- A part of the proof of FnExactSemiJoin: an interpreter of the model over plain data, its soundness, and what it makes of the functions that the statement reaches. Conditions: none beyond what the given statement itself says. -/
import Derived.Test.YtnobhelpmkmofaaTG
import Derived.Test.YtnobhelpmkmofaaRows
set_option linter.unusedVariables false
set_option linter.unusedSimpArgs false
set_option linter.unnecessarySimpa false
set_option linter.unusedSectionVars false
/- The tables are right. -/
namespace GoV
open Go Go.Proofs
set_option maxRecDepth 100000
theorem ti_all : (tiT.all fun p => tiB Try.prog E p.1 p.2) = true := by kernel_rfl
theorem fnok3 : FnOKp Try.prog (3, Try.f3) := ⟨Try.func3, by kernel_rfl, by kernel_rfl⟩
theorem fnok4 : FnOKp Try.prog (4, Try.f4) := ⟨Try.func4, by kernel_rfl, by kernel_rfl⟩
theorem fnok7 : FnOKp Try.prog (7, Try.f7) := ⟨Try.func7, by kernel_rfl, by kernel_rfl⟩
theorem fnok9 : FnOKp Try.prog (9, Try.f9) := ⟨Try.func9, by kernel_rfl, by kernel_rfl⟩
theorem fnok10 : FnOKp Try.prog (10, Try.f10) := ⟨Try.func10, by kernel_rfl, by kernel_rfl⟩
theorem fnok11 : FnOKp Try.prog (11, Try.f11) := ⟨Try.func11, by kernel_rfl, by kernel_rfl⟩
theorem fnok12 : FnOKp Try.prog (12, Try.f12) := ⟨Try.func12, by kernel_rfl, by kernel_rfl⟩
theorem fnok13 : FnOKp Try.prog (13, Try.f13) := ⟨Try.func13, by kernel_rfl, by kernel_rfl⟩
theorem fnok14 : FnOKp Try.prog (14, Try.f14) := ⟨Try.func14, by kernel_rfl, by kernel_rfl⟩
theorem fnok16 : FnOKp Try.prog (16, Try.f16) := ⟨Try.func16, by kernel_rfl, by kernel_rfl⟩
theorem fnok17 : FnOKp Try.prog (17, Try.f17) := ⟨Try.func17, by kernel_rfl, by kernel_rfl⟩
theorem fnok15 : FnOKp Try.prog (15, Try.f15) := ⟨Try.func15, by kernel_rfl, by kernel_rfl⟩
theorem fnok18 : FnOKp Try.prog (18, Try.f18) := ⟨Try.func18, by kernel_rfl, by kernel_rfl⟩
theorem fnok19 : FnOKp Try.prog (19, Try.f19) := ⟨Try.func19, by kernel_rfl, by kernel_rfl⟩
theorem fnok20 : FnOKp Try.prog (20, Try.f20) := ⟨Try.func20, by kernel_rfl, by kernel_rfl⟩
theorem fnok21 : FnOKp Try.prog (21, Try.f21) := ⟨Try.func21, by kernel_rfl, by kernel_rfl⟩
theorem fnok22 : FnOKp Try.prog (22, Try.f22) := ⟨Try.func22, by kernel_rfl, by kernel_rfl⟩
theorem fnok23 : FnOKp Try.prog (23, Try.f23) := ⟨Try.func23, by kernel_rfl, by kernel_rfl⟩
theorem fnok24 : FnOKp Try.prog (24, Try.f24) := ⟨Try.func24, by kernel_rfl, by kernel_rfl⟩
theorem fnok26 : FnOKp Try.prog (26, Try.f26) := ⟨Try.func26, by kernel_rfl, by kernel_rfl⟩
theorem fnok25 : FnOKp Try.prog (25, Try.f25) := ⟨Try.func25, by kernel_rfl, by kernel_rfl⟩
theorem fnok27 : FnOKp Try.prog (27, Try.f27) := ⟨Try.func27, by kernel_rfl, by kernel_rfl⟩
theorem fnok28 : FnOKp Try.prog (28, Try.f28) := ⟨Try.func28, by kernel_rfl, by kernel_rfl⟩
theorem fnok29 : FnOKp Try.prog (29, Try.f29) := ⟨Try.func29, by kernel_rfl, by kernel_rfl⟩
theorem fnok30 : FnOKp Try.prog (30, Try.f30) := ⟨Try.func30, by kernel_rfl, by kernel_rfl⟩
theorem fnok31 : FnOKp Try.prog (31, Try.f31) := ⟨Try.func31, by kernel_rfl, by kernel_rfl⟩
theorem fnok34 : FnOKp Try.prog (34, Try.f34) := ⟨Try.func34, by kernel_rfl, by kernel_rfl⟩
theorem fnok44 : FnOKp Try.prog (44, Try.f44) := ⟨Try.func44, by kernel_rfl, by kernel_rfl⟩
theorem fnok45 : FnOKp Try.prog (45, Try.f45) := ⟨Try.func45, by kernel_rfl, by kernel_rfl⟩
theorem fnok37 : FnOKp Try.prog (37, Try.f37) := ⟨Try.func37, by kernel_rfl, by kernel_rfl⟩
theorem fnok39 : FnOKp Try.prog (39, Try.f39) := ⟨Try.func39, by kernel_rfl, by kernel_rfl⟩
theorem fnok53 : FnOKp Try.prog (53, Try.f53) := ⟨Try.func53, by kernel_rfl, by kernel_rfl⟩
theorem fnok54 : FnOKp Try.prog (54, Try.f54) := ⟨Try.func54, by kernel_rfl, by kernel_rfl⟩
theorem fnok55 : FnOKp Try.prog (55, Try.f55) := ⟨Try.func55, by kernel_rfl, by kernel_rfl⟩
theorem fnok56 : FnOKp Try.prog (56, Try.f56) := ⟨Try.func56, by kernel_rfl, by kernel_rfl⟩
theorem fnok57 : FnOKp Try.prog (57, Try.f57) := ⟨Try.func57, by kernel_rfl, by kernel_rfl⟩
theorem fnok58 : FnOKp Try.prog (58, Try.f58) := ⟨Try.func58, by kernel_rfl, by kernel_rfl⟩
theorem fnok59 : FnOKp Try.prog (59, Try.f59) := ⟨Try.func59, by kernel_rfl, by kernel_rfl⟩
theorem fnok60 : FnOKp Try.prog (60, Try.f60) := ⟨Try.func60, by kernel_rfl, by kernel_rfl⟩
theorem fnok61 : FnOKp Try.prog (61, Try.f61) := ⟨Try.func61, by kernel_rfl, by kernel_rfl⟩
theorem fnok62 : FnOKp Try.prog (62, Try.f62) := ⟨Try.func62, by kernel_rfl, by kernel_rfl⟩
theorem fnok63 : FnOKp Try.prog (63, Try.f63) := ⟨Try.func63, by kernel_rfl, by kernel_rfl⟩
theorem fnok64 : FnOKp Try.prog (64, Try.f64) := ⟨Try.func64, by kernel_rfl, by kernel_rfl⟩
theorem fnok65 : FnOKp Try.prog (65, Try.f65) := ⟨Try.func65, by kernel_rfl, by kernel_rfl⟩
theorem fnok70 : FnOKp Try.prog (70, Try.f70) := ⟨Try.func70, by kernel_rfl, by kernel_rfl⟩
theorem fnok71 : FnOKp Try.prog (71, Try.f71) := ⟨Try.func71, by kernel_rfl, by kernel_rfl⟩
theorem fnok66 : FnOKp Try.prog (66, Try.f66) := ⟨Try.func66, by kernel_rfl, by kernel_rfl⟩
theorem fnok67 : FnOKp Try.prog (67, Try.f67) := ⟨Try.func67, by kernel_rfl, by kernel_rfl⟩
theorem fnok69 : FnOKp Try.prog (69, Try.f69) := ⟨Try.func69, by kernel_rfl, by kernel_rfl⟩
theorem fnok68 : FnOKp Try.prog (68, Try.f68) := ⟨Try.func68, by kernel_rfl, by kernel_rfl⟩
theorem fnok72 : FnOKp Try.prog (72, Try.f72) := ⟨Try.func72, by kernel_rfl, by kernel_rfl⟩
theorem fnok73 : FnOKp Try.prog (73, Try.f73) := ⟨Try.func73, by kernel_rfl, by kernel_rfl⟩
theorem fnok74 : FnOKp Try.prog (74, Try.f74) := ⟨Try.func74, by kernel_rfl, by kernel_rfl⟩
theorem fnok75 : FnOKp Try.prog (75, Try.f75) := ⟨Try.func75, by kernel_rfl, by kernel_rfl⟩
theorem fnok76 : FnOKp Try.prog (76, Try.f76) := ⟨Try.func76, by kernel_rfl, by kernel_rfl⟩
theorem fnok77 : FnOKp Try.prog (77, Try.f77) := ⟨Try.func77, by kernel_rfl, by kernel_rfl⟩
theorem fnok78 : FnOKp Try.prog (78, Try.f78) := ⟨Try.func78, by kernel_rfl, by kernel_rfl⟩
theorem fnok79 : FnOKp Try.prog (79, Try.f79) := ⟨Try.func79, by kernel_rfl, by kernel_rfl⟩
theorem fnok80 : FnOKp Try.prog (80, Try.f80) := ⟨Try.func80, by kernel_rfl, by kernel_rfl⟩
theorem fnok83 : FnOKp Try.prog (83, Try.f83) := ⟨Try.func83, by kernel_rfl, by kernel_rfl⟩
theorem fnok81 : FnOKp Try.prog (81, Try.f81) := ⟨Try.func81, by kernel_rfl, by kernel_rfl⟩
theorem fnok82 : FnOKp Try.prog (82, Try.f82) := ⟨Try.func82, by kernel_rfl, by kernel_rfl⟩
theorem fnok84 : FnOKp Try.prog (84, Try.f84) := ⟨Try.func84, by kernel_rfl, by kernel_rfl⟩
theorem fnok85 : FnOKp Try.prog (85, Try.f85) := ⟨Try.func85, by kernel_rfl, by kernel_rfl⟩
theorem fnok86 : FnOKp Try.prog (86, Try.f86) := ⟨Try.func86, by kernel_rfl, by kernel_rfl⟩
theorem fnok91 : FnOKp Try.prog (91, Try.f91) := ⟨Try.func91, by kernel_rfl, by kernel_rfl⟩
theorem fnok88 : FnOKp Try.prog (88, Try.f88) := ⟨Try.func88, by kernel_rfl, by kernel_rfl⟩
theorem fnok103 : FnOKp Try.prog (103, Try.f103) := ⟨Try.func103, by kernel_rfl, by kernel_rfl⟩
theorem fnok104 : FnOKp Try.prog (104, Try.f104) := ⟨Try.func104, by kernel_rfl, by kernel_rfl⟩
theorem fnok93 : FnOKp Try.prog (93, Try.f93) := ⟨Try.func93, by kernel_rfl, by kernel_rfl⟩
theorem fnok105 : FnOKp Try.prog (105, Try.f105) := ⟨Try.func105, by kernel_rfl, by kernel_rfl⟩
theorem fnok106 : FnOKp Try.prog (106, Try.f106) := ⟨Try.func106, by kernel_rfl, by kernel_rfl⟩
theorem fnok97 : FnOKp Try.prog (97, Try.f97) := ⟨Try.func97, by kernel_rfl, by kernel_rfl⟩
theorem fnok99 : FnOKp Try.prog (99, Try.f99) := ⟨Try.func99, by kernel_rfl, by kernel_rfl⟩
theorem fnok119 : FnOKp Try.prog (119, Try.f119) := ⟨Try.func119, by kernel_rfl, by kernel_rfl⟩
theorem fnok120 : FnOKp Try.prog (120, Try.f120) := ⟨Try.func120, by kernel_rfl, by kernel_rfl⟩
theorem fnok121 : FnOKp Try.prog (121, Try.f121) := ⟨Try.func121, by kernel_rfl, by kernel_rfl⟩
theorem fnok123 : FnOKp Try.prog (123, Try.f123) := ⟨Try.func123, by kernel_rfl, by kernel_rfl⟩
theorem fnok122 : FnOKp Try.prog (122, Try.f122) := ⟨Try.func122, by kernel_rfl, by kernel_rfl⟩
theorem fnok126 : FnOKp Try.prog (126, Try.f126) := ⟨Try.func126, by kernel_rfl, by kernel_rfl⟩
theorem fnok127 : FnOKp Try.prog (127, Try.f127) := ⟨Try.func127, by kernel_rfl, by kernel_rfl⟩
theorem fnok128 : FnOKp Try.prog (128, Try.f128) := ⟨Try.func128, by kernel_rfl, by kernel_rfl⟩
theorem fnok129 : FnOKp Try.prog (129, Try.f129) := ⟨Try.func129, by kernel_rfl, by kernel_rfl⟩
theorem fnok130 : FnOKp Try.prog (130, Try.f130) := ⟨Try.func130, by kernel_rfl, by kernel_rfl⟩
theorem fnok131 : FnOKp Try.prog (131, Try.f131) := ⟨Try.func131, by kernel_rfl, by kernel_rfl⟩
theorem fnok132 : FnOKp Try.prog (132, Try.f132) := ⟨Try.func132, by kernel_rfl, by kernel_rfl⟩
theorem fnok133 : FnOKp Try.prog (133, Try.f133) := ⟨Try.func133, by kernel_rfl, by kernel_rfl⟩
theorem fnok139 : FnOKp Try.prog (139, Try.f139) := ⟨Try.func139, by kernel_rfl, by kernel_rfl⟩
theorem fnok134 : FnOKp Try.prog (134, Try.f134) := ⟨Try.func134, by kernel_rfl, by kernel_rfl⟩
theorem fnok135 : FnOKp Try.prog (135, Try.f135) := ⟨Try.func135, by kernel_rfl, by kernel_rfl⟩
theorem fnok136 : FnOKp Try.prog (136, Try.f136) := ⟨Try.func136, by kernel_rfl, by kernel_rfl⟩
theorem fnok137 : FnOKp Try.prog (137, Try.f137) := ⟨Try.func137, by kernel_rfl, by kernel_rfl⟩
theorem fnok138 : FnOKp Try.prog (138, Try.f138) := ⟨Try.func138, by kernel_rfl, by kernel_rfl⟩
theorem fnok140 : FnOKp Try.prog (140, Try.f140) := ⟨Try.func140, by kernel_rfl, by kernel_rfl⟩
theorem fnok141 : FnOKp Try.prog (141, Try.f141) := ⟨Try.func141, by kernel_rfl, by kernel_rfl⟩
theorem fnok142 : FnOKp Try.prog (142, Try.f142) := ⟨Try.func142, by kernel_rfl, by kernel_rfl⟩
theorem fnok143 : FnOKp Try.prog (143, Try.f143) := ⟨Try.func143, by kernel_rfl, by kernel_rfl⟩
theorem fnok145 : FnOKp Try.prog (145, Try.f145) := ⟨Try.func145, by kernel_rfl, by kernel_rfl⟩
theorem fnok144 : FnOKp Try.prog (144, Try.f144) := ⟨Try.func144, by kernel_rfl, by kernel_rfl⟩
theorem fnok147 : FnOKp Try.prog (147, Try.f147) := ⟨Try.func147, by kernel_rfl, by kernel_rfl⟩
theorem fnok149 : FnOKp Try.prog (149, Try.f149) := ⟨Try.func149, by kernel_rfl, by kernel_rfl⟩
theorem fnok117 : FnOKp Try.prog (117, Try.f117) := ⟨Try.func117, by kernel_rfl, by kernel_rfl⟩
theorem fnok151 : FnOKp Try.prog (151, Try.f151) := ⟨Try.func151, by kernel_rfl, by kernel_rfl⟩
theorem fnok150 : FnOKp Try.prog (150, Try.f150) := ⟨Try.func150, by kernel_rfl, by kernel_rfl⟩
theorem fnok152 : FnOKp Try.prog (152, Try.f152) := ⟨Try.func152, by kernel_rfl, by kernel_rfl⟩
theorem fnok153 : FnOKp Try.prog (153, Try.f153) := ⟨Try.func153, by kernel_rfl, by kernel_rfl⟩
theorem fnok157 : FnOKp Try.prog (157, Try.f157) := ⟨Try.func157, by kernel_rfl, by kernel_rfl⟩
theorem fnok158 : FnOKp Try.prog (158, Try.f158) := ⟨Try.func158, by kernel_rfl, by kernel_rfl⟩
theorem fnok160 : FnOKp Try.prog (160, Try.f160) := ⟨Try.func160, by kernel_rfl, by kernel_rfl⟩
theorem fnok159 : FnOKp Try.prog (159, Try.f159) := ⟨Try.func159, by kernel_rfl, by kernel_rfl⟩
theorem fnok169 : FnOKp Try.prog (169, Try.f169) := ⟨Try.func169, by kernel_rfl, by kernel_rfl⟩
theorem fnok170 : FnOKp Try.prog (170, Try.f170) := ⟨Try.func170, by kernel_rfl, by kernel_rfl⟩
theorem fnok171 : FnOKp Try.prog (171, Try.f171) := ⟨Try.func171, by kernel_rfl, by kernel_rfl⟩
theorem fnok172 : FnOKp Try.prog (172, Try.f172) := ⟨Try.func172, by kernel_rfl, by kernel_rfl⟩
theorem fnok168 : FnOKp Try.prog (168, Try.f168) := ⟨Try.func168, by kernel_rfl, by kernel_rfl⟩
theorem fnok184 : FnOKp Try.prog (184, Try.f184) := ⟨Try.func184, by kernel_rfl, by kernel_rfl⟩
theorem fnok185 : FnOKp Try.prog (185, Try.f185) := ⟨Try.func185, by kernel_rfl, by kernel_rfl⟩
theorem fnok124 : FnOKp Try.prog (124, Try.f124) := ⟨Try.func124, by kernel_rfl, by kernel_rfl⟩
theorem fnok125 : FnOKp Try.prog (125, Try.f125) := ⟨Try.func125, by kernel_rfl, by kernel_rfl⟩
theorem fnok188 : FnOKp Try.prog (188, Try.f188) := ⟨Try.func188, by kernel_rfl, by kernel_rfl⟩
theorem fnok189 : FnOKp Try.prog (189, Try.f189) := ⟨Try.func189, by kernel_rfl, by kernel_rfl⟩
theorem fnok190 : FnOKp Try.prog (190, Try.f190) := ⟨Try.func190, by kernel_rfl, by kernel_rfl⟩
theorem fnok191 : FnOKp Try.prog (191, Try.f191) := ⟨Try.func191, by kernel_rfl, by kernel_rfl⟩
theorem fnok192 : FnOKp Try.prog (192, Try.f192) := ⟨Try.func192, by kernel_rfl, by kernel_rfl⟩
theorem fnok193 : FnOKp Try.prog (193, Try.f193) := ⟨Try.func193, by kernel_rfl, by kernel_rfl⟩
theorem fnok194 : FnOKp Try.prog (194, Try.f194) := ⟨Try.func194, by kernel_rfl, by kernel_rfl⟩
theorem fnok195 : FnOKp Try.prog (195, Try.f195) := ⟨Try.func195, by kernel_rfl, by kernel_rfl⟩
theorem fnok196 : FnOKp Try.prog (196, Try.f196) := ⟨Try.func196, by kernel_rfl, by kernel_rfl⟩
theorem fnok197 : FnOKp Try.prog (197, Try.f197) := ⟨Try.func197, by kernel_rfl, by kernel_rfl⟩
theorem fnok198 : FnOKp Try.prog (198, Try.f198) := ⟨Try.func198, by kernel_rfl, by kernel_rfl⟩
theorem fnok146 : FnOKp Try.prog (146, Try.f146) := ⟨Try.func146, by kernel_rfl, by kernel_rfl⟩
theorem fnok200 : FnOKp Try.prog (200, Try.f200) := ⟨Try.func200, by kernel_rfl, by kernel_rfl⟩
theorem fnok199 : FnOKp Try.prog (199, Try.f199) := ⟨Try.func199, by kernel_rfl, by kernel_rfl⟩
theorem fnok148 : FnOKp Try.prog (148, Try.f148) := ⟨Try.func148, by kernel_rfl, by kernel_rfl⟩
theorem fnok202 : FnOKp Try.prog (202, Try.f202) := ⟨Try.func202, by kernel_rfl, by kernel_rfl⟩
theorem fnok201 : FnOKp Try.prog (201, Try.f201) := ⟨Try.func201, by kernel_rfl, by kernel_rfl⟩
theorem fnok161 : FnOKp Try.prog (161, Try.f161) := ⟨Try.func161, by kernel_rfl, by kernel_rfl⟩
theorem fnok162 : FnOKp Try.prog (162, Try.f162) := ⟨Try.func162, by kernel_rfl, by kernel_rfl⟩
theorem fnok204 : FnOKp Try.prog (204, Try.f204) := ⟨Try.func204, by kernel_rfl, by kernel_rfl⟩
theorem fnok203 : FnOKp Try.prog (203, Try.f203) := ⟨Try.func203, by kernel_rfl, by kernel_rfl⟩
theorem fnok212 : FnOKp Try.prog (212, Try.f212) := ⟨Try.func212, by kernel_rfl, by kernel_rfl⟩
theorem fnok213 : FnOKp Try.prog (213, Try.f213) := ⟨Try.func213, by kernel_rfl, by kernel_rfl⟩
theorem fnok186 : FnOKp Try.prog (186, Try.f186) := ⟨Try.func186, by kernel_rfl, by kernel_rfl⟩
theorem fnok187 : FnOKp Try.prog (187, Try.f187) := ⟨Try.func187, by kernel_rfl, by kernel_rfl⟩
theorem fnok221 : FnOKp Try.prog (221, Try.f221) := ⟨Try.func221, by kernel_rfl, by kernel_rfl⟩
theorem fnok155 : FnOKp Try.prog (155, Try.f155) := ⟨Try.func155, by kernel_rfl, by kernel_rfl⟩
theorem fnok208 : FnOKp Try.prog (208, Try.f208) := ⟨Try.func208, by kernel_rfl, by kernel_rfl⟩
theorem fnok222 : FnOKp Try.prog (222, Try.f222) := ⟨Try.func222, by kernel_rfl, by kernel_rfl⟩
theorem fnok210 : FnOKp Try.prog (210, Try.f210) := ⟨Try.func210, by kernel_rfl, by kernel_rfl⟩
theorem fnok223 : FnOKp Try.prog (223, Try.f223) := ⟨Try.func223, by kernel_rfl, by kernel_rfl⟩
theorem fnok224 : FnOKp Try.prog (224, Try.f224) := ⟨Try.func224, by kernel_rfl, by kernel_rfl⟩
theorem fnok225 : FnOKp Try.prog (225, Try.f225) := ⟨Try.func225, by kernel_rfl, by kernel_rfl⟩
theorem fnok226 : FnOKp Try.prog (226, Try.f226) := ⟨Try.func226, by kernel_rfl, by kernel_rfl⟩
theorem fnok206 : FnOKp Try.prog (206, Try.f206) := ⟨Try.func206, by kernel_rfl, by kernel_rfl⟩
theorem fnok205 : FnOKp Try.prog (205, Try.f205) := ⟨Try.func205, by kernel_rfl, by kernel_rfl⟩
theorem fnok227 : FnOKp Try.prog (227, Try.f227) := ⟨Try.func227, by kernel_rfl, by kernel_rfl⟩
theorem fnok229 : FnOKp Try.prog (229, Try.f229) := ⟨Try.func229, by kernel_rfl, by kernel_rfl⟩
theorem fnok230 : FnOKp Try.prog (230, Try.f230) := ⟨Try.func230, by kernel_rfl, by kernel_rfl⟩
theorem fnok236 : FnOKp Try.prog (236, Try.f236) := ⟨Try.func236, by kernel_rfl, by kernel_rfl⟩
theorem fnok228 : FnOKp Try.prog (228, Try.f228) := ⟨Try.func228, by kernel_rfl, by kernel_rfl⟩
theorem fnok237 : FnOKp Try.prog (237, Try.f237) := ⟨Try.func237, by kernel_rfl, by kernel_rfl⟩
theorem fnok241 : FnOKp Try.prog (241, Try.f241) := ⟨Try.func241, by kernel_rfl, by kernel_rfl⟩
theorem fns_all : ∀ p, p ∈ fnT → FnOKp Try.prog p := by
  unfold fnT
  simp only [List.forall_mem_cons]
  exact ⟨fnok3, fnok4, fnok7, fnok9, fnok10, fnok11, fnok12, fnok13, fnok14, fnok16, fnok17, fnok15, fnok18, fnok19, fnok20, fnok21, fnok22, fnok23, fnok24, fnok26, fnok25, fnok27, fnok28, fnok29, fnok30, fnok31, fnok34, fnok44, fnok45, fnok37, fnok39, fnok53, fnok54, fnok55, fnok56, fnok57, fnok58, fnok59, fnok60, fnok61, fnok62, fnok63, fnok64, fnok65, fnok70, fnok71, fnok66, fnok67, fnok69, fnok68, fnok72, fnok73, fnok74, fnok75, fnok76, fnok77, fnok78, fnok79, fnok80, fnok83, fnok81, fnok82, fnok84, fnok85, fnok86, fnok91, fnok88, fnok103, fnok104, fnok93, fnok105, fnok106, fnok97, fnok99, fnok119, fnok120, fnok121, fnok123, fnok122, fnok126, fnok127, fnok128, fnok129, fnok130, fnok131, fnok132, fnok133, fnok139, fnok134, fnok135, fnok136, fnok137, fnok138, fnok140, fnok141, fnok142, fnok143, fnok145, fnok144, fnok147, fnok149, fnok117, fnok151, fnok150, fnok152, fnok153, fnok157, fnok158, fnok160, fnok159, fnok169, fnok170, fnok171, fnok172, fnok168, fnok184, fnok185, fnok124, fnok125, fnok188, fnok189, fnok190, fnok191, fnok192, fnok193, fnok194, fnok195, fnok196, fnok197, fnok198, fnok146, fnok200, fnok199, fnok148, fnok202, fnok201, fnok161, fnok162, fnok204, fnok203, fnok212, fnok213, fnok186, fnok187, fnok221, fnok155, fnok208, fnok222, fnok210, fnok223, fnok224, fnok225, fnok226, fnok206, fnok205, fnok227, fnok229, fnok230, fnok236, fnok228, fnok237, fnok241, fun _ h => by cases h⟩
theorem env_ok : EnvOK Try.prog E := ⟨fun t i h => tiB_ok (List.all_eq_true.1 ti_all _ (assoc_mem h)), fun f fn h => (fns_all _ (assoc_mem h)).1, by kernel_rfl, fun t h => by cases h⟩
theorem ext178_ok : ∀ (cells : List Cell) (res : Val) (fin : List Cell), extClone (.int .i64) cells = some (res, fin) → ∀ (G : Ctx) (vals : VS) (B : Nat → Nat) (S : Nat → Nat → BS), noRef cells → Rl G [] cells ⟨G.args, []⟩ G.w0 vals B G.F0 S → Calls Try.prog 178 G.args G.w0 (Done G cells.length res fin) :=
  clone_ok env_ok (fn := Try.f178) Try.func178 rfl rfl rfl rfl rfl (t := 75) (e := 3) (by kernel_rfl) (fun x K => by kernel_rfl) (by kernel_rfl) (fun x => by kernel_rfl)
theorem extf178_ok : ∃ fn, Try.prog.funcs[178]? = some fn ∧ (fn.name == "runtime.NumGoroutine") = false ∧ fn.body.isSome = true := ⟨Try.f178, Try.func178, by kernel_rfl, by kernel_rfl⟩
theorem ext_ok : ∀ f g, E.ext f = some g → (∃ fn, Try.prog.funcs[f]? = some fn ∧ (fn.name == "runtime.NumGoroutine") = false ∧ fn.body.isSome = true) ∧
    ∀ (cells : List Cell) (res : Val) (fin : List Cell), g cells = some (res, fin) → ∀ (G : Ctx) (vals : VS) (B : Nat → Nat) (S : Nat → Nat → BS), noRef cells → Rl G [] cells ⟨G.args, []⟩ G.w0 vals B G.F0 S → Calls Try.prog f G.args G.w0 (Done G cells.length res fin) := by
  intro f g h
  have hm := assoc_mem (l := extT) h
  simp only [extT, List.mem_cons, List.not_mem_nil, or_false, Prod.mk.injEq] at hm
  rcases hm with ⟨rfl, rfl⟩
  · exact ⟨extf178_ok, ext178_ok⟩
theorem fns_ok : FnsOK Try.prog E := ⟨fun f fn h => fns_all _ (assoc_mem h), ext_ok⟩
theorem own_ok : ownKnob Try.prog.godebug = none := by kernel_rfl
theorem laid_ok : laidOutB Try.prog = true := by kernel_rfl
end GoV
