/- A part of the proof of FnExactRunView: an interpreter of the model over plain data, its soundness, and what it makes of the functions that the statement reaches. Conditions: none beyond what the given statement itself says. -/
import Derived.Test.YtbnefjocjecifaaGreatTI
set_option linter.unusedVariables false
set_option linter.unusedSimpArgs false
set_option linter.unnecessarySimpa false
set_option linter.unusedSectionVars false
/- The functions of the program, each told by what it answers in the end (printed by wip/tools/emit.py). -/
/-! Names of functions here: xs00 = slices_ContainsFunc_impl_Test_impl_Test_impl_areAll_impl_Test_1_impl_Table_selected_1_1, xs01 = slices_IndexFunc_impl_Test_impl_Test_impl_areAll_impl_Test_1_impl_Table_selected_1_1, xs02 = slices_ContainsFunc_impl_Test_impl_Test_impl_areAll_impl_Test_1_impl_GoodTests_1, xs03 = slices_IndexFunc_impl_Test_impl_Test_impl_areAll_impl_Test_1_impl_GoodTests_1, xs04 = slices_SortStableFunc_impl_Weighted_impl_Weighted_impl_summed_1_056, xs05 = slices_ContainsFunc_int_int_impl_areAll_int_1_impl_areColumns_1, xs06 = slices_ContainsFunc_int_int_impl_areAll_int_1_impl_arePairs_1, xs07 = slices_ContainsFunc_int_int_impl_areAll_int_1_impl_isColumns, xs08 = slices_IndexFunc_int_int_impl_areAll_int_1_impl_areColumns_1, xs09 = slices_ContainsFunc_int_int_impl_areAll_int_1_impl_joined_1, xs0a = slices_insertionSortCmpFunc_impl_Weighted_impl_summed_1_c6e, xs0b = slices_IndexFunc_int_int_impl_areAll_int_1_impl_arePairs_1, xs0c = slices_ContainsFunc_int_int_impl_areAll_int_1_impl_isCell, xs0d = slices_IndexFunc_int_int_impl_areAll_int_1_impl_isColumns, xs0e = slices_IndexFunc_int_int_impl_areAll_int_1_impl_joined_1, xs0f = slices_swapRangeCmpFunc_impl_Weighted_impl_summed_1_70b, xs0g = slices_IndexFunc_int_int_impl_areAll_int_1_impl_isCell, xs0h = slices_symMergeCmpFunc_impl_Weighted_impl_summed_1_70b, xs0i = slices_rotateCmpFunc_impl_Weighted_impl_summed_1_70b, xs0j = slices_stableCmpFunc_impl_Weighted_impl_summed_1_6af, xi0k = impl_areAll_impl_Test_1_impl_Table_selected_1_1, xi0l = impl_areAll_impl_Test_impl_Table_selected_1_1, xs0m = slices_ContainsFunc_int_int_impl_unpaired_1, xs0n = slices_Grow_impl_Weighted_impl_Weighted_1b9, xs0o = slices_Concat_impl_Weighted_impl_Weighted, xi0p = impl_areAll_impl_Test_1_impl_GoodTests_1, xs0q = slices_IndexFunc_int_int_impl_unpaired_1, xi0r = impl_areAll_impl_Test_impl_GoodTests_1, xi0s = impl_Table_kept_impl_Table_distinct_1, xi0t = impl_Table_kept_impl_Table_selected_1, xi0u = impl_areAll_int_1_impl_areColumns_1, xi0v = impl_areAll_int_1_impl_arePairs_1, xi0w = impl_areAll_int_impl_areColumns_1, xi0x = impl_areAll_int_1_impl_isColumns, xi0y = impl_areAll_int_1_impl_joined_1, xi0z = impl_areAll_int_impl_arePairs_1, xi10 = impl_areAll_int_impl_isColumns, xi11 = impl_areAll_int_1_impl_isCell, xi12 = impl_areAll_int_impl_joined_1, xi13 = impl_areAll_int_impl_isCell, xi14 = impl_Table_selected_1_1, xs15 = slices_Grow_int_int_c0f, xl16 = laws_markWeightedS_d97, xs17 = slices_Compare_int_int, xi18 = impl_Table_distinct_1, xi19 = impl_Table_selected_1, xs1a = slices_Concat_int_int, xi1b = impl_Table_projected, xs1c = slices_Clone_int_int, xi1d = impl_Table_distinct, xi1e = impl_Table_selected, xi1f = impl_View_columnsOf, xl1g = laws_FnExactRunView, xl1h = laws_markTableS_3ec, xi1i = impl_joinedColumns, xl1j = laws_heldWeightedS, xl1k = laws_markIntSS_1f6, xl1l = laws_markPartS_6b8, xl1m = laws_markTable_d7a, xl1n = laws_markTestS_5b1, xi1o = impl_Table_scaled, xi1p = impl_areColumns_1, xl1q = laws_markIntS_83f, xl1r = laws_markView_311, xi1s = impl_GoodTests_1, xi1t = impl_Part_linear, xi1u = impl_Test_isTrue, xi1v = impl_compareRows, xl1w = laws_eqWeightedS, xl1x = laws_szWeightedS, xl1y = laws_toWeightedS, xc1z = cmp_Compare_int, xi20 = impl_Row_picked, xi21 = impl_Table_join, xi22 = impl_View_fitTo, xi23 = impl_areColumns, xi24 = impl_arePairs_1, xi25 = impl_unpaired_1, xl26 = laws_eqWeighted, xl27 = laws_szWeighted, xl28 = laws_toWeighted, xs29 = spec_l3Distinct, xs2a = spec_l6Part_399, xi2b = impl_CheckView, xi2c = impl_GoodTable, xi2d = impl_GoodTests, xi2e = impl_Part_uses, xi2f = impl_isColumns, xl2g = laws_heldTable, xs2h = spec_GoodTable, xs2i = spec_GoodTests, xs2j = spec_l1Columns, xs2k = spec_l1Compare, xs2l = spec_l3Project, xs2m = spec_l6Columns, xc2n = cmp_isNaN_int, xi2o = impl_arePairs, xi2p = impl_isWeight, xi2q = impl_joined_1, xi2r = impl_summed_1, xi2s = impl_unpaired, xl2t = laws_eqTableS, xl2u = laws_heldIntS, xl2v = laws_szTableS, xl2w = laws_toTableS, xs2x = spec_l2OwnRow, xs2y = spec_l2Weight, xs2z = spec_l3Select, xs30 = spec_l6Tables, xi31 = impl_GoodRow, xi32 = impl_Part_do, xi33 = impl_Row_own, xi34 = impl_RunView, xi35 = impl_isPlace, xi36 = impl_isRowOf, xl37 = laws_eqIntSS, xl38 = laws_eqPartS, xl39 = laws_eqTable, xl3a = laws_eqTestS, xl3b = laws_szIntSS, xl3c = laws_szPartS, xl3d = laws_szTable, xl3e = laws_szTestS, xl3f = laws_toIntSS, xl3g = laws_toPartS, xl3h = laws_toTable, xl3i = laws_toTestS, xs3j = spec_GoodRow, xs3k = spec_RunView, xs3l = spec_l1Pairs, xs3m = spec_l2Scale, xs3n = spec_l6Check, xi3o = impl_RunAll, xi3p = impl_isCell, xi3q = impl_joined, xi3r = impl_summed, xi3s = impl_within, xl3t = laws_eqIntS, xl3u = laws_eqPart, xl3v = laws_eqTest, xl3w = laws_eqView, xl3x = laws_szIntS, xl3y = laws_szPart, xl3z = laws_szView, xl40 = laws_toIntS, xl41 = laws_toPart, xl42 = laws_toTest, xl43 = laws_toView, xs44 = spec_RunAll, xs45 = spec_l1Join, xs46 = spec_l1Pick, xs47 = spec_l2Tell, xs48 = spec_l3Join, xs49 = spec_l3Left, xs4a = spec_l3True, xl4b = laws_eqRow, xl4c = laws_szRow, xl4d = laws_toRow, xs4e = spec_l2Add, xs4f = spec_l2Put, xs4g = spec_l6All, xs4h = spec_l1In, xi4i = impl_one -/
namespace GoV
abbrev Za:=List (Int × Int × Int × List (Int × Int × Int) × List Int × List (List Int))
abbrev Zb:=List (Int × List (List Int × Int))
abbrev Zd:=List (List Int × Int)
abbrev Ze:=List (Int × Int × Int)
abbrev Zg:=List (List Int)
abbrev Ya:Ty:=.sl (.pair (.int .i64) (.pair (.int .i64) (.pair (.int .i64) (.pair (.sl (.pair (.int .i64) (.pair (.int .i64) (.int .i64)))) (.pair (.sl (.int .i64)) (.sl (.sl (.int .i64))))))))
abbrev Yb:Ty:=.sl (.pair (.int .i64) (.sl (.pair (.sl (.int .i64)) (.int .i64))))
abbrev Yc:Ty:=.sl (.pair (.int .i64) (.pair (.int .i64) (.int .i64)))
abbrev Yd:Ty:=.sl (.pair (.sl (.int .i64)) (.int .i64))
abbrev Ye:Ty:=.sl (.sl (.int .i64))
open Go Go.Proofs
set_option maxRecDepth 100000
noncomputable section

def xl3z.c (v0:List Int) (v1:Za) (v2:Int):List Cell:=ac [.d .fro (.sl (.int .i64)) v0,.d .fro Ya v1]::vc (iL v2)::[]
def xl3z.mk (b:Int):R:=(⟨.one,[iL b]⟩,nn 2 ([]))
def xl3z.un (r:R):Int:=((leafR r 0).dat (.int .i64))
def xl3z (v0:List Int) (v1:Za) (v2:Int):Option (Int):=tOf xl3z.mk (vlim E 6 (xl3z.c v0 v1 v2))
def xl3x.c (v0:List Int) (v1:Int):List Cell:=vc (.d .fro (.sl (.int .i64)) v0)::vc (iL v1)::[]
def xl3x.mk (b:Int):R:=(⟨.one,[iL b]⟩,nn 2 ([]))
def xl3x.un (r:R):Int:=((leafR r 0).dat (.int .i64))
def xl3x (v0:List Int) (v1:Int):Option (Int):=tOf xl3x.mk (vlim E 24 (xl3x.c v0 v1))
def xl3c.c (v0:Za) (v1:Int):List Cell:=vc (.d .fro Ya v0)::vc (iL v1)::[]
def xl3c.mk (b:Int):R:=(⟨.one,[iL b]⟩,nn 2 ([]))
def xl3c.un (r:R):Int:=((leafR r 0).dat (.int .i64))
def xl3c (v0:Za) (v1:Int):Option (Int):=tOf xl3c.mk (vlim E 25 (xl3c.c v0 v1))
def xl3y.c (v0:Int) (v1:Int) (v2:Int) (v3:Ze) (v4:List Int) (v5:Zg) (v6:Int):List Cell:=ac [iL v0,iL v1,iL v2,.d .fro Yc v3,.d .fro (.sl (.int .i64)) v4,.d .fro Ye v5]::vc (iL v6)::[]
def xl3y.mk (b:Int):R:=(⟨.one,[iL b]⟩,nn 2 ([]))
def xl3y.un (r:R):Int:=((leafR r 0).dat (.int .i64))
def xl3y (v0:Int) (v1:Int) (v2:Int) (v3:Ze) (v4:List Int) (v5:Zg) (v6:Int):Option (Int):=tOf xl3y.mk (vlim E 51 (xl3y.c v0 v1 v2 v3 v4 v5 v6))
def xl3e.c (v0:Ze) (v1:Int):List Cell:=vc (.d .fro Yc v0)::vc (iL v1)::[]
def xl3e.mk (b:Int):R:=(⟨.one,[iL b]⟩,nn 2 ([]))
def xl3e.un (r:R):Int:=((leafR r 0).dat (.int .i64))
def xl3e (v0:Ze) (v1:Int):Option (Int):=tOf xl3e.mk (vlim E 88 (xl3e.c v0 v1))
def xl3b.c (v0:Zg) (v1:Int):List Cell:=vc (.d .fro Ye v0)::vc (iL v1)::[]
def xl3b.mk (b:Int):R:=(⟨.one,[iL b]⟩,nn 2 ([]))
def xl3b.un (r:R):Int:=((leafR r 0).dat (.int .i64))
def xl3b (v0:Zg) (v1:Int):Option (Int):=tOf xl3b.mk (vlim E 89 (xl3b.c v0 v1))
def xl2v.c (v0:Zb) (v1:Int):List Cell:=vc (.d .fro Yb v0)::vc (iL v1)::[]
def xl2v.mk (b:Int):R:=(⟨.one,[iL b]⟩,nn 2 ([]))
def xl2v.un (r:R):Int:=((leafR r 0).dat (.int .i64))
def xl2v (v0:Zb) (v1:Int):Option (Int):=tOf xl2v.mk (vlim E 7 (xl2v.c v0 v1))
def xl3d.c (v0:Int) (v1:Zd) (v2:Int):List Cell:=ac [iL v0,.d .fro Yd v1]::vc (iL v2)::[]
def xl3d.mk (b:Int):R:=(⟨.one,[iL b]⟩,nn 2 ([]))
def xl3d.un (r:R):Int:=((leafR r 0).dat (.int .i64))
def xl3d (v0:Int) (v1:Zd) (v2:Int):Option (Int):=tOf xl3d.mk (vlim E 26 (xl3d.c v0 v1 v2))
def xl1x.c (v0:Zd) (v1:Int):List Cell:=vc (.d .fro Yd v0)::vc (iL v1)::[]
def xl1x.mk (b:Int):R:=(⟨.one,[iL b]⟩,nn 2 ([]))
def xl1x.un (r:R):Int:=((leafR r 0).dat (.int .i64))
def xl1x (v0:Zd) (v1:Int):Option (Int):=tOf xl1x.mk (vlim E 52 (xl1x.c v0 v1))
def xl27.c (v0:List Int) (v1:Int) (v2:Int):List Cell:=ac [.d .fro (.sl (.int .i64)) v0,iL v1]::vc (iL v2)::[]
def xl27.mk (b:Int):R:=(⟨.one,[iL b]⟩,nn 2 ([]))
def xl27.un (r:R):Int:=((leafR r 0).dat (.int .i64))
def xl27 (v0:List Int) (v1:Int) (v2:Int):Option (Int):=tOf xl27.mk (vlim E 90 (xl27.c v0 v1 v2))
def xl4c.c (v0:List Int) (v1:Int):List Cell:=ac [.d .fro (.sl (.int .i64)) v0]::vc (iL v1)::[]
def xl4c.mk (b:Int):R:=(⟨.one,[iL b]⟩,nn 2 ([]))
def xl4c.un (r:R):Int:=((leafR r 0).dat (.int .i64))
def xl4c (v0:List Int) (v1:Int):Option (Int):=tOf xl4c.mk (vlim E 129 (xl4c.c v0 v1))
def xl43.c (v0:List Int) (v1:Za):List Cell:=ac [.d .fro (.sl (.int .i64)) v0,.d .fro Ya v1]::[]
def xl43.mk (b:(List Int) × Za):R:=(⟨.agg,[.d .deep (.sl (.int .i64)) b.1,.d .deep Ya b.2]⟩,nn 1 ([]))
def xl43.un (r:R):(List Int) × Za:=((leafR r 0).dat (.sl (.int .i64)),(leafR r 1).dat Ya)
def xl43 (v0:List Int) (v1:Za):Option ((List Int) × Za):=tOf xl43.mk (vlim E 9 (xl43.c v0 v1))
def xl40.c (v0:List Int):List Cell:=vc (.d .fro (.sl (.int .i64)) v0)::[]
def xl40.mk (b:(List Int)):R:=(⟨.one,[.d .deep (.sl (.int .i64)) b]⟩,nn 1 ([]))
def xl40.un (r:R):(List Int):=((leafR r 0).dat (.sl (.int .i64)))
def xl40 (v0:List Int):Option ((List Int)):=tOf xl40.mk (vlim E 30 (xl40.c v0))
def xl3g.c (v0:Za):List Cell:=vc (.d .fro Ya v0)::[]
def xl3g.mk (b:Za):R:=(⟨.one,[.d .deep Ya b]⟩,nn 1 ([]))
def xl3g.un (r:R):Za:=((leafR r 0).dat Ya)
def xl3g (v0:Za):Option (Za):=tOf xl3g.mk (vlim E 31 (xl3g.c v0))
def xl41.c (v0:Int) (v1:Int) (v2:Int) (v3:Ze) (v4:List Int) (v5:Zg):List Cell:=ac [iL v0,iL v1,iL v2,.d .fro Yc v3,.d .fro (.sl (.int .i64)) v4,.d .fro Ye v5]::[]
def xl41.mk (b:Int × Int × Int × Ze × (List Int) × Zg):R:=(⟨.agg,[iL b.1,iL b.2.1,iL b.2.2.1,.d .deep Yc b.2.2.2.1,.d .deep (.sl (.int .i64)) b.2.2.2.2.1,.d .deep Ye b.2.2.2.2.2]⟩,nn 1 ([]))
def xl41.un (r:R):Int × Int × Int × Ze × (List Int) × Zg:=((leafR r 0).dat (.int .i64),(leafR r 1).dat (.int .i64),(leafR r 2).dat (.int .i64),(leafR r 3).dat Yc,(leafR r 4).dat (.sl (.int .i64)),(leafR r 5).dat Ye)
def xl41 (v0:Int) (v1:Int) (v2:Int) (v3:Ze) (v4:List Int) (v5:Zg):Option (Int × Int × Int × Ze × (List Int) × Zg):=tOf xl41.mk (vlim E 58 (xl41.c v0 v1 v2 v3 v4 v5))
def xl3i.c (v0:Ze):List Cell:=vc (.d .fro Yc v0)::[]
def xl3i.mk (b:Ze):R:=(⟨.one,[.d .deep Yc b]⟩,nn 1 ([]))
def xl3i.un (r:R):Ze:=((leafR r 0).dat Yc)
def xl3i (v0:Ze):Option (Ze):=tOf xl3i.mk (vlim E 100 (xl3i.c v0))
def xl42.c (v0:Int) (v1:Int) (v2:Int):List Cell:=ac [iL v0,iL v1,iL v2]::[]
def xl42.mk (b:Int × Int × Int):R:=(⟨.agg,[iL b.1,iL b.2.1,iL b.2.2]⟩,nn 1 ([]))
def xl42.un (r:R):Int × Int × Int:=((leafR r 0).dat (.int .i64),(leafR r 1).dat (.int .i64),(leafR r 2).dat (.int .i64))
def xl42 (v0:Int) (v1:Int) (v2:Int):Option (Int × Int × Int):=tOf xl42.mk (vlim E 130 (xl42.c v0 v1 v2))
def xl3f.c (v0:Zg):List Cell:=vc (.d .fro Ye v0)::[]
def xl3f.mk (b:Zg):R:=(⟨.one,[.d .deep Ye b]⟩,nn 1 ([]))
def xl3f.un (r:R):Zg:=((leafR r 0).dat Ye)
def xl3f (v0:Zg):Option (Zg):=tOf xl3f.mk (vlim E 101 (xl3f.c v0))
def xl2w.c (v0:Zb):List Cell:=vc (.d .fro Yb v0)::[]
def xl2w.mk (b:Zb):R:=(⟨.one,[.d .deep Yb b]⟩,nn 1 ([]))
def xl2w.un (r:R):Zb:=((leafR r 0).dat Yb)
def xl2w (v0:Zb):Option (Zb):=tOf xl2w.mk (vlim E 10 (xl2w.c v0))
def xl3h.c (v0:Int) (v1:Zd):List Cell:=ac [iL v0,.d .fro Yd v1]::[]
def xl3h.mk (b:Int × Zd):R:=(⟨.agg,[iL b.1,.d .deep Yd b.2]⟩,nn 1 ([]))
def xl3h.un (r:R):Int × Zd:=((leafR r 0).dat (.int .i64),(leafR r 1).dat Yd)
def xl3h (v0:Int) (v1:Zd):Option (Int × Zd):=tOf xl3h.mk (vlim E 32 (xl3h.c v0 v1))
def xl1y.c (v0:Zd):List Cell:=vc (.d .fro Yd v0)::[]
def xl1y.mk (b:Zd):R:=(⟨.one,[.d .deep Yd b]⟩,nn 1 ([]))
def xl1y.un (r:R):Zd:=((leafR r 0).dat Yd)
def xl1y (v0:Zd):Option (Zd):=tOf xl1y.mk (vlim E 59 (xl1y.c v0))
def xl28.c (v0:List Int) (v1:Int):List Cell:=ac [.d .fro (.sl (.int .i64)) v0,iL v1]::[]
def xl28.mk (b:(List Int) × Int):R:=(⟨.agg,[.d .deep (.sl (.int .i64)) b.1,iL b.2]⟩,nn 1 ([]))
def xl28.un (r:R):(List Int) × Int:=((leafR r 0).dat (.sl (.int .i64)),(leafR r 1).dat (.int .i64))
def xl28 (v0:List Int) (v1:Int):Option ((List Int) × Int):=tOf xl28.mk (vlim E 102 (xl28.c v0 v1))
def xl4d.c (v0:List Int):List Cell:=ac [.d .fro (.sl (.int .i64)) v0]::[]
def xl4d.mk (b:(List Int)):R:=(⟨.agg,[.d .deep (.sl (.int .i64)) b]⟩,nn 1 ([]))
def xl4d.un (r:R):(List Int):=((leafR r 0).dat (.sl (.int .i64)))
def xl4d (v0:List Int):Option ((List Int)):=tOf xl4d.mk (vlim E 131 (xl4d.c v0))
def xs44.c (v0:List Int) (v1:Za) (v2:Zb):List Cell:=ac [.d .fro (.sl (.int .i64)) v0,.d .fro Ya v1]::vc (.d .fro Yb v2)::[]
def xs44.mk (b:Zb × Bool):R:=(⟨(.tup [none,none]),[.d .sha Yb b.1,bL b.2]⟩,nn 2 ([]))
def xs44.un (r:R):Zb × Bool:=((leafR r 0).dat Yb,(leafR r 1).dat .bool)
def xs44 (v0:List Int) (v1:Za) (v2:Zb):Option (Zb × Bool):=tOf xs44.mk (vlim E 8 (xs44.c v0 v1 v2))
def xs3n.c (v0:List Int) (v1:Za):List Cell:=ac [.d .fro (.sl (.int .i64)) v0,.d .fro Ya v1]::[]
def xs3n.mk (b:(List Int) × Bool):R:=(⟨(.tup [none,none]),[.d .deep (.sl (.int .i64)) b.1,bL b.2]⟩,nn 1 ([]))
def xs3n.un (r:R):(List Int) × Bool:=((leafR r 0).dat (.sl (.int .i64)),(leafR r 1).dat .bool)
def xs3n (v0:List Int) (v1:Za):Option ((List Int) × Bool):=tOf xs3n.mk (vlim E 27 (xs3n.c v0 v1))
def xs4h.c (v0:Int) (v1:Int) (v2:Int):List Cell:=vc (iL v0)::vc (iL v1)::vc (iL v2)::[]
def xs4h.mk (b:Bool):R:=(⟨.one,[bL b]⟩,nn 3 ([]))
def xs4h.un (r:R):Bool:=((leafR r 0).dat .bool)
def xs4h (v0:Int) (v1:Int) (v2:Int):Option (Bool):=tOf xs4h.mk (vlim E 53 (xs4h.c v0 v1 v2))
def xs2m.c (v0:Int) (v1:Int) (v2:Int) (v3:Ze) (v4:List Int) (v5:Zg) (v6:List Int):List Cell:=ac [iL v0,iL v1,iL v2,.d .fro Yc v3,.d .fro (.sl (.int .i64)) v4,.d .fro Ye v5]::vc (.d .fro (.sl (.int .i64)) v6)::[]
def xs2m.mk (b:Int × Bool):R:=(⟨(.tup [none,none]),[iL b.1,bL b.2]⟩,nn 2 ([]))
def xs2m.un (r:R):Int × Bool:=((leafR r 0).dat (.int .i64),(leafR r 1).dat .bool)
def xs2m (v0:Int) (v1:Int) (v2:Int) (v3:Ze) (v4:List Int) (v5:Zg) (v6:List Int):Option (Int × Bool):=tOf xs2m.mk (vlim E 54 (xs2m.c v0 v1 v2 v3 v4 v5 v6))
def xs2i.c (v0:Ze) (v1:Int):List Cell:=vc (.d .fro Yc v0)::vc (iL v1)::[]
def xs2i.mk (b:Bool):R:=(⟨.one,[bL b]⟩,nn 2 ([]))
def xs2i.un (r:R):Bool:=((leafR r 0).dat .bool)
def xs2i (v0:Ze) (v1:Int):Option (Bool):=tOf xs2i.mk (vlim E 91 (xs2i.c v0 v1))
def xs2j.c (v0:List Int) (v1:Int):List Cell:=vc (.d .fro (.sl (.int .i64)) v0)::vc (iL v1)::[]
def xs2j.mk (b:Bool):R:=(⟨.one,[bL b]⟩,nn 2 ([]))
def xs2j.un (r:R):Bool:=((leafR r 0).dat .bool)
def xs2j (v0:List Int) (v1:Int):Option (Bool):=tOf xs2j.mk (vlim E 92 (xs2j.c v0 v1))
def xs3l.c (v0:Zg) (v1:Int) (v2:Int):List Cell:=vc (.d .fro Ye v0)::vc (iL v1)::vc (iL v2)::[]
def xs3l.mk (b:Bool):R:=(⟨.one,[bL b]⟩,nn 3 ([]))
def xs3l.un (r:R):Bool:=((leafR r 0).dat .bool)
def xs3l (v0:Zg) (v1:Int) (v2:Int):Option (Bool):=tOf xs3l.mk (vlim E 93 (xs3l.c v0 v1 v2))
def xs49.c (v0:Zg) (v1:Int):List Cell:=vc (.d .fro Ye v0)::vc (iL v1)::[]
def xs49.mk (b:Int):R:=(⟨.one,[iL b]⟩,nn 2 ([]))
def xs49.un (r:R):Int:=((leafR r 0).dat (.int .i64))
def xs49 (v0:Zg) (v1:Int):Option (Int):=tOf xs49.mk (vlim E 94 (xs49.c v0 v1))
def xs30.c (v0:List Int) (v1:Za) (v2:Zb):List Cell:=ac [.d .fro (.sl (.int .i64)) v0,.d .fro Ya v1]::vc (.d .fro Yb v2)::[]
def xs30.mk (b:Bool):R:=(⟨.one,[bL b]⟩,nn 2 ([]))
def xs30.un (r:R):Bool:=((leafR r 0).dat .bool)
def xs30 (v0:List Int) (v1:Za) (v2:Zb):Option (Bool):=tOf xs30.mk (vlim E 28 (xs30.c v0 v1 v2))
def xs2h.c (v0:Int) (v1:Zd):List Cell:=ac [iL v0,.d .fro Yd v1]::[]
def xs2h.mk (b:Bool):R:=(⟨.one,[bL b]⟩,nn 1 ([]))
def xs2h.un (r:R):Bool:=((leafR r 0).dat .bool)
def xs2h (v0:Int) (v1:Zd):Option (Bool):=tOf xs2h.mk (vlim E 55 (xs2h.c v0 v1))
def xs3j.c (v0:List Int):List Cell:=ac [.d .fro (.sl (.int .i64)) v0]::[]
def xs3j.mk (b:Bool):R:=(⟨.one,[bL b]⟩,nn 1 ([]))
def xs3j.un (r:R):Bool:=((leafR r 0).dat .bool)
def xs3j (v0:List Int):Option (Bool):=tOf xs3j.mk (vlim E 95 (xs3j.c v0))
def xs2y.c (v0:Int):List Cell:=vc (iL v0)::[]
def xs2y.mk (b:Bool):R:=(⟨.one,[bL b]⟩,nn 1 ([]))
def xs2y.un (r:R):Bool:=((leafR r 0).dat .bool)
def xs2y (v0:Int):Option (Bool):=tOf xs2y.mk (vlim E 96 (xs2y.c v0))
def xs2k.c (v0:List Int) (v1:List Int):List Cell:=ac [.d .fro (.sl (.int .i64)) v0]::ac [.d .fro (.sl (.int .i64)) v1]::[]
def xs2k.mk (b:Int):R:=(⟨.one,[iL b]⟩,nn 2 ([]))
def xs2k.un (r:R):Int:=((leafR r 0).dat (.int .i64))
def xs2k (v0:List Int) (v1:List Int):Option (Int):=tOf xs2k.mk (vlim E 97 (xs2k.c v0 v1))
def xs4g.c (v0:List Int) (v1:Za) (v2:Zb):List Cell:=ac [.d .fro (.sl (.int .i64)) v0,.d .fro Ya v1]::vc (.d .fro Yb v2)::[]
def xs4g.mk (b:Zb × Bool):R:=(⟨(.tup [none,none]),[.d .sha Yb b.1,bL b.2]⟩,nn 2 ([]))
def xs4g.un (r:R):Zb × Bool:=((leafR r 0).dat Yb,(leafR r 1).dat .bool)
def xs4g (v0:List Int) (v1:Za) (v2:Zb):Option (Zb × Bool):=tOf xs4g.mk (vlim E 29 (xs4g.c v0 v1 v2))
def xs48.c (v0:Zd) (v1:Zd) (v2:Zg):List Cell:=vc (.d .fro Yd v0)::vc (.d .fro Yd v1)::vc (.d .fro Ye v2)::[]
def xs48.mk (b:Zd):R:=(⟨.one,[.d .sha Yd b]⟩,nn 3 ([]))
def xs48.un (r:R):Zd:=((leafR r 0).dat Yd)
def xs48 (v0:Zd) (v1:Zd) (v2:Zg):Option (Zd):=tOf xs48.mk (vlim E 56 (xs48.c v0 v1 v2))
def xs45.c (v0:List Int) (v1:List Int) (v2:Zg):List Cell:=ac [.d .fro (.sl (.int .i64)) v0]::ac [.d .fro (.sl (.int .i64)) v1]::vc (.d .fro Ye v2)::[]
def xs45.mk (b:(List Int) × Bool):R:=(⟨(.tup [some 1,none]),[.d .fro (.sl (.int .i64)) b.1,bL b.2]⟩,nn 3 ([]))
def xs45.un (r:R):(List Int) × Bool:=((leafR r 0).dat (.sl (.int .i64)),(leafR r 1).dat .bool)
def xs45 (v0:List Int) (v1:List Int) (v2:Zg):Option ((List Int) × Bool):=tOf xs45.mk (vlim E 98 (xs45.c v0 v1 v2))
def xs4f.c (v0:Zd) (v1:List Int) (v2:Int):List Cell:=vc (.d .fro Yd v0)::ac [.d .fro (.sl (.int .i64)) v1]::vc (iL v2)::[]
def xs4f.mk (b:Zd):R:=(⟨.one,[.d .sha Yd b]⟩,nn 3 ([]))
def xs4f.un (r:R):Zd:=((leafR r 0).dat Yd)
def xs4f (v0:Zd) (v1:List Int) (v2:Int):Option (Zd):=tOf xs4f.mk (vlim E 99 (xs4f.c v0 v1 v2))
def xs2x.c (v0:List Int):List Cell:=ac [.d .fro (.sl (.int .i64)) v0]::[]
def xs2x.mk (b:(List Int)):R:=(⟨.agg,[.d .deep (.sl (.int .i64)) b]⟩,nn 1 ([]))
def xs2x.un (r:R):(List Int):=((leafR r 0).dat (.sl (.int .i64)))
def xs2x (v0:List Int):Option ((List Int)):=tOf xs2x.mk (vlim E 81 (xs2x.c v0))
def xs47.c (v0:Int) (v1:Zd):List Cell:=vc (iL v0)::vc (.d .fro Yd v1)::[]
def xs47.mk (b:Int × Zd × Bool):R:=(⟨(.tup [some 2,none]),[iL b.1,.d .deep Yd b.2.1,bL b.2.2]⟩,nn 2 ([]))
def xs47.un (r:R):Int × Zd × Bool:=((leafR r 0).dat (.int .i64),(leafR r 1).dat Yd,(leafR r 2).dat .bool)
def xs47 (v0:Int) (v1:Zd):Option (Int × Zd × Bool):=tOf xs47.mk (vlim E 48 (xs47.c v0 v1))
def xs29.c (v0:Zd):List Cell:=vc (.d .fro Yd v0)::[]
def xs29.mk (b:Zd):R:=(⟨.one,[.d .sha Yd b]⟩,nn 1 ([]))
def xs29.un (r:R):Zd:=((leafR r 0).dat Yd)
def xs29 (v0:Zd):Option (Zd):=tOf xs29.mk (vlim E 57 (xs29.c v0))
def xs2a.c (v0:Int) (v1:Int) (v2:Int) (v3:Ze) (v4:List Int) (v5:Zg) (v6:Zb) (v7:Zb):List Cell:=ac [iL v0,iL v1,iL v2,.d .fro Yc v3,.d .fro (.sl (.int .i64)) v4,.d .fro Ye v5]::⟨(.val .one),[.d .fro Yb v6],true,false,false,0,0⟩::⟨(.val .one),[.d .sha Yb v7],true,false,false,0,0⟩::[]
def xs2a.mk (b:Zd × Zb × Zb):R:=(⟨.one,[.d .fro Yd b.1]⟩,nn 1 (⟨(.val .one),[.d .fro Yb b.2.1],true,false,false,0,0⟩::⟨(.val .one),[.d .sha Yb b.2.2],true,false,false,0,0⟩::[]))
def xs2a.un (r:R):Zd × Zb × Zb:=((leafR r 0).dat Yd,(leafF r 1 0).dat Yb,(leafF r 2 0).dat Yb)
def xs2a (v0:Int) (v1:Int) (v2:Int) (v3:Ze) (v4:List Int) (v5:Zg) (v6:Zb) (v7:Zb):Option (Zd × Zb × Zb):=tOf xs2a.mk (vlim E 47 (xs2a.c v0 v1 v2 v3 v4 v5 v6 v7))
def xs2z.c (v0:Zd) (v1:Ze):List Cell:=vc (.d .fro Yd v0)::vc (.d .fro Yc v1)::[]
def xs2z.mk (b:Zd):R:=(⟨.one,[.d .sha Yd b]⟩,nn 2 ([]))
def xs2z.un (r:R):Zd:=((leafR r 0).dat Yd)
def xs2z (v0:Zd) (v1:Ze):Option (Zd):=tOf xs2z.mk (vlim E 78 (xs2z.c v0 v1))
def xs4a.c (v0:Ze) (v1:List Int):List Cell:=vc (.d .fro Yc v0)::ac [.d .fro (.sl (.int .i64)) v1]::[]
def xs4a.mk (b:Bool):R:=(⟨.one,[bL b]⟩,nn 2 ([]))
def xs4a.un (r:R):Bool:=((leafR r 0).dat .bool)
def xs4a (v0:Ze) (v1:List Int):Option (Bool):=tOf xs4a.mk (vlim E 121 (xs4a.c v0 v1))
def xs2l.c (v0:Zd) (v1:List Int):List Cell:=vc (.d .fro Yd v0)::vc (.d .fro (.sl (.int .i64)) v1)::[]
def xs2l.mk (b:Zd):R:=(⟨.one,[.d .sha Yd b]⟩,nn 2 ([]))
def xs2l.un (r:R):Zd:=((leafR r 0).dat Yd)
def xs2l (v0:Zd) (v1:List Int):Option (Zd):=tOf xs2l.mk (vlim E 79 (xs2l.c v0 v1))
def xs46.c (v0:List Int) (v1:List Int):List Cell:=ac [.d .fro (.sl (.int .i64)) v0]::vc (.d .fro (.sl (.int .i64)) v1)::[]
def xs46.mk (b:(List Int)):R:=(⟨.agg,[.d .deep (.sl (.int .i64)) b]⟩,nn 2 ([]))
def xs46.un (r:R):(List Int):=((leafR r 0).dat (.sl (.int .i64)))
def xs46 (v0:List Int) (v1:List Int):Option ((List Int)):=tOf xs46.mk (vlim E 122 (xs46.c v0 v1))
def xs4e.c (v0:Zd) (v1:Zd):List Cell:=vc (.d .fro Yd v0)::vc (.d .fro Yd v1)::[]
def xs4e.mk (b:Zd):R:=(⟨.one,[.d .fro Yd b]⟩,nn 2 ([]))
def xs4e.un (r:R):Zd:=((leafR r 0).dat Yd)
def xs4e (v0:Zd) (v1:Zd):Option (Zd):=tOf xs4e.mk (vlim E 76 (xs4e.c v0 v1))
def xs3m.c (v0:Zd) (v1:Int):List Cell:=vc (.d .fro Yd v0)::vc (iL v1)::[]
def xs3m.mk (b:Zd):R:=(⟨.one,[.d .sha Yd b]⟩,nn 2 ([]))
def xs3m.un (r:R):Zd:=((leafR r 0).dat Yd)
def xs3m (v0:Zd) (v1:Int):Option (Zd):=tOf xs3m.mk (vlim E 80 (xs3m.c v0 v1))
def xi3o.c (v0:List Int) (v1:Za) (v2:Zb):List Cell:=ac [.d .fro (.sl (.int .i64)) v0,.d .fro Ya v1]::vc (.d .fro Yb v2)::[]
def xi3o.mk (b:Zb × Bool):R:=(⟨(.tup [none,none]),[.d .deep Yb b.1,bL b.2]⟩,nn 2 ([]))
def xi3o.un (r:R):Zb × Bool:=((leafR r 0).dat Yb,(leafR r 1).dat .bool)
def xi3o (v0:List Int) (v1:Za) (v2:Zb):Option (Zb × Bool):=tOf xi3o.mk (vlim E 11 (xi3o.c v0 v1 v2))
def xi2b.c (v0:List Int) (v1:Za):List Cell:=ac [.d .fro (.sl (.int .i64)) v0,.d .fro Ya v1]::[]
def xi2b.mk (b:(List Int) × Bool):R:=(⟨(.tup [none,none]),[.d .deep (.sl (.int .i64)) b.1,bL b.2]⟩,nn 1 ([]))
def xi2b.un (r:R):(List Int) × Bool:=((leafR r 0).dat (.sl (.int .i64)),(leafR r 1).dat .bool)
def xi2b (v0:List Int) (v1:Za):Option ((List Int) × Bool):=tOf xi2b.mk (vlim E 33 (xi2b.c v0 v1))
def xi3s.c (v0:Int) (v1:Int) (v2:Int):List Cell:=vc (iL v0)::vc (iL v1)::vc (iL v2)::[]
def xi3s.mk (b:Bool):R:=(⟨.one,[bL b]⟩,nn 3 ([]))
def xi3s.un (r:R):Bool:=((leafR r 0).dat .bool)
def xi3s (v0:Int) (v1:Int) (v2:Int):Option (Bool):=tOf xi3s.mk (vlim E 60 (xi3s.c v0 v1 v2))
def xi10.c (v0:List Int):List Cell:=vc (.d .fro (.sl (.int .i64)) v0)::vc (.fn 62 [])::[]
def xi10.mk (b:Bool):R:=(⟨.one,[bL b]⟩,nn 2 ([]))
def xi10.un (r:R):Bool:=((leafR r 0).dat .bool)
def xi10 (v0:List Int):Option (Bool):=tOf xi10.mk (vlim E 61 (xi10.c v0))
def xs07.c (v0:List Int):List Cell:=vc (.d .fro (.sl (.int .i64)) v0)::vc (.fn 104 [.rp [.fn 62 []] 0])::[]
def xs07.mk (b:Bool):R:=(⟨.one,[bL b]⟩,nn 2 ([]))
def xs07.un (r:R):Bool:=((leafR r 0).dat .bool)
def xs07 (v0:List Int):Option (Bool):=tOf xs07.mk (vlim E 103 (xs07.c v0))
def xs0d.c (v0:List Int):List Cell:=vc (.d .fro (.sl (.int .i64)) v0)::vc (.fn 104 [.rp [.fn 62 []] 0])::[]
def xs0d.mk (b:Int):R:=(⟨.one,[iL b]⟩,nn 2 ([]))
def xs0d.un (r:R):Int:=((leafR r 0).dat (.int .i64))
def xs0d (v0:List Int):Option (Int):=tOf xs0d.mk (vlim E 132 (xs0d.c v0))
def xi0x.c (v0:Int):List Cell:=vc (iL v0)::vc (.rp [.fn 62 []] 0)::[]
def xi0x.mk (b:Bool):R:=(⟨.one,[bL b]⟩,nn 2 ([]))
def xi0x.un (r:R):Bool:=((leafR r 0).dat .bool)
def xi0x (v0:Int):Option (Bool):=tOf xi0x.mk (vlim E 104 (xi0x.c v0))
def xi2f.c (v0:Int):List Cell:=vc (iL v0)::[]
def xi2f.mk (b:Bool):R:=(⟨.one,[bL b]⟩,nn 1 ([]))
def xi2f.un (r:R):Bool:=((leafR r 0).dat .bool)
def xi2f (v0:Int):Option (Bool):=tOf xi2f.mk (vlim E 62 (xi2f.c v0))
def xi1f.c (v0:List Int) (v1:Za) (v2:Int) (v3:Int) (v4:Int) (v5:Ze) (v6:List Int) (v7:Zg) (v8:List Int):List Cell:=ac [.d .fro (.sl (.int .i64)) v0,.d .fro Ya v1]::ac [iL v2,iL v3,iL v4,.d .fro Yc v5,.d .fro (.sl (.int .i64)) v6,.d .fro Ye v7]::vc (.d .fro (.sl (.int .i64)) v8)::[]
def xi1f.mk (b:Int × Bool):R:=(⟨(.tup [none,none]),[iL b.1,bL b.2]⟩,nn 3 ([]))
def xi1f.un (r:R):Int × Bool:=((leafR r 0).dat (.int .i64),(leafR r 1).dat .bool)
def xi1f (v0:List Int) (v1:Za) (v2:Int) (v3:Int) (v4:Int) (v5:Ze) (v6:List Int) (v7:Zg) (v8:List Int):Option (Int × Bool):=tOf xi1f.mk (vlim E 63 (xi1f.c v0 v1 v2 v3 v4 v5 v6 v7 v8))
def xi2d.c (v0:Ze) (v1:Int):List Cell:=vc (.d .fro Yc v0)::vc (iL v1)::[]
def xi2d.mk (b:Bool):R:=(⟨.one,[bL b]⟩,nn 2 ([]))
def xi2d.un (r:R):Bool:=((leafR r 0).dat .bool)
def xi2d (v0:Ze) (v1:Int):Option (Bool):=tOf xi2d.mk (vlim E 105 (xi2d.c v0 v1))
def xi0r.c (v0:Ze) (v1:Int):List Cell:=vc (.d .fro Yc v0)::vc (.fn 134 [.rp [iL v1] 0])::[]
def xi0r.mk (b:Bool):R:=(⟨.one,[bL b]⟩,nn 2 ([]))
def xi0r.un (r:R):Bool:=((leafR r 0).dat .bool)
def xi0r (v0:Ze) (v1:Int):Option (Bool):=tOf xi0r.mk (vlim E 133 (xi0r.c v0 v1))
def xs02.c (v0:Ze) (v1:Int):List Cell:=vc (.d .fro Yc v0)::vc (.fn 156 [.rp [.fn 134 [.rp [iL v1] 0]] 0])::[]
def xs02.mk (b:Bool):R:=(⟨.one,[bL b]⟩,nn 2 ([]))
def xs02.un (r:R):Bool:=((leafR r 0).dat .bool)
def xs02 (v0:Ze) (v1:Int):Option (Bool):=tOf xs02.mk (vlim E 155 (xs02.c v0 v1))
def xs03.c (v0:Ze) (v1:Int):List Cell:=vc (.d .fro Yc v0)::vc (.fn 156 [.rp [.fn 134 [.rp [iL v1] 0]] 0])::[]
def xs03.mk (b:Int):R:=(⟨.one,[iL b]⟩,nn 2 ([]))
def xs03.un (r:R):Int:=((leafR r 0).dat (.int .i64))
def xs03 (v0:Ze) (v1:Int):Option (Int):=tOf xs03.mk (vlim E 163 (xs03.c v0 v1))
def xi0p.c (v0:Int) (v1:Int) (v2:Int) (v3:Int):List Cell:=ac [iL v0,iL v1,iL v2]::vc (.rp [.fn 134 [.rp [iL v3] 0]] 0)::[]
def xi0p.mk (b:Bool):R:=(⟨.one,[bL b]⟩,nn 2 ([]))
def xi0p.un (r:R):Bool:=((leafR r 0).dat .bool)
def xi0p (v0:Int) (v1:Int) (v2:Int) (v3:Int):Option (Bool):=tOf xi0p.mk (vlim E 156 (xi0p.c v0 v1 v2 v3))
def xi1s.c (v0:Int) (v1:Int) (v2:Int) (v3:Int):List Cell:=ac [iL v0,iL v1,iL v2]::vc (.rp [iL v3] 0)::[]
def xi1s.mk (b:Bool):R:=(⟨.one,[bL b]⟩,nn 2 ([]))
def xi1s.un (r:R):Bool:=((leafR r 0).dat .bool)
def xi1s (v0:Int) (v1:Int) (v2:Int) (v3:Int):Option (Bool):=tOf xi1s.mk (vlim E 134 (xi1s.c v0 v1 v2 v3))
def xi35.c (v0:Int) (v1:Int):List Cell:=vc (iL v0)::vc (iL v1)::[]
def xi35.mk (b:Bool):R:=(⟨.one,[bL b]⟩,nn 2 ([]))
def xi35.un (r:R):Bool:=((leafR r 0).dat .bool)
def xi35 (v0:Int) (v1:Int):Option (Bool):=tOf xi35.mk (vlim E 135 (xi35.c v0 v1))
def xi3p.c (v0:Int):List Cell:=vc (iL v0)::[]
def xi3p.mk (b:Bool):R:=(⟨.one,[bL b]⟩,nn 1 ([]))
def xi3p.un (r:R):Bool:=((leafR r 0).dat .bool)
def xi3p (v0:Int):Option (Bool):=tOf xi3p.mk (vlim E 136 (xi3p.c v0))
def xi23.c (v0:List Int) (v1:Int):List Cell:=vc (.d .fro (.sl (.int .i64)) v0)::vc (iL v1)::[]
def xi23.mk (b:Bool):R:=(⟨.one,[bL b]⟩,nn 2 ([]))
def xi23.un (r:R):Bool:=((leafR r 0).dat .bool)
def xi23 (v0:List Int) (v1:Int):Option (Bool):=tOf xi23.mk (vlim E 106 (xi23.c v0 v1))
def xi0w.c (v0:List Int) (v1:Int):List Cell:=vc (.d .fro (.sl (.int .i64)) v0)::vc (.fn 137 [.rp [iL v1] 0])::[]
def xi0w.mk (b:Bool):R:=(⟨.one,[bL b]⟩,nn 2 ([]))
def xi0w.un (r:R):Bool:=((leafR r 0).dat .bool)
def xi0w (v0:List Int) (v1:Int):Option (Bool):=tOf xi0w.mk (vlim E 61 (xi0w.c v0 v1))
def xs05.c (v0:List Int) (v1:Int):List Cell:=vc (.d .fro (.sl (.int .i64)) v0)::vc (.fn 104 [.rp [.fn 137 [.rp [iL v1] 0]] 0])::[]
def xs05.mk (b:Bool):R:=(⟨.one,[bL b]⟩,nn 2 ([]))
def xs05.un (r:R):Bool:=((leafR r 0).dat .bool)
def xs05 (v0:List Int) (v1:Int):Option (Bool):=tOf xs05.mk (vlim E 103 (xs05.c v0 v1))
def xs08.c (v0:List Int) (v1:Int):List Cell:=vc (.d .fro (.sl (.int .i64)) v0)::vc (.fn 104 [.rp [.fn 137 [.rp [iL v1] 0]] 0])::[]
def xs08.mk (b:Int):R:=(⟨.one,[iL b]⟩,nn 2 ([]))
def xs08.un (r:R):Int:=((leafR r 0).dat (.int .i64))
def xs08 (v0:List Int) (v1:Int):Option (Int):=tOf xs08.mk (vlim E 132 (xs08.c v0 v1))
def xi0u.c (v0:Int) (v1:Int):List Cell:=vc (iL v0)::vc (.rp [.fn 137 [.rp [iL v1] 0]] 0)::[]
def xi0u.mk (b:Bool):R:=(⟨.one,[bL b]⟩,nn 2 ([]))
def xi0u.un (r:R):Bool:=((leafR r 0).dat .bool)
def xi0u (v0:Int) (v1:Int):Option (Bool):=tOf xi0u.mk (vlim E 104 (xi0u.c v0 v1))
def xi1p.c (v0:Int) (v1:Int):List Cell:=vc (iL v0)::vc (.rp [iL v1] 0)::[]
def xi1p.mk (b:Bool):R:=(⟨.one,[bL b]⟩,nn 2 ([]))
def xi1p.un (r:R):Bool:=((leafR r 0).dat .bool)
def xi1p (v0:Int) (v1:Int):Option (Bool):=tOf xi1p.mk (vlim E 137 (xi1p.c v0 v1))
def xi2o.c (v0:Zg) (v1:Int) (v2:Int):List Cell:=vc (.d .fro Ye v0)::vc (iL v1)::vc (iL v2)::[]
def xi2o.mk (b:Bool):R:=(⟨.one,[bL b]⟩,nn 3 ([]))
def xi2o.un (r:R):Bool:=((leafR r 0).dat .bool)
def xi2o (v0:Zg) (v1:Int) (v2:Int):Option (Bool):=tOf xi2o.mk (vlim E 107 (xi2o.c v0 v1 v2))
def xi0z.c (v0:Zg) (v1:Int) (v2:Int):List Cell:=vc (.d .fro Ye v0)::vc (.fn 139 [.rp [iL v1] 0,.rp [iL v2] 0])::[]
def xi0z.mk (b:Bool):R:=(⟨.one,[bL b]⟩,nn 2 ([]))
def xi0z.un (r:R):Bool:=((leafR r 0).dat .bool)
def xi0z (v0:Zg) (v1:Int) (v2:Int):Option (Bool):=tOf xi0z.mk (vlim E 138 (xi0z.c v0 v1 v2))
def xs06.c (v0:Zg) (v1:Int) (v2:Int):List Cell:=vc (.d .fro Ye v0)::vc (.fn 158 [.rp [.fn 139 [.rp [iL v1] 0,.rp [iL v2] 0]] 0])::[]
def xs06.mk (b:Bool):R:=(⟨.one,[bL b]⟩,nn 2 ([]))
def xs06.un (r:R):Bool:=((leafR r 0).dat .bool)
def xs06 (v0:Zg) (v1:Int) (v2:Int):Option (Bool):=tOf xs06.mk (vlim E 157 (xs06.c v0 v1 v2))
def xs0b.c (v0:Zg) (v1:Int) (v2:Int):List Cell:=vc (.d .fro Ye v0)::vc (.fn 158 [.rp [.fn 139 [.rp [iL v1] 0,.rp [iL v2] 0]] 0])::[]
def xs0b.mk (b:Int):R:=(⟨.one,[iL b]⟩,nn 2 ([]))
def xs0b.un (r:R):Int:=((leafR r 0).dat (.int .i64))
def xs0b (v0:Zg) (v1:Int) (v2:Int):Option (Int):=tOf xs0b.mk (vlim E 164 (xs0b.c v0 v1 v2))
def xi0v.c (v0:List Int) (v1:Int) (v2:Int):List Cell:=vc (.d .fro (.sl (.int .i64)) v0)::vc (.rp [.fn 139 [.rp [iL v1] 0,.rp [iL v2] 0]] 0)::[]
def xi0v.mk (b:Bool):R:=(⟨.one,[bL b]⟩,nn 2 ([]))
def xi0v.un (r:R):Bool:=((leafR r 0).dat .bool)
def xi0v (v0:List Int) (v1:Int) (v2:Int):Option (Bool):=tOf xi0v.mk (vlim E 158 (xi0v.c v0 v1 v2))
def xi24.c (v0:List Int) (v1:Int) (v2:Int):List Cell:=vc (.d .fro (.sl (.int .i64)) v0)::vc (.rp [iL v1] 0)::vc (.rp [iL v2] 0)::[]
def xi24.mk (b:Bool):R:=(⟨.one,[bL b]⟩,nn 3 ([]))
def xi24.un (r:R):Bool:=((leafR r 0).dat .bool)
def xi24 (v0:List Int) (v1:Int) (v2:Int):Option (Bool):=tOf xi24.mk (vlim E 139 (xi24.c v0 v1 v2))
def xi1i.c (v0:Int) (v1:Int) (v2:Zg):List Cell:=vc (iL v0)::vc (iL v1)::vc (.d .fro Ye v2)::[]
def xi1i.mk (b:Int):R:=(⟨.one,[iL b]⟩,nn 3 ([]))
def xi1i.un (r:R):Int:=((leafR r 0).dat (.int .i64))
def xi1i (v0:Int) (v1:Int) (v2:Zg):Option (Int):=tOf xi1i.mk (vlim E 108 (xi1i.c v0 v1 v2))
def xi2s.c (v0:Int) (v1:Zg):List Cell:=vc (iL v0)::vc (.d .fro Ye v1)::[]
def xi2s.mk (b:(List Int)):R:=(⟨.one,[.d .deep (.sl (.int .i64)) b]⟩,nn 2 ([]))
def xi2s.un (r:R):(List Int):=((leafR r 0).dat (.sl (.int .i64)))
def xi2s (v0:Int) (v1:Zg):Option ((List Int)):=tOf xi2s.mk (vlim E 140 (xi2s.c v0 v1))
def xs0m.c (v0:Zg) (v1:Int):List Cell:=vc (.d .fro Ye v0)::vc (.fn 159 [.rp [iL v1] 0])::[]
def xs0m.mk (b:Bool):R:=(⟨.one,[bL b]⟩,nn 2 ([]))
def xs0m.un (r:R):Bool:=((leafR r 0).dat .bool)
def xs0m (v0:Zg) (v1:Int):Option (Bool):=tOf xs0m.mk (vlim E 157 (xs0m.c v0 v1))
def xs0q.c (v0:Zg) (v1:Int):List Cell:=vc (.d .fro Ye v0)::vc (.fn 159 [.rp [iL v1] 0])::[]
def xs0q.mk (b:Int):R:=(⟨.one,[iL b]⟩,nn 2 ([]))
def xs0q.un (r:R):Int:=((leafR r 0).dat (.int .i64))
def xs0q (v0:Zg) (v1:Int):Option (Int):=tOf xs0q.mk (vlim E 164 (xs0q.c v0 v1))
def xi25.c (v0:List Int) (v1:Int):List Cell:=vc (.d .fro (.sl (.int .i64)) v0)::vc (.rp [iL v1] 0)::[]
def xi25.mk (b:Bool):R:=(⟨.one,[bL b]⟩,nn 2 ([]))
def xi25.un (r:R):Bool:=((leafR r 0).dat .bool)
def xi25 (v0:List Int) (v1:Int):Option (Bool):=tOf xi25.mk (vlim E 159 (xi25.c v0 v1))
def xi2e.c (v0:Int) (v1:Int) (v2:Int) (v3:Ze) (v4:List Int) (v5:Zg):List Cell:=ac [iL v0,iL v1,iL v2,.d .fro Yc v3,.d .fro (.sl (.int .i64)) v4,.d .fro Ye v5]::[]
def xi2e.mk (b:Bool):R:=(⟨.one,[bL b]⟩,nn 1 ([]))
def xi2e.un (r:R):Bool:=((leafR r 0).dat .bool)
def xi2e (v0:Int) (v1:Int) (v2:Int) (v3:Ze) (v4:List Int) (v5:Zg):Option (Bool):=tOf xi2e.mk (vlim E 64 (xi2e.c v0 v1 v2 v3 v4 v5))
def xi22.c (v0:List Int) (v1:Za) (v2:Zb):List Cell:=ac [.d .fro (.sl (.int .i64)) v0,.d .fro Ya v1]::vc (.d .fro Yb v2)::[]
def xi22.mk (b:Bool):R:=(⟨.one,[bL b]⟩,nn 2 ([]))
def xi22.un (r:R):Bool:=((leafR r 0).dat .bool)
def xi22 (v0:List Int) (v1:Za) (v2:Zb):Option (Bool):=tOf xi22.mk (vlim E 34 (xi22.c v0 v1 v2))
def xi2c.c (v0:Int) (v1:Zd):List Cell:=ac [iL v0,.d .fro Yd v1]::[]
def xi2c.mk (b:Bool):R:=(⟨.one,[bL b]⟩,nn 1 ([]))
def xi2c.un (r:R):Bool:=((leafR r 0).dat .bool)
def xi2c (v0:Int) (v1:Zd):Option (Bool):=tOf xi2c.mk (vlim E 36 (xi2c.c v0 v1))
def xi36.c (v0:List Int) (v1:Int):List Cell:=ac [.d .fro (.sl (.int .i64)) v0]::vc (iL v1)::[]
def xi36.mk (b:Bool):R:=(⟨.one,[bL b]⟩,nn 2 ([]))
def xi36.un (r:R):Bool:=((leafR r 0).dat .bool)
def xi36 (v0:List Int) (v1:Int):Option (Bool):=tOf xi36.mk (vlim E 68 (xi36.c v0 v1))
def xi31.c (v0:List Int):List Cell:=ac [.d .fro (.sl (.int .i64)) v0]::[]
def xi31.mk (b:Bool):R:=(⟨.one,[bL b]⟩,nn 1 ([]))
def xi31.un (r:R):Bool:=((leafR r 0).dat .bool)
def xi31 (v0:List Int):Option (Bool):=tOf xi31.mk (vlim E 116 (xi31.c v0))
def xi13.c (v0:List Int):List Cell:=vc (.d .fro (.sl (.int .i64)) v0)::vc (.fn 136 [])::[]
def xi13.mk (b:Bool):R:=(⟨.one,[bL b]⟩,nn 2 ([]))
def xi13.un (r:R):Bool:=((leafR r 0).dat .bool)
def xi13 (v0:List Int):Option (Bool):=tOf xi13.mk (vlim E 61 (xi13.c v0))
def xs0c.c (v0:List Int):List Cell:=vc (.d .fro (.sl (.int .i64)) v0)::vc (.fn 104 [.rp [.fn 136 []] 0])::[]
def xs0c.mk (b:Bool):R:=(⟨.one,[bL b]⟩,nn 2 ([]))
def xs0c.un (r:R):Bool:=((leafR r 0).dat .bool)
def xs0c (v0:List Int):Option (Bool):=tOf xs0c.mk (vlim E 103 (xs0c.c v0))
def xs0g.c (v0:List Int):List Cell:=vc (.d .fro (.sl (.int .i64)) v0)::vc (.fn 104 [.rp [.fn 136 []] 0])::[]
def xs0g.mk (b:Int):R:=(⟨.one,[iL b]⟩,nn 2 ([]))
def xs0g.un (r:R):Int:=((leafR r 0).dat (.int .i64))
def xs0g (v0:List Int):Option (Int):=tOf xs0g.mk (vlim E 132 (xs0g.c v0))
def xi11.c (v0:Int):List Cell:=vc (iL v0)::vc (.rp [.fn 136 []] 0)::[]
def xi11.mk (b:Bool):R:=(⟨.one,[bL b]⟩,nn 2 ([]))
def xi11.un (r:R):Bool:=((leafR r 0).dat .bool)
def xi11 (v0:Int):Option (Bool):=tOf xi11.mk (vlim E 104 (xi11.c v0))
def xi2p.c (v0:Int):List Cell:=vc (iL v0)::[]
def xi2p.mk (b:Bool):R:=(⟨.one,[bL b]⟩,nn 1 ([]))
def xi2p.un (r:R):Bool:=((leafR r 0).dat .bool)
def xi2p (v0:Int):Option (Bool):=tOf xi2p.mk (vlim E 69 (xi2p.c v0))
def xi1v.c (v0:List Int) (v1:List Int):List Cell:=ac [.d .fro (.sl (.int .i64)) v0]::ac [.d .fro (.sl (.int .i64)) v1]::[]
def xi1v.mk (b:Int):R:=(⟨.one,[iL b]⟩,nn 2 ([]))
def xi1v.un (r:R):Int:=((leafR r 0).dat (.int .i64))
def xi1v (v0:List Int) (v1:List Int):Option (Int):=tOf xi1v.mk (vlim E 70 (xi1v.c v0 v1))
def xs17.c (v0:List Int) (v1:List Int):List Cell:=vc (.d .fro (.sl (.int .i64)) v0)::vc (.d .fro (.sl (.int .i64)) v1)::[]
def xs17.mk (b:Int):R:=(⟨.one,[iL b]⟩,nn 2 ([]))
def xs17.un (r:R):Int:=((leafR r 0).dat (.int .i64))
def xs17 (v0:List Int) (v1:List Int):Option (Int):=tOf xs17.mk (vlim E 117 (xs17.c v0 v1))
def xc1z.c (v0:Int) (v1:Int):List Cell:=vc (iL v0)::vc (iL v1)::[]
def xc1z.mk (b:Int):R:=(⟨.one,[iL b]⟩,nn 2 ([]))
def xc1z.un (r:R):Int:=((leafR r 0).dat (.int .i64))
def xc1z (v0:Int) (v1:Int):Option (Int):=tOf xc1z.mk (vlim E 147 (xc1z.c v0 v1))
def xc2n.c (v0:Int):List Cell:=vc (iL v0)::[]
def xc2n.mk (b:Bool):R:=(⟨.one,[bL b]⟩,nn 1 ([]))
def xc2n.un (r:R):Bool:=((leafR r 0).dat .bool)
def xc2n (v0:Int):Option (Bool):=tOf xc2n.mk (vlim E 161 (xc2n.c v0))
def xi32.c (v0:Int) (v1:Int) (v2:Int) (v3:Ze) (v4:List Int) (v5:Zg) (v6:Zb) (v7:Zb):List Cell:=ac [iL v0,iL v1,iL v2,.d .fro Yc v3,.d .fro (.sl (.int .i64)) v4,.d .fro Ye v5]::vc (.d .fro Yb v6)::vc (.d .fro Yb v7)::[]
def xi32.mk (b:Int × Zd):R:=(⟨.agg,[iL b.1,.d .deep Yd b.2]⟩,nn 3 ([]))
def xi32.un (r:R):Int × Zd:=((leafR r 0).dat (.int .i64),(leafR r 1).dat Yd)
def xi32 (v0:Int) (v1:Int) (v2:Int) (v3:Ze) (v4:List Int) (v5:Zg) (v6:Zb) (v7:Zb):Option (Int × Zd):=tOf xi32.mk (vlim E 35 (xi32.c v0 v1 v2 v3 v4 v5 v6 v7))
def xi21.c (v0:Int) (v1:Zd) (v2:Int) (v3:Zd) (v4:Zg):List Cell:=ac [iL v0,.d .fro Yd v1]::ac [iL v2,.d .fro Yd v3]::vc (.d .fro Ye v4)::[]
def xi21.mk (b:Int × Zd):R:=(⟨.agg,[iL b.1,.d .deep Yd b.2]⟩,nn 3 ([]))
def xi21.un (r:R):Int × Zd:=((leafR r 0).dat (.int .i64),(leafR r 1).dat Yd)
def xi21 (v0:Int) (v1:Zd) (v2:Int) (v3:Zd) (v4:Zg):Option (Int × Zd):=tOf xi21.mk (vlim E 65 (xi21.c v0 v1 v2 v3 v4))
def xi3q.c (v0:List Int) (v1:List Int) (v2:Zg):List Cell:=ac [.d .fro (.sl (.int .i64)) v0]::ac [.d .fro (.sl (.int .i64)) v1]::vc (.d .fro Ye v2)::[]
def xi3q.mk (b:(List Int) × Bool):R:=(⟨(.tup [some 1,none]),[.d .deep (.sl (.int .i64)) b.1,bL b.2]⟩,nn 3 ([]))
def xi3q.un (r:R):(List Int) × Bool:=((leafR r 0).dat (.sl (.int .i64)),(leafR r 1).dat .bool)
def xi3q (v0:List Int) (v1:List Int) (v2:Zg):Option ((List Int) × Bool):=tOf xi3q.mk (vlim E 109 (xi3q.c v0 v1 v2))
def xi12.c (v0:Zg) (v1:List Int) (v2:List Int):List Cell:=vc (.d .fro Ye v0)::vc (.fn 141 [.rp [.d .fro (.sl (.int .i64)) v1] 0,.rp [.d .fro (.sl (.int .i64)) v2] 0])::[]
def xi12.mk (b:Bool):R:=(⟨.one,[bL b]⟩,nn 2 ([]))
def xi12.un (r:R):Bool:=((leafR r 0).dat .bool)
def xi12 (v0:Zg) (v1:List Int) (v2:List Int):Option (Bool):=tOf xi12.mk (vlim E 138 (xi12.c v0 v1 v2))
def xs09.c (v0:Zg) (v1:List Int) (v2:List Int):List Cell:=vc (.d .fro Ye v0)::vc (.fn 158 [.rp [.fn 141 [.rp [.d .fro (.sl (.int .i64)) v1] 0,.rp [.d .fro (.sl (.int .i64)) v2] 0]] 0])::[]
def xs09.mk (b:Bool):R:=(⟨.one,[bL b]⟩,nn 2 ([]))
def xs09.un (r:R):Bool:=((leafR r 0).dat .bool)
def xs09 (v0:Zg) (v1:List Int) (v2:List Int):Option (Bool):=tOf xs09.mk (vlim E 157 (xs09.c v0 v1 v2))
def xs0e.c (v0:Zg) (v1:List Int) (v2:List Int):List Cell:=vc (.d .fro Ye v0)::vc (.fn 158 [.rp [.fn 141 [.rp [.d .fro (.sl (.int .i64)) v1] 0,.rp [.d .fro (.sl (.int .i64)) v2] 0]] 0])::[]
def xs0e.mk (b:Int):R:=(⟨.one,[iL b]⟩,nn 2 ([]))
def xs0e.un (r:R):Int:=((leafR r 0).dat (.int .i64))
def xs0e (v0:Zg) (v1:List Int) (v2:List Int):Option (Int):=tOf xs0e.mk (vlim E 164 (xs0e.c v0 v1 v2))
def xi0y.c (v0:List Int) (v1:List Int) (v2:List Int):List Cell:=vc (.d .fro (.sl (.int .i64)) v0)::vc (.rp [.fn 141 [.rp [.d .fro (.sl (.int .i64)) v1] 0,.rp [.d .fro (.sl (.int .i64)) v2] 0]] 0)::[]
def xi0y.mk (b:Bool):R:=(⟨.one,[bL b]⟩,nn 2 ([]))
def xi0y.un (r:R):Bool:=((leafR r 0).dat .bool)
def xi0y (v0:List Int) (v1:List Int) (v2:List Int):Option (Bool):=tOf xi0y.mk (vlim E 158 (xi0y.c v0 v1 v2))
def xi2q.c (v0:List Int) (v1:List Int) (v2:List Int):List Cell:=vc (.d .fro (.sl (.int .i64)) v0)::vc (.rp [.d .fro (.sl (.int .i64)) v1] 0)::vc (.rp [.d .fro (.sl (.int .i64)) v2] 0)::[]
def xi2q.mk (b:Bool):R:=(⟨.one,[bL b]⟩,nn 3 ([]))
def xi2q.un (r:R):Bool:=((leafR r 0).dat .bool)
def xi2q (v0:List Int) (v1:List Int) (v2:List Int):Option (Bool):=tOf xi2q.mk (vlim E 141 (xi2q.c v0 v1 v2))
def xi20.c (v0:List Int) (v1:List Int):List Cell:=ac [.d .fro (.sl (.int .i64)) v0]::vc (.d .fro (.sl (.int .i64)) v1)::[]
def xi20.mk (b:(List Int)):R:=(⟨.agg,[.d .deep (.sl (.int .i64)) b]⟩,nn 2 ([]))
def xi20.un (r:R):(List Int):=((leafR r 0).dat (.sl (.int .i64)))
def xi20 (v0:List Int) (v1:List Int):Option ((List Int)):=tOf xi20.mk (vlim E 143 (xi20.c v0 v1))
def xs1a.c (v0:Zg):List Cell:=vc (.d .fro Ye v0)::[]
def xs1a.mk (b:(List Int)):R:=(⟨.one,[.d .deep (.sl (.int .i64)) b]⟩,nn 1 ([]))
def xs1a.un (r:R):(List Int):=((leafR r 0).dat (.sl (.int .i64)))
def xs1a (v0:Zg):Option ((List Int)):=tOf xs1a.mk (vlim E 142 (xs1a.c v0))
def xs15.c (v0:Int):List Cell:=vc (.nil (.int .i64))::vc (iL v0)::[]
def xs15.mk (b:(List Int)):R:=(⟨.one,[.d .deep (.sl (.int .i64)) b]⟩,nn 2 ([]))
def xs15.un (r:R):(List Int):=((leafR r 0).dat (.sl (.int .i64)))
def xs15 (v0:Int):Option ((List Int)):=tOf xs15.mk (vlim E 160 (xs15.c v0))
def xi3r.c (v0:Int) (v1:List Zd):List Cell:=vc (iL v0)::vc (.d .fro (.sl Yd) v1)::[]
def xi3r.mk (b:Int × Zd):R:=(⟨.agg,[iL b.1,.d .deep Yd b.2]⟩,nn 2 ([]))
def xi3r.un (r:R):Int × Zd:=((leafR r 0).dat (.int .i64),(leafR r 1).dat Yd)
def xi3r (v0:Int) (v1:List Zd):Option (Int × Zd):=tOf xi3r.mk (vlim E 49 (xi3r.c v0 v1))
def xs0o.c (v0:List Zd):List Cell:=vc (.d .fro (.sl Yd) v0)::[]
def xs0o.mk (b:Zd):R:=(⟨.one,[.d .sha Yd b]⟩,nn 1 ([]))
def xs0o.un (r:R):Zd:=((leafR r 0).dat Yd)
def xs0o (v0:List Zd):Option (Zd):=tOf xs0o.mk (vlim E 82 (xs0o.c v0))
def xs0n.c (v0:Int):List Cell:=vc (.nil (.pair (.sl (.int .i64)) (.int .i64)))::vc (iL v0)::[]
def xs0n.mk (b:Zd):R:=(⟨.one,[.d .deep Yd b]⟩,nn 2 ([]))
def xs0n.un (r:R):Zd:=((leafR r 0).dat Yd)
def xs0n (v0:Int):Option (Zd):=tOf xs0n.mk (vlim E 123 (xs0n.c v0))
def xs04.c (v0:Zd):List Cell:=⟨(.val .one),[.d .sha Yd v0],true,false,false,0,0⟩::vc (.fn 84 [])::[]
def xs04.mk (b:Zd):R:=(⟨(.tup []),[]⟩,⟨(.val .one),[.d .sha Yd b],true,false,false,0,0⟩::nn 1 ([]))
def xs04.un (r:R):Zd:=((leafF r 0 0).dat Yd)
def xs04 (v0:Zd):Option (Zd):=tOf xs04.mk (vlim E 83 (xs04.c v0))
def xs0j.c (v0:Zd) (v1:Int):List Cell:=⟨(.val .one),[.d .sha Yd v0],true,false,false,0,0⟩::vc (iL v1)::vc (.fn 84 [])::[]
def xs0j.mk (b:Zd):R:=(⟨(.tup []),[]⟩,⟨(.val .one),[.d .sha Yd b],true,false,false,0,0⟩::nn 2 ([]))
def xs0j.un (r:R):Zd:=((leafF r 0 0).dat Yd)
def xs0j (v0:Zd) (v1:Int):Option (Zd):=tOf xs0j.mk (vlim E 124 (xs0j.c v0 v1))
def xs0a.c (v0:Zd) (v1:Int) (v2:Int):List Cell:=⟨(.val .one),[.d .sha Yd v0],true,false,false,0,0⟩::vc (iL v1)::vc (iL v2)::vc (.fn 84 [])::[]
def xs0a.mk (b:Zd):R:=(⟨(.tup []),[]⟩,⟨(.val .one),[.d .sha Yd b],true,false,false,0,0⟩::nn 3 ([]))
def xs0a.un (r:R):Zd:=((leafF r 0 0).dat Yd)
def xs0a (v0:Zd) (v1:Int) (v2:Int):Option (Zd):=tOf xs0a.mk (vlim E 149 (xs0a.c v0 v1 v2))
def xi2r.c (v0:List Int) (v1:Int) (v2:List Int) (v3:Int):List Cell:=ac [.d .fro (.sl (.int .i64)) v0,iL v1]::ac [.d .fro (.sl (.int .i64)) v2,iL v3]::[]
def xi2r.mk (b:Int):R:=(⟨.one,[iL b]⟩,nn 2 ([]))
def xi2r.un (r:R):Int:=((leafR r 0).dat (.int .i64))
def xi2r (v0:List Int) (v1:Int) (v2:List Int) (v3:Int):Option (Int):=tOf xi2r.mk (vlim E 84 (xi2r.c v0 v1 v2 v3))
def xs0h.c (v0:Zd) (v1:Int) (v2:Int) (v3:Int):List Cell:=⟨(.val .one),[.d .sha Yd v0],true,false,false,0,0⟩::vc (iL v1)::vc (iL v2)::vc (iL v3)::vc (.fn 84 [])::[]
def xs0h.mk (b:Zd):R:=(⟨(.tup []),[]⟩,⟨(.val .one),[.d .sha Yd b],true,false,false,0,0⟩::nn 4 ([]))
def xs0h.un (r:R):Zd:=((leafF r 0 0).dat Yd)
def xs0h (v0:Zd) (v1:Int) (v2:Int) (v3:Int):Option (Zd):=tOf xs0h.mk (vlim E 150 (xs0h.c v0 v1 v2 v3))
def xs0i.c (v0:Zd) (v1:Int) (v2:Int) (v3:Int):List Cell:=⟨(.val .one),[.d .sha Yd v0],true,false,false,0,0⟩::vc (iL v1)::vc (iL v2)::vc (iL v3)::vc (.fn 84 [])::[]
def xs0i.mk (b:Zd):R:=(⟨(.tup []),[]⟩,⟨(.val .one),[.d .sha Yd b],true,false,false,0,0⟩::nn 4 ([]))
def xs0i.un (r:R):Zd:=((leafF r 0 0).dat Yd)
def xs0i (v0:Zd) (v1:Int) (v2:Int) (v3:Int):Option (Zd):=tOf xs0i.mk (vlim E 162 (xs0i.c v0 v1 v2 v3))
def xs0f.c (v0:Zd) (v1:Int) (v2:Int) (v3:Int):List Cell:=⟨(.val .one),[.d .sha Yd v0],true,false,false,0,0⟩::vc (iL v1)::vc (iL v2)::vc (iL v3)::vc (.fn 84 [])::[]
def xs0f.mk (b:Zd):R:=(⟨(.tup []),[]⟩,⟨(.val .one),[.d .sha Yd b],true,false,false,0,0⟩::nn 4 ([]))
def xs0f.un (r:R):Zd:=((leafF r 0 0).dat Yd)
def xs0f (v0:Zd) (v1:Int) (v2:Int) (v3:Int):Option (Zd):=tOf xs0f.mk (vlim E 165 (xs0f.c v0 v1 v2 v3))
def xi33.c (v0:List Int):List Cell:=ac [.d .fro (.sl (.int .i64)) v0]::[]
def xi33.mk (b:(List Int)):R:=(⟨.agg,[.d .deep (.sl (.int .i64)) b]⟩,nn 1 ([]))
def xi33.un (r:R):(List Int):=((leafR r 0).dat (.sl (.int .i64)))
def xi33 (v0:List Int):Option ((List Int)):=tOf xi33.mk (vlim E 85 (xi33.c v0))
def xs1c.c (v0:List Int):List Cell:=vc (.d .fro (.sl (.int .i64)) v0)::[]
def xs1c.mk (b:(List Int)):R:=(⟨.one,[.d .deep (.sl (.int .i64)) b]⟩,nn 1 ([]))
def xs1c.un (r:R):(List Int):=((leafR r 0).dat (.sl (.int .i64)))
def xs1c (v0:List Int):Option ((List Int)):=tOf xs1c.mk (vlim E 125 (xs1c.c v0))
def xi1d.c (v0:Int) (v1:Zd):List Cell:=ac [iL v0,.d .fro Yd v1]::[]
def xi1d.mk (b:Int × Zd):R:=(⟨.agg,[iL b.1,.d .deep Yd b.2]⟩,nn 1 ([]))
def xi1d.un (r:R):Int × Zd:=((leafR r 0).dat (.int .i64),(leafR r 1).dat Yd)
def xi1d (v0:Int) (v1:Zd):Option (Int × Zd):=tOf xi1d.mk (vlim E 66 (xi1d.c v0 v1))
def xi0s.c (v0:Int) (v1:Zd):List Cell:=ac [iL v0,.d .fro Yd v1]::vc (.fn 111 [])::[]
def xi0s.mk (b:Int × Zd):R:=(⟨.agg,[iL b.1,.d .deep Yd b.2]⟩,nn 2 ([]))
def xi0s.un (r:R):Int × Zd:=((leafR r 0).dat (.int .i64),(leafR r 1).dat Yd)
def xi0s (v0:Int) (v1:Zd):Option (Int × Zd):=tOf xi0s.mk (vlim E 110 (xi0s.c v0 v1))
def xi18.c (v0:List Int) (v1:Int):List Cell:=ac [.d .fro (.sl (.int .i64)) v0,iL v1]::[]
def xi18.mk (b:Int):R:=(⟨.one,[iL b]⟩,nn 1 ([]))
def xi18.un (r:R):Int:=((leafR r 0).dat (.int .i64))
def xi18 (v0:List Int) (v1:Int):Option (Int):=tOf xi18.mk (vlim E 111 (xi18.c v0 v1))
def xi4i.c (v0:Int):List Cell:=vc (iL v0)::[]
def xi4i.mk (b:Int):R:=(⟨.one,[iL b]⟩,nn 1 ([]))
def xi4i.un (r:R):Int:=((leafR r 0).dat (.int .i64))
def xi4i (v0:Int):Option (Int):=tOf xi4i.mk (vlim E 112 (xi4i.c v0))
def xi1t.c (v0:Int) (v1:Int) (v2:Int) (v3:Ze) (v4:List Int) (v5:Zg) (v6:Zb) (v7:Zb):List Cell:=ac [iL v0,iL v1,iL v2,.d .fro Yc v3,.d .fro (.sl (.int .i64)) v4,.d .fro Ye v5]::vc (.d .fro Yb v6)::vc (.d .fro Yb v7)::[]
def xi1t.mk (b:Int × Zd):R:=(⟨.agg,[iL b.1,.d .deep Yd b.2]⟩,nn 3 ([]))
def xi1t.un (r:R):Int × Zd:=((leafR r 0).dat (.int .i64),(leafR r 1).dat Yd)
def xi1t (v0:Int) (v1:Int) (v2:Int) (v3:Ze) (v4:List Int) (v5:Zg) (v6:Zb) (v7:Zb):Option (Int × Zd):=tOf xi1t.mk (vlim E 67 (xi1t.c v0 v1 v2 v3 v4 v5 v6 v7))
def xi1o.c (v0:Int) (v1:Zd) (v2:Int):List Cell:=ac [iL v0,.d .fro Yd v1]::vc (iL v2)::[]
def xi1o.mk (b:Int × Zd):R:=(⟨.agg,[iL b.1,.d .deep Yd b.2]⟩,nn 2 ([]))
def xi1o.un (r:R):Int × Zd:=((leafR r 0).dat (.int .i64),(leafR r 1).dat Yd)
def xi1o (v0:Int) (v1:Zd) (v2:Int):Option (Int × Zd):=tOf xi1o.mk (vlim E 113 (xi1o.c v0 v1 v2))
def xi1e.c (v0:Int) (v1:Zd) (v2:Ze):List Cell:=ac [iL v0,.d .fro Yd v1]::vc (.d .fro Yc v2)::[]
def xi1e.mk (b:Int × Zd):R:=(⟨.agg,[iL b.1,.d .deep Yd b.2]⟩,nn 2 ([]))
def xi1e.un (r:R):Int × Zd:=((leafR r 0).dat (.int .i64),(leafR r 1).dat Yd)
def xi1e (v0:Int) (v1:Zd) (v2:Ze):Option (Int × Zd):=tOf xi1e.mk (vlim E 114 (xi1e.c v0 v1 v2))
def xi0t.c (v0:Int) (v1:Zd) (v2:Ze):List Cell:=ac [iL v0,.d .fro Yd v1]::vc (.fn 144 [.rp [.d .fro Yc v2] 0])::[]
def xi0t.mk (b:Int × Zd):R:=(⟨.agg,[iL b.1,.d .deep Yd b.2]⟩,nn 2 ([]))
def xi0t.un (r:R):Int × Zd:=((leafR r 0).dat (.int .i64),(leafR r 1).dat Yd)
def xi0t (v0:Int) (v1:Zd) (v2:Ze):Option (Int × Zd):=tOf xi0t.mk (vlim E 110 (xi0t.c v0 v1 v2))
def xi19.c (v0:List Int) (v1:Int) (v2:Ze):List Cell:=ac [.d .fro (.sl (.int .i64)) v0,iL v1]::vc (.rp [.d .fro Yc v2] 0)::[]
def xi19.mk (b:Int):R:=(⟨.one,[iL b]⟩,nn 2 ([]))
def xi19.un (r:R):Int:=((leafR r 0).dat (.int .i64))
def xi19 (v0:List Int) (v1:Int) (v2:Ze):Option (Int):=tOf xi19.mk (vlim E 144 (xi19.c v0 v1 v2))
def xi0l.c (v0:Ze) (v1:List Int) (v2:Int):List Cell:=vc (.d .fro Yc v0)::vc (.fn 145 [.rp [.d .fro (.sl (.int .i64)) v1,iL v2] 0])::[]
def xi0l.mk (b:Bool):R:=(⟨.one,[bL b]⟩,nn 2 ([]))
def xi0l.un (r:R):Bool:=((leafR r 0).dat .bool)
def xi0l (v0:Ze) (v1:List Int) (v2:Int):Option (Bool):=tOf xi0l.mk (vlim E 133 (xi0l.c v0 v1 v2))
def xs00.c (v0:Ze) (v1:List Int) (v2:Int):List Cell:=vc (.d .fro Yc v0)::vc (.fn 156 [.rp [.fn 145 [.rp [.d .fro (.sl (.int .i64)) v1,iL v2] 0]] 0])::[]
def xs00.mk (b:Bool):R:=(⟨.one,[bL b]⟩,nn 2 ([]))
def xs00.un (r:R):Bool:=((leafR r 0).dat .bool)
def xs00 (v0:Ze) (v1:List Int) (v2:Int):Option (Bool):=tOf xs00.mk (vlim E 155 (xs00.c v0 v1 v2))
def xs01.c (v0:Ze) (v1:List Int) (v2:Int):List Cell:=vc (.d .fro Yc v0)::vc (.fn 156 [.rp [.fn 145 [.rp [.d .fro (.sl (.int .i64)) v1,iL v2] 0]] 0])::[]
def xs01.mk (b:Int):R:=(⟨.one,[iL b]⟩,nn 2 ([]))
def xs01.un (r:R):Int:=((leafR r 0).dat (.int .i64))
def xs01 (v0:Ze) (v1:List Int) (v2:Int):Option (Int):=tOf xs01.mk (vlim E 163 (xs01.c v0 v1 v2))
def xi0k.c (v0:Int) (v1:Int) (v2:Int) (v3:List Int) (v4:Int):List Cell:=ac [iL v0,iL v1,iL v2]::vc (.rp [.fn 145 [.rp [.d .fro (.sl (.int .i64)) v3,iL v4] 0]] 0)::[]
def xi0k.mk (b:Bool):R:=(⟨.one,[bL b]⟩,nn 2 ([]))
def xi0k.un (r:R):Bool:=((leafR r 0).dat .bool)
def xi0k (v0:Int) (v1:Int) (v2:Int) (v3:List Int) (v4:Int):Option (Bool):=tOf xi0k.mk (vlim E 156 (xi0k.c v0 v1 v2 v3 v4))
def xi14.c (v0:Int) (v1:Int) (v2:Int) (v3:List Int) (v4:Int):List Cell:=ac [iL v0,iL v1,iL v2]::vc (.rp [.d .fro (.sl (.int .i64)) v3,iL v4] 0)::[]
def xi14.mk (b:Bool):R:=(⟨.one,[bL b]⟩,nn 2 ([]))
def xi14.un (r:R):Bool:=((leafR r 0).dat .bool)
def xi14 (v0:Int) (v1:Int) (v2:Int) (v3:List Int) (v4:Int):Option (Bool):=tOf xi14.mk (vlim E 145 (xi14.c v0 v1 v2 v3 v4))
def xi1u.c (v0:Int) (v1:Int) (v2:Int) (v3:List Int):List Cell:=ac [iL v0,iL v1,iL v2]::ac [.d .fro (.sl (.int .i64)) v3]::[]
def xi1u.mk (b:Bool):R:=(⟨.one,[bL b]⟩,nn 2 ([]))
def xi1u.un (r:R):Bool:=((leafR r 0).dat .bool)
def xi1u (v0:Int) (v1:Int) (v2:Int) (v3:List Int):Option (Bool):=tOf xi1u.mk (vlim E 146 (xi1u.c v0 v1 v2 v3))
def xi1b.c (v0:Int) (v1:Zd) (v2:List Int):List Cell:=ac [iL v0,.d .fro Yd v1]::vc (.d .fro (.sl (.int .i64)) v2)::[]
def xi1b.mk (b:Int × Zd):R:=(⟨.agg,[iL b.1,.d .deep Yd b.2]⟩,nn 2 ([]))
def xi1b.un (r:R):Int × Zd:=((leafR r 0).dat (.int .i64),(leafR r 1).dat Yd)
def xi1b (v0:Int) (v1:Zd) (v2:List Int):Option (Int × Zd):=tOf xi1b.mk (vlim E 115 (xi1b.c v0 v1 v2))
def xl2t.c (v0:Zb) (v1:Zb):List Cell:=vc (.d .fro Yb v0)::vc (.d .fro Yb v1)::[]
def xl2t.mk (b:Bool):R:=(⟨.one,[bL b]⟩,nn 2 ([]))
def xl2t.un (r:R):Bool:=((leafR r 0).dat .bool)
def xl2t (v0:Zb) (v1:Zb):Option (Bool):=tOf xl2t.mk (vlim E 12 (xl2t.c v0 v1))
def xl39.c (v0:Int) (v1:Zd) (v2:Int) (v3:Zd):List Cell:=ac [iL v0,.d .fro Yd v1]::ac [iL v2,.d .fro Yd v3]::[]
def xl39.mk (b:Bool):R:=(⟨.one,[bL b]⟩,nn 2 ([]))
def xl39.un (r:R):Bool:=((leafR r 0).dat .bool)
def xl39 (v0:Int) (v1:Zd) (v2:Int) (v3:Zd):Option (Bool):=tOf xl39.mk (vlim E 19 (xl39.c v0 v1 v2 v3))
def xl1w.c (v0:Zd) (v1:Zd):List Cell:=vc (.d .fro Yd v0)::vc (.d .fro Yd v1)::[]
def xl1w.mk (b:Bool):R:=(⟨.one,[bL b]⟩,nn 2 ([]))
def xl1w.un (r:R):Bool:=((leafR r 0).dat .bool)
def xl1w (v0:Zd) (v1:Zd):Option (Bool):=tOf xl1w.mk (vlim E 43 (xl1w.c v0 v1))
def xl26.c (v0:List Int) (v1:Int) (v2:List Int) (v3:Int):List Cell:=ac [.d .fro (.sl (.int .i64)) v0,iL v1]::ac [.d .fro (.sl (.int .i64)) v2,iL v3]::[]
def xl26.mk (b:Bool):R:=(⟨.one,[bL b]⟩,nn 2 ([]))
def xl26.un (r:R):Bool:=((leafR r 0).dat .bool)
def xl26 (v0:List Int) (v1:Int) (v2:List Int) (v3:Int):Option (Bool):=tOf xl26.mk (vlim E 75 (xl26.c v0 v1 v2 v3))
def xl4b.c (v0:List Int) (v1:List Int):List Cell:=ac [.d .fro (.sl (.int .i64)) v0]::ac [.d .fro (.sl (.int .i64)) v1]::[]
def xl4b.mk (b:Bool):R:=(⟨.one,[bL b]⟩,nn 2 ([]))
def xl4b.un (r:R):Bool:=((leafR r 0).dat .bool)
def xl4b (v0:List Int) (v1:List Int):Option (Bool):=tOf xl4b.mk (vlim E 120 (xl4b.c v0 v1))
def xl3t.c (v0:List Int) (v1:List Int):List Cell:=vc (.d .fro (.sl (.int .i64)) v0)::vc (.d .fro (.sl (.int .i64)) v1)::[]
def xl3t.mk (b:Bool):R:=(⟨.one,[bL b]⟩,nn 2 ([]))
def xl3t.un (r:R):Bool:=((leafR r 0).dat .bool)
def xl3t (v0:List Int) (v1:List Int):Option (Bool):=tOf xl3t.mk (vlim E 37 (xl3t.c v0 v1))
def xl3w.c (v0:List Int) (v1:Za) (v2:List Int) (v3:Za):List Cell:=ac [.d .fro (.sl (.int .i64)) v0,.d .fro Ya v1]::ac [.d .fro (.sl (.int .i64)) v2,.d .fro Ya v3]::[]
def xl3w.mk (b:Bool):R:=(⟨.one,[bL b]⟩,nn 2 ([]))
def xl3w.un (r:R):Bool:=((leafR r 0).dat .bool)
def xl3w (v0:List Int) (v1:Za) (v2:List Int) (v3:Za):Option (Bool):=tOf xl3w.mk (vlim E 13 (xl3w.c v0 v1 v2 v3))
def xl38.c (v0:Za) (v1:Za):List Cell:=vc (.d .fro Ya v0)::vc (.d .fro Ya v1)::[]
def xl38.mk (b:Bool):R:=(⟨.one,[bL b]⟩,nn 2 ([]))
def xl38.un (r:R):Bool:=((leafR r 0).dat .bool)
def xl38 (v0:Za) (v1:Za):Option (Bool):=tOf xl38.mk (vlim E 38 (xl38.c v0 v1))
def xl3u.c (v0:Int) (v1:Int) (v2:Int) (v3:Ze) (v4:List Int) (v5:Zg) (v6:Int) (v7:Int) (v8:Int) (v9:Ze) (v10:List Int) (v11:Zg):List Cell:=ac [iL v0,iL v1,iL v2,.d .fro Yc v3,.d .fro (.sl (.int .i64)) v4,.d .fro Ye v5]::ac [iL v6,iL v7,iL v8,.d .fro Yc v9,.d .fro (.sl (.int .i64)) v10,.d .fro Ye v11]::[]
def xl3u.mk (b:Bool):R:=(⟨.one,[bL b]⟩,nn 2 ([]))
def xl3u.un (r:R):Bool:=((leafR r 0).dat .bool)
def xl3u (v0:Int) (v1:Int) (v2:Int) (v3:Ze) (v4:List Int) (v5:Zg) (v6:Int) (v7:Int) (v8:Int) (v9:Ze) (v10:List Int) (v11:Zg):Option (Bool):=tOf xl3u.mk (vlim E 71 (xl3u.c v0 v1 v2 v3 v4 v5 v6 v7 v8 v9 v10 v11))
def xl3a.c (v0:Ze) (v1:Ze):List Cell:=vc (.d .fro Yc v0)::vc (.d .fro Yc v1)::[]
def xl3a.mk (b:Bool):R:=(⟨.one,[bL b]⟩,nn 2 ([]))
def xl3a.un (r:R):Bool:=((leafR r 0).dat .bool)
def xl3a (v0:Ze) (v1:Ze):Option (Bool):=tOf xl3a.mk (vlim E 118 (xl3a.c v0 v1))
def xl3v.c (v0:Int) (v1:Int) (v2:Int) (v3:Int) (v4:Int) (v5:Int):List Cell:=ac [iL v0,iL v1,iL v2]::ac [iL v3,iL v4,iL v5]::[]
def xl3v.mk (b:Bool):R:=(⟨.one,[bL b]⟩,nn 2 ([]))
def xl3v.un (r:R):Bool:=((leafR r 0).dat .bool)
def xl3v (v0:Int) (v1:Int) (v2:Int) (v3:Int) (v4:Int) (v5:Int):Option (Bool):=tOf xl3v.mk (vlim E 148 (xl3v.c v0 v1 v2 v3 v4 v5))
def xl37.c (v0:Zg) (v1:Zg):List Cell:=vc (.d .fro Ye v0)::vc (.d .fro Ye v1)::[]
def xl37.mk (b:Bool):R:=(⟨.one,[bL b]⟩,nn 2 ([]))
def xl37.un (r:R):Bool:=((leafR r 0).dat .bool)
def xl37 (v0:Zg) (v1:Zg):Option (Bool):=tOf xl37.mk (vlim E 119 (xl37.c v0 v1))
def xl1r.c (v0:List Int) (v1:Za) (v2:Int):List Cell:=⟨(.val .agg),[.d .deep (.sl (.int .i64)) v0,.d .deep Ya v1],true,false,false,0,0⟩::vc (iL v2)::[]
def xl1r.mk (b:Int × (List Int) × Za):R:=(⟨.one,[iL b.1]⟩,⟨(.val .agg),[.d .deep (.sl (.int .i64)) b.2.1,.d .deep Ya b.2.2],true,false,false,0,0⟩::nn 1 ([]))
def xl1r.un (r:R):Int × (List Int) × Za:=((leafR r 0).dat (.int .i64),(leafF r 0 0).dat (.sl (.int .i64)),(leafF r 0 1).dat Ya)
def xl1r (v0:List Int) (v1:Za) (v2:Int):Option (Int × (List Int) × Za):=tOf xl1r.mk (vlim E 14 (xl1r.c v0 v1 v2))
def xl1q.c (v0:List Int) (v1:Int):List Cell:=⟨(.val .one),[.d .deep (.sl (.int .i64)) v0],true,false,false,0,0⟩::vc (iL v1)::[]
def xl1q.mk (b:Int × (List Int)):R:=(⟨.one,[iL b.1]⟩,⟨(.val .one),[.d .deep (.sl (.int .i64)) b.2],true,false,false,0,0⟩::nn 1 ([]))
def xl1q.un (r:R):Int × (List Int):=((leafR r 0).dat (.int .i64),(leafF r 0 0).dat (.sl (.int .i64)))
def xl1q (v0:List Int) (v1:Int):Option (Int × (List Int)):=tOf xl1q.mk (vlim E 39 (xl1q.c v0 v1))
def xl1l.c (v0:Za) (v1:Int):List Cell:=⟨(.val .one),[.d .deep Ya v0],true,false,false,0,0⟩::vc (iL v1)::[]
def xl1l.mk (b:Int × Za):R:=(⟨.one,[iL b.1]⟩,⟨(.val .one),[.d .deep Ya b.2],true,false,false,0,0⟩::nn 1 ([]))
def xl1l.un (r:R):Int × Za:=((leafR r 0).dat (.int .i64),(leafF r 0 0).dat Ya)
def xl1l (v0:Za) (v1:Int):Option (Int × Za):=tOf xl1l.mk (vlim E 40 (xl1l.c v0 v1))
def xl1n.c (v0:Ze) (v1:Int):List Cell:=⟨(.val .one),[.d .deep Yc v0],true,false,false,0,0⟩::vc (iL v1)::[]
def xl1n.mk (b:Int × Ze):R:=(⟨.one,[iL b.1]⟩,⟨(.val .one),[.d .deep Yc b.2],true,false,false,0,0⟩::nn 1 ([]))
def xl1n.un (r:R):Int × Ze:=((leafR r 0).dat (.int .i64),(leafF r 0 0).dat Yc)
def xl1n (v0:Ze) (v1:Int):Option (Int × Ze):=tOf xl1n.mk (vlim E 72 (xl1n.c v0 v1))
def xl1k.c (v0:Zg) (v1:Int):List Cell:=⟨(.val .one),[.d .deep Ye v0],true,false,false,0,0⟩::vc (iL v1)::[]
def xl1k.mk (b:Int × Zg):R:=(⟨.one,[iL b.1]⟩,⟨(.val .one),[.d .deep Ye b.2],true,false,false,0,0⟩::nn 1 ([]))
def xl1k.un (r:R):Int × Zg:=((leafR r 0).dat (.int .i64),(leafF r 0 0).dat Ye)
def xl1k (v0:Zg) (v1:Int):Option (Int × Zg):=tOf xl1k.mk (vlim E 73 (xl1k.c v0 v1))
def xl1h.c (v0:Zb) (v1:Int):List Cell:=⟨(.val .one),[.d .deep Yb v0],true,false,false,0,0⟩::vc (iL v1)::[]
def xl1h.mk (b:Int × Zb):R:=(⟨.one,[iL b.1]⟩,⟨(.val .one),[.d .deep Yb b.2],true,false,false,0,0⟩::nn 1 ([]))
def xl1h.un (r:R):Int × Zb:=((leafR r 0).dat (.int .i64),(leafF r 0 0).dat Yb)
def xl1h (v0:Zb) (v1:Int):Option (Int × Zb):=tOf xl1h.mk (vlim E 15 (xl1h.c v0 v1))
def xl16.c (v0:Zd) (v1:Int):List Cell:=⟨(.val .one),[.d .deep Yd v0],true,false,false,0,0⟩::vc (iL v1)::[]
def xl16.mk (b:Int × Zd):R:=(⟨.one,[iL b.1]⟩,⟨(.val .one),[.d .deep Yd b.2],true,false,false,0,0⟩::nn 1 ([]))
def xl16.un (r:R):Int × Zd:=((leafR r 0).dat (.int .i64),(leafF r 0 0).dat Yd)
def xl16 (v0:Zd) (v1:Int):Option (Int × Zd):=tOf xl16.mk (vlim E 41 (xl16.c v0 v1))
def xl1j.c (v0:Zd) (v1:Int):List Cell:=vc (.d .fro Yd v0)::vc (iL v1)::[]
def xl1j.mk (b:Int):R:=(⟨.one,[iL b]⟩,nn 2 ([]))
def xl1j.un (r:R):Int:=((leafR r 0).dat (.int .i64))
def xl1j (v0:Zd) (v1:Int):Option (Int):=tOf xl1j.mk (vlim E 42 (xl1j.c v0 v1))
def xl2u.c (v0:List Int) (v1:Int):List Cell:=vc (.d .fro (.sl (.int .i64)) v0)::vc (iL v1)::[]
def xl2u.mk (b:Int):R:=(⟨.one,[iL b]⟩,nn 2 ([]))
def xl2u.un (r:R):Int:=((leafR r 0).dat (.int .i64))
def xl2u (v0:List Int) (v1:Int):Option (Int):=tOf xl2u.mk (vlim E 74 (xl2u.c v0 v1))
def xl1g.c (v0:List Int) (v1:Za) (v2:Zb):List Cell:=ac [.d .fro (.sl (.int .i64)) v0,.d .fro Ya v1]::vc (.d .fro Yb v2)::[]
def xl1g.mk (b:Bool):R:=(⟨.one,[bL b]⟩,nn 2 ([]))
def xl1g.un (r:R):Bool:=((leafR r 0).dat .bool)
def xl1g (v0:List Int) (v1:Za) (v2:Zb):Option (Bool):=tOf xl1g.mk (vlim E 4 (xl1g.c v0 v1 v2))
def xs3k.c (v0:List Int) (v1:Za) (v2:Zb):List Cell:=ac [.d .fro (.sl (.int .i64)) v0,.d .fro Ya v1]::vc (.d .fro Yb v2)::[]
def xs3k.mk (b:Int × Zd × Bool):R:=(⟨(.tup [some 2,none]),[iL b.1,.d .fro Yd b.2.1,bL b.2.2]⟩,nn 2 ([]))
def xs3k.un (r:R):Int × Zd × Bool:=((leafR r 0).dat (.int .i64),(leafR r 1).dat Yd,(leafR r 2).dat .bool)
def xs3k (v0:List Int) (v1:Za) (v2:Zb):Option (Int × Zd × Bool):=tOf xs3k.mk (vlim E 17 (xs3k.c v0 v1 v2))
def xi34.c (v0:List Int) (v1:Za) (v2:Zb):List Cell:=ac [.d .fro (.sl (.int .i64)) v0,.d .fro Ya v1]::vc (.d .fro Yb v2)::[]
def xi34.mk (b:Int × Zd × Bool):R:=(⟨(.tup [some 2,none]),[iL b.1,.d .deep Yd b.2.1,bL b.2.2]⟩,nn 2 ([]))
def xi34.un (r:R):Int × Zd × Bool:=((leafR r 0).dat (.int .i64),(leafR r 1).dat Yd,(leafR r 2).dat .bool)
def xi34 (v0:List Int) (v1:Za) (v2:Zb):Option (Int × Zd × Bool):=tOf xi34.mk (vlim E 18 (xi34.c v0 v1 v2))
def xl1m.c (v0:Int) (v1:Zd) (v2:Int):List Cell:=⟨(.val .agg),[iL v0,.d .deep Yd v1],true,false,false,0,0⟩::vc (iL v2)::[]
def xl1m.mk (b:Int × Int × Zd):R:=(⟨.one,[iL b.1]⟩,⟨(.val .agg),[iL b.2.1,.d .deep Yd b.2.2],true,false,false,0,0⟩::nn 1 ([]))
def xl1m.un (r:R):Int × Int × Zd:=((leafR r 0).dat (.int .i64),(leafF r 0 0).dat (.int .i64),(leafF r 0 1).dat Yd)
def xl1m (v0:Int) (v1:Zd) (v2:Int):Option (Int × Int × Zd):=tOf xl1m.mk (vlim E 20 (xl1m.c v0 v1 v2))
def xl2g.c (v0:Int) (v1:Zd) (v2:Int):List Cell:=ac [iL v0,.d .fro Yd v1]::vc (iL v2)::[]
def xl2g.mk (b:Int):R:=(⟨.one,[iL b]⟩,nn 2 ([]))
def xl2g.un (r:R):Int:=((leafR r 0).dat (.int .i64))
def xl2g (v0:Int) (v1:Zd) (v2:Int):Option (Int):=tOf xl2g.mk (vlim E 21 (xl2g.c v0 v1 v2))
def tabT : List (Nat × List (List Cell × Tb)) := [
 (4,[(xl1g.c [] [] [],.one (Bool) xl1g.mk)]),
 (6,[(xl3z.c [] [] 0,.one (Int) xl3z.mk)]),
 (7,[(xl2v.c [] 0,.one (Int) xl2v.mk)]),
 (8,[(xs44.c [] [] [],.one (Zb × Bool) xs44.mk)]),
 (9,[(xl43.c [] [],.one ((List Int) × Za) xl43.mk)]),
 (10,[(xl2w.c [],.one (Zb) xl2w.mk)]),
 (11,[(xi3o.c [] [] [],.one (Zb × Bool) xi3o.mk)]),
 (12,[(xl2t.c [] [],.one (Bool) xl2t.mk)]),
 (13,[(xl3w.c [] [] [] [],.one (Bool) xl3w.mk)]),
 (14,[(xl1r.c [] [] 0,.one (Int × (List Int) × Za) xl1r.mk)]),
 (15,[(xl1h.c [] 0,.one (Int × Zb) xl1h.mk)]),
 (17,[(xs3k.c [] [] [],.one (Int × Zd × Bool) xs3k.mk)]),
 (18,[(xi34.c [] [] [],.one (Int × Zd × Bool) xi34.mk)]),
 (19,[(xl39.c 0 [] 0 [],.one (Bool) xl39.mk)]),
 (20,[(xl1m.c 0 [] 0,.one (Int × Int × Zd) xl1m.mk)]),
 (21,[(xl2g.c 0 [] 0,.one (Int) xl2g.mk)]),
 (24,[(xl3x.c [] 0,.one (Int) xl3x.mk)]),
 (25,[(xl3c.c [] 0,.one (Int) xl3c.mk)]),
 (26,[(xl3d.c 0 [] 0,.one (Int) xl3d.mk)]),
 (27,[(xs3n.c [] [],.one ((List Int) × Bool) xs3n.mk)]),
 (28,[(xs30.c [] [] [],.one (Bool) xs30.mk)]),
 (29,[(xs4g.c [] [] [],.one (Zb × Bool) xs4g.mk)]),
 (30,[(xl40.c [],.one ((List Int)) xl40.mk)]),
 (31,[(xl3g.c [],.one (Za) xl3g.mk)]),
 (32,[(xl3h.c 0 [],.one (Int × Zd) xl3h.mk)]),
 (33,[(xi2b.c [] [],.one ((List Int) × Bool) xi2b.mk)]),
 (34,[(xi22.c [] [] [],.one (Bool) xi22.mk)]),
 (35,[(xi32.c 0 0 0 [] [] [] [] [],.one (Int × Zd) xi32.mk)]),
 (36,[(xi2c.c 0 [],.one (Bool) xi2c.mk)]),
 (37,[(xl3t.c [] [],.one (Bool) xl3t.mk)]),
 (38,[(xl38.c [] [],.one (Bool) xl38.mk)]),
 (39,[(xl1q.c [] 0,.one (Int × (List Int)) xl1q.mk)]),
 (40,[(xl1l.c [] 0,.one (Int × Za) xl1l.mk)]),
 (41,[(xl16.c [] 0,.one (Int × Zd) xl16.mk)]),
 (42,[(xl1j.c [] 0,.one (Int) xl1j.mk)]),
 (43,[(xl1w.c [] [],.one (Bool) xl1w.mk)]),
 (47,[(xs2a.c 0 0 0 [] [] [] [] [],.one (Zd × Zb × Zb) xs2a.mk)]),
 (48,[(xs47.c 0 [],.one (Int × Zd × Bool) xs47.mk)]),
 (49,[(xi3r.c 0 [],.one (Int × Zd) xi3r.mk)]),
 (51,[(xl3y.c 0 0 0 [] [] [] 0,.one (Int) xl3y.mk)]),
 (52,[(xl1x.c [] 0,.one (Int) xl1x.mk)]),
 (53,[(xs4h.c 0 0 0,.one (Bool) xs4h.mk)]),
 (54,[(xs2m.c 0 0 0 [] [] [] [],.one (Int × Bool) xs2m.mk)]),
 (55,[(xs2h.c 0 [],.one (Bool) xs2h.mk)]),
 (56,[(xs48.c [] [] [],.one (Zd) xs48.mk)]),
 (57,[(xs29.c [],.one (Zd) xs29.mk)]),
 (58,[(xl41.c 0 0 0 [] [] [],.one (Int × Int × Int × Ze × (List Int) × Zg) xl41.mk)]),
 (59,[(xl1y.c [],.one (Zd) xl1y.mk)]),
 (60,[(xi3s.c 0 0 0,.one (Bool) xi3s.mk)]),
 (61,[(xi10.c [],.one (Bool) xi10.mk),(xi0w.c [] 0,.one (Bool) xi0w.mk),(xi13.c [],.one (Bool) xi13.mk)]),
 (62,[(xi2f.c 0,.one (Bool) xi2f.mk)]),
 (63,[(xi1f.c [] [] 0 0 0 [] [] [] [],.one (Int × Bool) xi1f.mk)]),
 (64,[(xi2e.c 0 0 0 [] [] [],.one (Bool) xi2e.mk)]),
 (65,[(xi21.c 0 [] 0 [] [],.one (Int × Zd) xi21.mk)]),
 (66,[(xi1d.c 0 [],.one (Int × Zd) xi1d.mk)]),
 (67,[(xi1t.c 0 0 0 [] [] [] [] [],.one (Int × Zd) xi1t.mk)]),
 (68,[(xi36.c [] 0,.one (Bool) xi36.mk)]),
 (69,[(xi2p.c 0,.one (Bool) xi2p.mk)]),
 (70,[(xi1v.c [] [],.one (Int) xi1v.mk)]),
 (71,[(xl3u.c 0 0 0 [] [] [] 0 0 0 [] [] [],.one (Bool) xl3u.mk)]),
 (72,[(xl1n.c [] 0,.one (Int × Ze) xl1n.mk)]),
 (73,[(xl1k.c [] 0,.one (Int × Zg) xl1k.mk)]),
 (74,[(xl2u.c [] 0,.one (Int) xl2u.mk)]),
 (75,[(xl26.c [] 0 [] 0,.one (Bool) xl26.mk)]),
 (76,[(xs4e.c [] [],.one (Zd) xs4e.mk)]),
 (78,[(xs2z.c [] [],.one (Zd) xs2z.mk)]),
 (79,[(xs2l.c [] [],.one (Zd) xs2l.mk)]),
 (80,[(xs3m.c [] 0,.one (Zd) xs3m.mk)]),
 (81,[(xs2x.c [],.one ((List Int)) xs2x.mk)]),
 (82,[(xs0o.c [],.one (Zd) xs0o.mk)]),
 (83,[(xs04.c [],.one (Zd) xs04.mk)]),
 (84,[(xi2r.c [] 0 [] 0,.one (Int) xi2r.mk)]),
 (85,[(xi33.c [],.one ((List Int)) xi33.mk)]),
 (88,[(xl3e.c [] 0,.one (Int) xl3e.mk)]),
 (89,[(xl3b.c [] 0,.one (Int) xl3b.mk)]),
 (90,[(xl27.c [] 0 0,.one (Int) xl27.mk)]),
 (91,[(xs2i.c [] 0,.one (Bool) xs2i.mk)]),
 (92,[(xs2j.c [] 0,.one (Bool) xs2j.mk)]),
 (93,[(xs3l.c [] 0 0,.one (Bool) xs3l.mk)]),
 (94,[(xs49.c [] 0,.one (Int) xs49.mk)]),
 (95,[(xs3j.c [],.one (Bool) xs3j.mk)]),
 (96,[(xs2y.c 0,.one (Bool) xs2y.mk)]),
 (97,[(xs2k.c [] [],.one (Int) xs2k.mk)]),
 (98,[(xs45.c [] [] [],.one ((List Int) × Bool) xs45.mk)]),
 (99,[(xs4f.c [] [] 0,.one (Zd) xs4f.mk)]),
 (100,[(xl3i.c [],.one (Ze) xl3i.mk)]),
 (101,[(xl3f.c [],.one (Zg) xl3f.mk)]),
 (102,[(xl28.c [] 0,.one ((List Int) × Int) xl28.mk)]),
 (103,[(xs07.c [],.one (Bool) xs07.mk),(xs05.c [] 0,.one (Bool) xs05.mk),(xs0c.c [],.one (Bool) xs0c.mk)]),
 (104,[(xi0x.c 0,.one (Bool) xi0x.mk),(xi0u.c 0 0,.one (Bool) xi0u.mk),(xi11.c 0,.one (Bool) xi11.mk)]),
 (105,[(xi2d.c [] 0,.one (Bool) xi2d.mk)]),
 (106,[(xi23.c [] 0,.one (Bool) xi23.mk)]),
 (107,[(xi2o.c [] 0 0,.one (Bool) xi2o.mk)]),
 (108,[(xi1i.c 0 0 [],.one (Int) xi1i.mk)]),
 (109,[(xi3q.c [] [] [],.one ((List Int) × Bool) xi3q.mk)]),
 (110,[(xi0s.c 0 [],.one (Int × Zd) xi0s.mk),(xi0t.c 0 [] [],.one (Int × Zd) xi0t.mk)]),
 (111,[(xi18.c [] 0,.one (Int) xi18.mk)]),
 (112,[(xi4i.c 0,.one (Int) xi4i.mk)]),
 (113,[(xi1o.c 0 [] 0,.one (Int × Zd) xi1o.mk)]),
 (114,[(xi1e.c 0 [] [],.one (Int × Zd) xi1e.mk)]),
 (115,[(xi1b.c 0 [] [],.one (Int × Zd) xi1b.mk)]),
 (116,[(xi31.c [],.one (Bool) xi31.mk)]),
 (117,[(xs17.c [] [],.one (Int) xs17.mk)]),
 (118,[(xl3a.c [] [],.one (Bool) xl3a.mk)]),
 (119,[(xl37.c [] [],.one (Bool) xl37.mk)]),
 (120,[(xl4b.c [] [],.one (Bool) xl4b.mk)]),
 (121,[(xs4a.c [] [],.one (Bool) xs4a.mk)]),
 (122,[(xs46.c [] [],.one ((List Int)) xs46.mk)]),
 (123,[(xs0n.c 0,.one (Zd) xs0n.mk)]),
 (124,[(xs0j.c [] 0,.one (Zd) xs0j.mk)]),
 (125,[(xs1c.c [],.one ((List Int)) xs1c.mk)]),
 (129,[(xl4c.c [] 0,.one (Int) xl4c.mk)]),
 (130,[(xl42.c 0 0 0,.one (Int × Int × Int) xl42.mk)]),
 (131,[(xl4d.c [],.one ((List Int)) xl4d.mk)]),
 (132,[(xs0d.c [],.one (Int) xs0d.mk),(xs08.c [] 0,.one (Int) xs08.mk),(xs0g.c [],.one (Int) xs0g.mk)]),
 (133,[(xi0r.c [] 0,.one (Bool) xi0r.mk),(xi0l.c [] [] 0,.one (Bool) xi0l.mk)]),
 (134,[(xi1s.c 0 0 0 0,.one (Bool) xi1s.mk)]),
 (135,[(xi35.c 0 0,.one (Bool) xi35.mk)]),
 (136,[(xi3p.c 0,.one (Bool) xi3p.mk)]),
 (137,[(xi1p.c 0 0,.one (Bool) xi1p.mk)]),
 (138,[(xi0z.c [] 0 0,.one (Bool) xi0z.mk),(xi12.c [] [] [],.one (Bool) xi12.mk)]),
 (139,[(xi24.c [] 0 0,.one (Bool) xi24.mk)]),
 (140,[(xi2s.c 0 [],.one ((List Int)) xi2s.mk)]),
 (141,[(xi2q.c [] [] [],.one (Bool) xi2q.mk)]),
 (142,[(xs1a.c [],.one ((List Int)) xs1a.mk)]),
 (143,[(xi20.c [] [],.one ((List Int)) xi20.mk)]),
 (144,[(xi19.c [] 0 [],.one (Int) xi19.mk)]),
 (145,[(xi14.c 0 0 0 [] 0,.one (Bool) xi14.mk)]),
 (146,[(xi1u.c 0 0 0 [],.one (Bool) xi1u.mk)]),
 (147,[(xc1z.c 0 0,.one (Int) xc1z.mk)]),
 (148,[(xl3v.c 0 0 0 0 0 0,.one (Bool) xl3v.mk)]),
 (149,[(xs0a.c [] 0 0,.one (Zd) xs0a.mk)]),
 (150,[(xs0h.c [] 0 0 0,.one (Zd) xs0h.mk)]),
 (155,[(xs02.c [] 0,.one (Bool) xs02.mk),(xs00.c [] [] 0,.one (Bool) xs00.mk)]),
 (156,[(xi0p.c 0 0 0 0,.one (Bool) xi0p.mk),(xi0k.c 0 0 0 [] 0,.one (Bool) xi0k.mk)]),
 (157,[(xs06.c [] 0 0,.one (Bool) xs06.mk),(xs0m.c [] 0,.one (Bool) xs0m.mk),(xs09.c [] [] [],.one (Bool) xs09.mk)]),
 (158,[(xi0v.c [] 0 0,.one (Bool) xi0v.mk),(xi0y.c [] [] [],.one (Bool) xi0y.mk)]),
 (159,[(xi25.c [] 0,.one (Bool) xi25.mk)]),
 (160,[(xs15.c 0,.one ((List Int)) xs15.mk)]),
 (161,[(xc2n.c 0,.one (Bool) xc2n.mk)]),
 (162,[(xs0i.c [] 0 0 0,.one (Zd) xs0i.mk)]),
 (163,[(xs03.c [] 0,.one (Int) xs03.mk),(xs01.c [] [] 0,.one (Int) xs01.mk)]),
 (164,[(xs0b.c [] 0 0,.one (Int) xs0b.mk),(xs0q.c [] 0,.one (Int) xs0q.mk),(xs0e.c [] [] [],.one (Int) xs0e.mk)]),
 (165,[(xs0f.c [] 0 0 0,.one (Zd) xs0f.mk)])]
def tab:FuncId→List Cell→Tb:=fun g cs => match assoc tabT g with | some l => pickT l cs | none => .no
end
end GoV

/- Equations of the program's functions (printed by wip/tools/emit.py). -/
namespace GoV
open Go Go.Proofs
set_option maxRecDepth 100000
noncomputable section

def xl3z.t {γ:Type} (ret:(Int)→Option γ) (v0:List Int) (v1:Za) (v2:Int):Option γ :=
 (xl3x (v0) (v2)).bind fun (r0:Int) =>
 bif decide (r0<(0:Int)) then
 ret ((-1:Int))
 else
 (xl3c (v1) (r0)).bind fun (r1:Int) =>
 bif decide (r1<(0:Int)) then
 ret ((-1:Int))
 else
 ret (r1)
theorem xl3z.u:∀ b,xl3z.un (xl3z.mk b)=b:=fun _ => by kernel_rfl
theorem xl3z.eq (v0 v1 v2) {b} (h:xl3z.t some v0 v1 v2=some b):xl3z v0 v1 v2=some b:=eqF xl3z.u Tryz.f6 (callT_le E tab) rfl rfl rfl (xl3z.t (rR xl3z.mk) v0 v1 v2) (by kernel_rfl) (by unfold xl3z.t; repeat' first | exact sR | exact sN | exact sL | apply sC | (apply sB; intro _)) h
def xl3x.t {γ:Type} (ret:(Int)→Option γ) (v0:List Int) (v1:Int):Option γ :=
 bif decide (IntKind.i64.wrap (v1 - (↑v0.length:Int))<(0:Int)) then
 ret ((-1:Int))
 else
 ret (IntKind.i64.wrap (v1 - (↑v0.length:Int)))
theorem xl3x.u:∀ b,xl3x.un (xl3x.mk b)=b:=fun _ => by kernel_rfl
theorem xl3x.eq (v0 v1) {b} (h:xl3x.t some v0 v1=some b):xl3x v0 v1=some b:=eqF xl3x.u Tryz.f24 (callT_le E tab) rfl rfl rfl (xl3x.t (rR xl3x.mk) v0 v1) (by kernel_rfl) (by unfold xl3x.t; repeat' first | exact sR | exact sN | exact sL | apply sC | (apply sB; intro _)) h
def xl3c.s5 (v0:Za) (v1:Int) (v2:Int):List Cell:=vc (.d .fro Ya v0)::vc (iL v1)::nn 3 (vc (iL v2)::nn 21 ([]))
def xl3c.q5:=fun v0 v1 v2 => loopAtL E (callT E tab) 25 Tryz.f25 2 [.r,.r,.r,.l,.r,.b] (xl3c.s5 v0 v1 v2)
def xl3c.l5:=fun v0 v1 v2 => tOf xl3c.mk (xl3c.q5 v0 v1 v2)
def xl3c.t {γ:Type} (ret:(Int)→Option γ) (lp5:Za→Int→Int→Option γ) (v0:Za) (v1:Int):Option γ :=
 bif decide (IntKind.i64.wrap (v1 - (↑v0.length:Int))<(0:Int)) then
 ret ((-1:Int))
 else
 lp5 (v0) (IntKind.i64.wrap (v1 - (↑v0.length:Int))) ((0:Int))
def xl3c.t5 {γ:Type} (ret:(Int)→Option γ) (lp5:Za→Int→Int→Option γ) (v0:Za) (v1:Int) (v2:Int):Option γ :=
 bif decide (v2<(↑v0.length:Int)) then
 bif decide ((0:Int)≤v2) then
 bif decide (v2.toNat<v0.length) then
 (xl3y ((v0.getD v2.toNat ((0:Int),(0:Int),(0:Int),[],[],[])).fst) ((v0.getD v2.toNat ((0:Int),(0:Int),(0:Int),[],[],[])).snd.fst) ((v0.getD v2.toNat ((0:Int),(0:Int),(0:Int),[],[],[])).snd.snd.fst) ((v0.getD v2.toNat ((0:Int),(0:Int),(0:Int),[],[],[])).snd.snd.snd.fst) ((v0.getD v2.toNat ((0:Int),(0:Int),(0:Int),[],[],[])).snd.snd.snd.snd.fst) ((v0.getD v2.toNat ((0:Int),(0:Int),(0:Int),[],[],[])).snd.snd.snd.snd.snd) (v1)).bind fun (r0:Int) =>
 bif decide (r0<(0:Int)) then
 ret ((-1:Int))
 else
 lp5 (v0) (r0) (IntKind.i64.wrap (v2+(1:Int)))
 else
 none
 else
 none
 else
 ret (v1)
theorem xl3c.u:∀ b,xl3c.un (xl3c.mk b)=b:=fun _ => by kernel_rfl
theorem xl3c.eq (v0 v1) {b} (h:xl3c.t some xl3c.l5 v0 v1=some b):xl3c v0 v1=some b:=eqF xl3c.u Tryz.f25 (callT_le E tab) rfl rfl rfl (xl3c.t (rR xl3c.mk) xl3c.q5 v0 v1) (by kernel_rfl) (by unfold xl3c.t; repeat' first | exact sR | exact sN | exact sL | apply sC | (apply sB; intro _)) h
theorem xl3c.eq5 (v0 v1 v2) {b} (h:xl3c.t5 some xl3c.l5 v0 v1 v2=some b):xl3c.l5 v0 v1 v2=some b:=eqL xl3c.u (xl3c.t5 (rR xl3c.mk) xl3c.q5 v0 v1 v2) (by kernel_rfl) (by unfold xl3c.t5; repeat' first | exact sR | exact sN | exact sL | apply sC | (apply sB; intro _)) h
def xl3y.t {γ:Type} (ret:(Int)→Option γ) (v0:Int) (v1:Int) (v2:Int) (v3:Ze) (v4:List Int) (v5:Zg) (v6:Int):Option γ :=
 (xl3e (v3) (v6)).bind fun (r0:Int) =>
 bif decide (r0<(0:Int)) then
 ret ((-1:Int))
 else
 (xl3x (v4) (r0)).bind fun (r1:Int) =>
 bif decide (r1<(0:Int)) then
 ret ((-1:Int))
 else
 (xl3b (v5) (r1)).bind fun (r2:Int) =>
 bif decide (r2<(0:Int)) then
 ret ((-1:Int))
 else
 ret (r2)
theorem xl3y.u:∀ b,xl3y.un (xl3y.mk b)=b:=fun _ => by kernel_rfl
theorem xl3y.eq (v0 v1 v2 v3 v4 v5 v6) {b} (h:xl3y.t some v0 v1 v2 v3 v4 v5 v6=some b):xl3y v0 v1 v2 v3 v4 v5 v6=some b:=eqF xl3y.u Tryz.f51 (callT_le E tab) rfl rfl rfl (xl3y.t (rR xl3y.mk) v0 v1 v2 v3 v4 v5 v6) (by kernel_rfl) (by unfold xl3y.t; repeat' first | exact sR | exact sN | exact sL | apply sC | (apply sB; intro _)) h
def xl3e.t {γ:Type} (ret:(Int)→Option γ) (v0:Ze) (v1:Int):Option γ :=
 bif decide (IntKind.i64.wrap (v1 - (↑v0.length:Int))<(0:Int)) then
 ret ((-1:Int))
 else
 ret (IntKind.i64.wrap (v1 - (↑v0.length:Int)))
theorem xl3e.u:∀ b,xl3e.un (xl3e.mk b)=b:=fun _ => by kernel_rfl
theorem xl3e.eq (v0 v1) {b} (h:xl3e.t some v0 v1=some b):xl3e v0 v1=some b:=eqF xl3e.u Tryz.f88 (callT_le E tab) rfl rfl rfl (xl3e.t (rR xl3e.mk) v0 v1) (by kernel_rfl) (by unfold xl3e.t; repeat' first | exact sR | exact sN | exact sL | apply sC | (apply sB; intro _)) h
def xl3b.s5 (v0:Zg) (v1:Int) (v2:Int):List Cell:=vc (.d .fro Ye v0)::vc (iL v1)::nn 3 (vc (iL v2)::nn 21 ([]))
def xl3b.q5:=fun v0 v1 v2 => loopAtL E (callT E tab) 89 Tryz.f89 2 [.r,.r,.r,.l,.r,.b] (xl3b.s5 v0 v1 v2)
def xl3b.l5:=fun v0 v1 v2 => tOf xl3b.mk (xl3b.q5 v0 v1 v2)
def xl3b.t {γ:Type} (ret:(Int)→Option γ) (lp5:Zg→Int→Int→Option γ) (v0:Zg) (v1:Int):Option γ :=
 bif decide (IntKind.i64.wrap (v1 - (↑v0.length:Int))<(0:Int)) then
 ret ((-1:Int))
 else
 lp5 (v0) (IntKind.i64.wrap (v1 - (↑v0.length:Int))) ((0:Int))
def xl3b.t5 {γ:Type} (ret:(Int)→Option γ) (lp5:Zg→Int→Int→Option γ) (v0:Zg) (v1:Int) (v2:Int):Option γ :=
 bif decide (v2<(↑v0.length:Int)) then
 bif decide ((0:Int)≤v2) then
 bif decide (v2.toNat<v0.length) then
 (xl3x (v0.getD v2.toNat []) (v1)).bind fun (r0:Int) =>
 bif decide (r0<(0:Int)) then
 ret ((-1:Int))
 else
 lp5 (v0) (r0) (IntKind.i64.wrap (v2+(1:Int)))
 else
 none
 else
 none
 else
 ret (v1)
theorem xl3b.u:∀ b,xl3b.un (xl3b.mk b)=b:=fun _ => by kernel_rfl
theorem xl3b.eq (v0 v1) {b} (h:xl3b.t some xl3b.l5 v0 v1=some b):xl3b v0 v1=some b:=eqF xl3b.u Tryz.f89 (callT_le E tab) rfl rfl rfl (xl3b.t (rR xl3b.mk) xl3b.q5 v0 v1) (by kernel_rfl) (by unfold xl3b.t; repeat' first | exact sR | exact sN | exact sL | apply sC | (apply sB; intro _)) h
theorem xl3b.eq5 (v0 v1 v2) {b} (h:xl3b.t5 some xl3b.l5 v0 v1 v2=some b):xl3b.l5 v0 v1 v2=some b:=eqL xl3b.u (xl3b.t5 (rR xl3b.mk) xl3b.q5 v0 v1 v2) (by kernel_rfl) (by unfold xl3b.t5; repeat' first | exact sR | exact sN | exact sL | apply sC | (apply sB; intro _)) h
def xl2v.s5 (v0:Zb) (v1:Int) (v2:Int):List Cell:=vc (.d .fro Yb v0)::vc (iL v1)::nn 3 (vc (iL v2)::nn 21 ([]))
def xl2v.q5:=fun v0 v1 v2 => loopAtL E (callT E tab) 7 Tryz.f7 2 [.r,.r,.r,.l,.r,.b] (xl2v.s5 v0 v1 v2)
def xl2v.l5:=fun v0 v1 v2 => tOf xl2v.mk (xl2v.q5 v0 v1 v2)
def xl2v.t {γ:Type} (ret:(Int)→Option γ) (lp5:Zb→Int→Int→Option γ) (v0:Zb) (v1:Int):Option γ :=
 bif decide (IntKind.i64.wrap (v1 - (↑v0.length:Int))<(0:Int)) then
 ret ((-1:Int))
 else
 lp5 (v0) (IntKind.i64.wrap (v1 - (↑v0.length:Int))) ((0:Int))
def xl2v.t5 {γ:Type} (ret:(Int)→Option γ) (lp5:Zb→Int→Int→Option γ) (v0:Zb) (v1:Int) (v2:Int):Option γ :=
 bif decide (v2<(↑v0.length:Int)) then
 bif decide ((0:Int)≤v2) then
 bif decide (v2.toNat<v0.length) then
 (xl3d ((v0.getD v2.toNat ((0:Int),[])).fst) ((v0.getD v2.toNat ((0:Int),[])).snd) (v1)).bind fun (r0:Int) =>
 bif decide (r0<(0:Int)) then
 ret ((-1:Int))
 else
 lp5 (v0) (r0) (IntKind.i64.wrap (v2+(1:Int)))
 else
 none
 else
 none
 else
 ret (v1)
theorem xl2v.u:∀ b,xl2v.un (xl2v.mk b)=b:=fun _ => by kernel_rfl
theorem xl2v.eq (v0 v1) {b} (h:xl2v.t some xl2v.l5 v0 v1=some b):xl2v v0 v1=some b:=eqF xl2v.u Tryz.f7 (callT_le E tab) rfl rfl rfl (xl2v.t (rR xl2v.mk) xl2v.q5 v0 v1) (by kernel_rfl) (by unfold xl2v.t; repeat' first | exact sR | exact sN | exact sL | apply sC | (apply sB; intro _)) h
theorem xl2v.eq5 (v0 v1 v2) {b} (h:xl2v.t5 some xl2v.l5 v0 v1 v2=some b):xl2v.l5 v0 v1 v2=some b:=eqL xl2v.u (xl2v.t5 (rR xl2v.mk) xl2v.q5 v0 v1 v2) (by kernel_rfl) (by unfold xl2v.t5; repeat' first | exact sR | exact sN | exact sL | apply sC | (apply sB; intro _)) h
def xl3d.t {γ:Type} (ret:(Int)→Option γ) (v0:Int) (v1:Zd) (v2:Int):Option γ :=
 (xl1x (v1) (v2)).bind fun (r0:Int) =>
 bif decide (r0<(0:Int)) then
 ret ((-1:Int))
 else
 ret (r0)
theorem xl3d.u:∀ b,xl3d.un (xl3d.mk b)=b:=fun _ => by kernel_rfl
theorem xl3d.eq (v0 v1 v2) {b} (h:xl3d.t some v0 v1 v2=some b):xl3d v0 v1 v2=some b:=eqF xl3d.u Tryz.f26 (callT_le E tab) rfl rfl rfl (xl3d.t (rR xl3d.mk) v0 v1 v2) (by kernel_rfl) (by unfold xl3d.t; repeat' first | exact sR | exact sN | exact sL | apply sC | (apply sB; intro _)) h
def xl1x.s5 (v0:Zd) (v1:Int) (v2:Int):List Cell:=vc (.d .fro Yd v0)::vc (iL v1)::nn 3 (vc (iL v2)::nn 21 ([]))
def xl1x.q5:=fun v0 v1 v2 => loopAtL E (callT E tab) 52 Tryz.f52 2 [.r,.r,.r,.l,.r,.b] (xl1x.s5 v0 v1 v2)
def xl1x.l5:=fun v0 v1 v2 => tOf xl1x.mk (xl1x.q5 v0 v1 v2)
def xl1x.t {γ:Type} (ret:(Int)→Option γ) (lp5:Zd→Int→Int→Option γ) (v0:Zd) (v1:Int):Option γ :=
 bif decide (IntKind.i64.wrap (v1 - (↑v0.length:Int))<(0:Int)) then
 ret ((-1:Int))
 else
 lp5 (v0) (IntKind.i64.wrap (v1 - (↑v0.length:Int))) ((0:Int))
def xl1x.t5 {γ:Type} (ret:(Int)→Option γ) (lp5:Zd→Int→Int→Option γ) (v0:Zd) (v1:Int) (v2:Int):Option γ :=
 bif decide (v2<(↑v0.length:Int)) then
 bif decide ((0:Int)≤v2) then
 bif decide (v2.toNat<v0.length) then
 (xl27 ((v0.getD v2.toNat ([],(0:Int))).fst) ((v0.getD v2.toNat ([],(0:Int))).snd) (v1)).bind fun (r0:Int) =>
 bif decide (r0<(0:Int)) then
 ret ((-1:Int))
 else
 lp5 (v0) (r0) (IntKind.i64.wrap (v2+(1:Int)))
 else
 none
 else
 none
 else
 ret (v1)
theorem xl1x.u:∀ b,xl1x.un (xl1x.mk b)=b:=fun _ => by kernel_rfl
theorem xl1x.eq (v0 v1) {b} (h:xl1x.t some xl1x.l5 v0 v1=some b):xl1x v0 v1=some b:=eqF xl1x.u Tryz.f52 (callT_le E tab) rfl rfl rfl (xl1x.t (rR xl1x.mk) xl1x.q5 v0 v1) (by kernel_rfl) (by unfold xl1x.t; repeat' first | exact sR | exact sN | exact sL | apply sC | (apply sB; intro _)) h
theorem xl1x.eq5 (v0 v1 v2) {b} (h:xl1x.t5 some xl1x.l5 v0 v1 v2=some b):xl1x.l5 v0 v1 v2=some b:=eqL xl1x.u (xl1x.t5 (rR xl1x.mk) xl1x.q5 v0 v1 v2) (by kernel_rfl) (by unfold xl1x.t5; repeat' first | exact sR | exact sN | exact sL | apply sC | (apply sB; intro _)) h
def xl27.t {γ:Type} (ret:(Int)→Option γ) (v0:List Int) (v1:Int) (v2:Int):Option γ :=
 (xl4c (v0) (v2)).bind fun (r0:Int) =>
 bif decide (r0<(0:Int)) then
 ret ((-1:Int))
 else
 ret (r0)
theorem xl27.u:∀ b,xl27.un (xl27.mk b)=b:=fun _ => by kernel_rfl
theorem xl27.eq (v0 v1 v2) {b} (h:xl27.t some v0 v1 v2=some b):xl27 v0 v1 v2=some b:=eqF xl27.u Tryz.f90 (callT_le E tab) rfl rfl rfl (xl27.t (rR xl27.mk) v0 v1 v2) (by kernel_rfl) (by unfold xl27.t; repeat' first | exact sR | exact sN | exact sL | apply sC | (apply sB; intro _)) h
def xl4c.t {γ:Type} (ret:(Int)→Option γ) (v0:List Int) (v1:Int):Option γ :=
 (xl3x (v0) (v1)).bind fun (r0:Int) =>
 bif decide (r0<(0:Int)) then
 ret ((-1:Int))
 else
 ret (r0)
theorem xl4c.u:∀ b,xl4c.un (xl4c.mk b)=b:=fun _ => by kernel_rfl
theorem xl4c.eq (v0 v1) {b} (h:xl4c.t some v0 v1=some b):xl4c v0 v1=some b:=eqF xl4c.u Tryz.f129 (callT_le E tab) rfl rfl rfl (xl4c.t (rR xl4c.mk) v0 v1) (by kernel_rfl) (by unfold xl4c.t; repeat' first | exact sR | exact sN | exact sL | apply sC | (apply sB; intro _)) h
def xl43.t {γ:Type} (ret:((List Int) × Za)→Option γ) (v0:List Int) (v1:Za):Option γ :=
 (xl40 (v0)).bind fun (r0:(List Int)) =>
 (xl3g (v1)).bind fun (r1:Za) =>
 ret (r0,r1)
theorem xl43.u:∀ b,xl43.un (xl43.mk b)=b:=fun _ => by kernel_rfl
theorem xl43.eq (v0 v1) {b} (h:xl43.t some v0 v1=some b):xl43 v0 v1=some b:=eqF xl43.u Tryz.f9 (callT_le E tab) rfl rfl rfl (xl43.t (rR xl43.mk) v0 v1) (by kernel_rfl) (by unfold xl43.t; repeat' first | exact sR | exact sN | exact sL | apply sC | (apply sB; intro _)) h
def xl40.s3 (v0:List Int) (v1:List Int) (v2:Int):List Cell:=vc (.d .fro (.sl (.int .i64)) v0)::nn 2 (vc (.d .deep (.sl (.int .i64)) v1)::vc (iL v2)::nn 17 ([]))
def xl40.q3:=fun v0 v1 v2 => loopAtL E (callT E tab) 30 Tryz.f30 1 [.r,.r,.l,.r,.b] (xl40.s3 v0 v1 v2)
def xl40.l3:=fun v0 v1 v2 => tOf xl40.mk (xl40.q3 v0 v1 v2)
def xl40.t {γ:Type} (ret:((List Int))→Option γ) (lp3:(List Int)→(List Int)→Int→Option γ) (v0:List Int):Option γ :=
 bif decide ((↑v0.length:Int)=(↑v0.length:Int)) then
 bif decide ((↑v0.length:Int)≤(↑(4294967296:Nat):Int)) then
 lp3 (v0) (List.replicate (↑v0.length:Int).toNat (0:Int)) ((0:Int))
 else
 none
 else
 none
def xl40.t3 {γ:Type} (ret:((List Int))→Option γ) (lp3:(List Int)→(List Int)→Int→Option γ) (v0:List Int) (v1:List Int) (v2:Int):Option γ :=
 bif decide (v2<(↑v0.length:Int)) then
 bif decide ((0:Int)≤v2) then
 bif decide (v2.toNat<v0.length) then
 bif decide ((0:Int)≤v2) then
 bif decide (v2.toNat<v1.length) then
 bif decide (v2.toNat<v1.length) then
 lp3 (v0) (v1.set v2.toNat (v0.getD v2.toNat (0:Int))) (IntKind.i64.wrap (v2+(1:Int)))
 else
 none
 else
 none
 else
 none
 else
 none
 else
 none
 else
 ret (v1)
theorem xl40.u:∀ b,xl40.un (xl40.mk b)=b:=fun _ => by kernel_rfl
theorem xl40.eq (v0) {b} (h:xl40.t some xl40.l3 v0=some b):xl40 v0=some b:=eqF xl40.u Tryz.f30 (callT_le E tab) rfl rfl rfl (xl40.t (rR xl40.mk) xl40.q3 v0) (by kernel_rfl) (by unfold xl40.t; repeat' first | exact sR | exact sN | exact sL | apply sC | (apply sB; intro _)) h
theorem xl40.eq3 (v0 v1 v2) {b} (h:xl40.t3 some xl40.l3 v0 v1 v2=some b):xl40.l3 v0 v1 v2=some b:=eqL xl40.u (xl40.t3 (rR xl40.mk) xl40.q3 v0 v1 v2) (by kernel_rfl) (by unfold xl40.t3; repeat' first | exact sR | exact sN | exact sL | apply sC | (apply sB; intro _)) h
def xl3g.s3 (v0:Za) (v1:Za) (v2:Int):List Cell:=vc (.d .fro Ya v0)::nn 2 (vc (.d .deep Ya v1)::vc (iL v2)::nn 18 ([]))
def xl3g.q3:=fun v0 v1 v2 => loopAtL E (callT E tab) 31 Tryz.f31 1 [.r,.r,.l,.r,.b] (xl3g.s3 v0 v1 v2)
def xl3g.l3:=fun v0 v1 v2 => tOf xl3g.mk (xl3g.q3 v0 v1 v2)
def xl3g.t {γ:Type} (ret:(Za)→Option γ) (lp3:Za→Za→Int→Option γ) (v0:Za):Option γ :=
 bif decide ((↑v0.length:Int)=(↑v0.length:Int)) then
 bif decide ((↑v0.length:Int)≤(↑(4294967296:Nat):Int)) then
 lp3 (v0) (List.replicate (↑v0.length:Int).toNat ((0:Int),(0:Int),(0:Int),[],[],[])) ((0:Int))
 else
 none
 else
 none
def xl3g.t3 {γ:Type} (ret:(Za)→Option γ) (lp3:Za→Za→Int→Option γ) (v0:Za) (v1:Za) (v2:Int):Option γ :=
 bif decide (v2<(↑v0.length:Int)) then
 bif decide ((0:Int)≤v2) then
 bif decide (v2.toNat<v0.length) then
 (xl41 ((v0.getD v2.toNat ((0:Int),(0:Int),(0:Int),[],[],[])).fst) ((v0.getD v2.toNat ((0:Int),(0:Int),(0:Int),[],[],[])).snd.fst) ((v0.getD v2.toNat ((0:Int),(0:Int),(0:Int),[],[],[])).snd.snd.fst) ((v0.getD v2.toNat ((0:Int),(0:Int),(0:Int),[],[],[])).snd.snd.snd.fst) ((v0.getD v2.toNat ((0:Int),(0:Int),(0:Int),[],[],[])).snd.snd.snd.snd.fst) ((v0.getD v2.toNat ((0:Int),(0:Int),(0:Int),[],[],[])).snd.snd.snd.snd.snd)).bind fun (r0:Int × Int × Int × Ze × (List Int) × Zg) =>
 bif decide ((0:Int)≤v2) then
 bif decide (v2.toNat<v1.length) then
 bif decide (v2.toNat<v1.length) then
 lp3 (v0) (v1.set v2.toNat (r0.fst,r0.snd.fst,r0.snd.snd.fst,r0.snd.snd.snd.fst,r0.snd.snd.snd.snd.fst,r0.snd.snd.snd.snd.snd)) (IntKind.i64.wrap (v2+(1:Int)))
 else
 none
 else
 none
 else
 none
 else
 none
 else
 none
 else
 ret (v1)
theorem xl3g.u:∀ b,xl3g.un (xl3g.mk b)=b:=fun _ => by kernel_rfl
theorem xl3g.eq (v0) {b} (h:xl3g.t some xl3g.l3 v0=some b):xl3g v0=some b:=eqF xl3g.u Tryz.f31 (callT_le E tab) rfl rfl rfl (xl3g.t (rR xl3g.mk) xl3g.q3 v0) (by kernel_rfl) (by unfold xl3g.t; repeat' first | exact sR | exact sN | exact sL | apply sC | (apply sB; intro _)) h
theorem xl3g.eq3 (v0 v1 v2) {b} (h:xl3g.t3 some xl3g.l3 v0 v1 v2=some b):xl3g.l3 v0 v1 v2=some b:=eqL xl3g.u (xl3g.t3 (rR xl3g.mk) xl3g.q3 v0 v1 v2) (by kernel_rfl) (by unfold xl3g.t3; repeat' first | exact sR | exact sN | exact sL | apply sC | (apply sB; intro _)) h
def xl41.t {γ:Type} (ret:(Int × Int × Int × Ze × (List Int) × Zg)→Option γ) (v0:Int) (v1:Int) (v2:Int) (v3:Ze) (v4:List Int) (v5:Zg):Option γ :=
 (xl3i (v3)).bind fun (r0:Ze) =>
 (xl40 (v4)).bind fun (r1:(List Int)) =>
 (xl3f (v5)).bind fun (r2:Zg) =>
 ret (v0,v1,v2,r0,r1,r2)
theorem xl41.u:∀ b,xl41.un (xl41.mk b)=b:=fun _ => by kernel_rfl
theorem xl41.eq (v0 v1 v2 v3 v4 v5) {b} (h:xl41.t some v0 v1 v2 v3 v4 v5=some b):xl41 v0 v1 v2 v3 v4 v5=some b:=eqF xl41.u Tryz.f58 (callT_le E tab) rfl rfl rfl (xl41.t (rR xl41.mk) v0 v1 v2 v3 v4 v5) (by kernel_rfl) (by unfold xl41.t; repeat' first | exact sR | exact sN | exact sL | apply sC | (apply sB; intro _)) h
def xl3i.s3 (v0:Ze) (v1:Ze) (v2:Int):List Cell:=vc (.d .fro Yc v0)::nn 2 (vc (.d .deep Yc v1)::vc (iL v2)::nn 18 ([]))
def xl3i.q3:=fun v0 v1 v2 => loopAtL E (callT E tab) 100 Tryz.f100 1 [.r,.r,.l,.r,.b] (xl3i.s3 v0 v1 v2)
def xl3i.l3:=fun v0 v1 v2 => tOf xl3i.mk (xl3i.q3 v0 v1 v2)
def xl3i.t {γ:Type} (ret:(Ze)→Option γ) (lp3:Ze→Ze→Int→Option γ) (v0:Ze):Option γ :=
 bif decide ((↑v0.length:Int)=(↑v0.length:Int)) then
 bif decide ((↑v0.length:Int)≤(↑(4294967296:Nat):Int)) then
 lp3 (v0) (List.replicate (↑v0.length:Int).toNat ((0:Int),(0:Int),(0:Int))) ((0:Int))
 else
 none
 else
 none
def xl3i.t3 {γ:Type} (ret:(Ze)→Option γ) (lp3:Ze→Ze→Int→Option γ) (v0:Ze) (v1:Ze) (v2:Int):Option γ :=
 bif decide (v2<(↑v0.length:Int)) then
 bif decide ((0:Int)≤v2) then
 bif decide (v2.toNat<v0.length) then
 (xl42 ((v0.getD v2.toNat ((0:Int),(0:Int),(0:Int))).fst) ((v0.getD v2.toNat ((0:Int),(0:Int),(0:Int))).snd.fst) ((v0.getD v2.toNat ((0:Int),(0:Int),(0:Int))).snd.snd)).bind fun (r0:Int × Int × Int) =>
 bif decide ((0:Int)≤v2) then
 bif decide (v2.toNat<v1.length) then
 bif decide (v2.toNat<v1.length) then
 lp3 (v0) (v1.set v2.toNat (r0.fst,r0.snd.fst,r0.snd.snd)) (IntKind.i64.wrap (v2+(1:Int)))
 else
 none
 else
 none
 else
 none
 else
 none
 else
 none
 else
 ret (v1)
theorem xl3i.u:∀ b,xl3i.un (xl3i.mk b)=b:=fun _ => by kernel_rfl
theorem xl3i.eq (v0) {b} (h:xl3i.t some xl3i.l3 v0=some b):xl3i v0=some b:=eqF xl3i.u Tryz.f100 (callT_le E tab) rfl rfl rfl (xl3i.t (rR xl3i.mk) xl3i.q3 v0) (by kernel_rfl) (by unfold xl3i.t; repeat' first | exact sR | exact sN | exact sL | apply sC | (apply sB; intro _)) h
theorem xl3i.eq3 (v0 v1 v2) {b} (h:xl3i.t3 some xl3i.l3 v0 v1 v2=some b):xl3i.l3 v0 v1 v2=some b:=eqL xl3i.u (xl3i.t3 (rR xl3i.mk) xl3i.q3 v0 v1 v2) (by kernel_rfl) (by unfold xl3i.t3; repeat' first | exact sR | exact sN | exact sL | apply sC | (apply sB; intro _)) h
def xl42.t {γ:Type} (ret:(Int × Int × Int)→Option γ) (v0:Int) (v1:Int) (v2:Int):Option γ :=
 ret (v0,v1,v2)
theorem xl42.u:∀ b,xl42.un (xl42.mk b)=b:=fun _ => by kernel_rfl
theorem xl42.eq (v0 v1 v2) {b} (h:xl42.t some v0 v1 v2=some b):xl42 v0 v1 v2=some b:=eqF xl42.u Tryz.f130 (callT_le E tab) rfl rfl rfl (xl42.t (rR xl42.mk) v0 v1 v2) (by kernel_rfl) (by unfold xl42.t; repeat' first | exact sR | exact sN | exact sL | apply sC | (apply sB; intro _)) h
def xl3f.s3 (v0:Zg) (v1:Zg) (v2:Int):List Cell:=vc (.d .fro Ye v0)::nn 2 (vc (.d .deep Ye v1)::vc (iL v2)::nn 18 ([]))
def xl3f.q3:=fun v0 v1 v2 => loopAtL E (callT E tab) 101 Tryz.f101 1 [.r,.r,.l,.r,.b] (xl3f.s3 v0 v1 v2)
def xl3f.l3:=fun v0 v1 v2 => tOf xl3f.mk (xl3f.q3 v0 v1 v2)
def xl3f.t {γ:Type} (ret:(Zg)→Option γ) (lp3:Zg→Zg→Int→Option γ) (v0:Zg):Option γ :=
 bif decide ((↑v0.length:Int)=(↑v0.length:Int)) then
 bif decide ((↑v0.length:Int)≤(↑(4294967296:Nat):Int)) then
 lp3 (v0) (List.replicate (↑v0.length:Int).toNat []) ((0:Int))
 else
 none
 else
 none
def xl3f.t3 {γ:Type} (ret:(Zg)→Option γ) (lp3:Zg→Zg→Int→Option γ) (v0:Zg) (v1:Zg) (v2:Int):Option γ :=
 bif decide (v2<(↑v0.length:Int)) then
 bif decide ((0:Int)≤v2) then
 bif decide (v2.toNat<v0.length) then
 (xl40 (v0.getD v2.toNat [])).bind fun (r0:(List Int)) =>
 bif decide ((0:Int)≤v2) then
 bif decide (v2.toNat<v1.length) then
 bif decide (v2.toNat<v1.length) then
 lp3 (v0) (v1.set v2.toNat r0) (IntKind.i64.wrap (v2+(1:Int)))
 else
 none
 else
 none
 else
 none
 else
 none
 else
 none
 else
 ret (v1)
theorem xl3f.u:∀ b,xl3f.un (xl3f.mk b)=b:=fun _ => by kernel_rfl
theorem xl3f.eq (v0) {b} (h:xl3f.t some xl3f.l3 v0=some b):xl3f v0=some b:=eqF xl3f.u Tryz.f101 (callT_le E tab) rfl rfl rfl (xl3f.t (rR xl3f.mk) xl3f.q3 v0) (by kernel_rfl) (by unfold xl3f.t; repeat' first | exact sR | exact sN | exact sL | apply sC | (apply sB; intro _)) h
theorem xl3f.eq3 (v0 v1 v2) {b} (h:xl3f.t3 some xl3f.l3 v0 v1 v2=some b):xl3f.l3 v0 v1 v2=some b:=eqL xl3f.u (xl3f.t3 (rR xl3f.mk) xl3f.q3 v0 v1 v2) (by kernel_rfl) (by unfold xl3f.t3; repeat' first | exact sR | exact sN | exact sL | apply sC | (apply sB; intro _)) h
def xl2w.s3 (v0:Zb) (v1:Zb) (v2:Int):List Cell:=vc (.d .fro Yb v0)::nn 2 (vc (.d .deep Yb v1)::vc (iL v2)::nn 18 ([]))
def xl2w.q3:=fun v0 v1 v2 => loopAtL E (callT E tab) 10 Tryz.f10 1 [.r,.r,.l,.r,.b] (xl2w.s3 v0 v1 v2)
def xl2w.l3:=fun v0 v1 v2 => tOf xl2w.mk (xl2w.q3 v0 v1 v2)
def xl2w.t {γ:Type} (ret:(Zb)→Option γ) (lp3:Zb→Zb→Int→Option γ) (v0:Zb):Option γ :=
 bif decide ((↑v0.length:Int)=(↑v0.length:Int)) then
 bif decide ((↑v0.length:Int)≤(↑(4294967296:Nat):Int)) then
 lp3 (v0) (List.replicate (↑v0.length:Int).toNat ((0:Int),[])) ((0:Int))
 else
 none
 else
 none
def xl2w.t3 {γ:Type} (ret:(Zb)→Option γ) (lp3:Zb→Zb→Int→Option γ) (v0:Zb) (v1:Zb) (v2:Int):Option γ :=
 bif decide (v2<(↑v0.length:Int)) then
 bif decide ((0:Int)≤v2) then
 bif decide (v2.toNat<v0.length) then
 (xl3h ((v0.getD v2.toNat ((0:Int),[])).fst) ((v0.getD v2.toNat ((0:Int),[])).snd)).bind fun (r0:Int × Zd) =>
 bif decide ((0:Int)≤v2) then
 bif decide (v2.toNat<v1.length) then
 bif decide (v2.toNat<v1.length) then
 lp3 (v0) (v1.set v2.toNat (r0.fst,r0.snd)) (IntKind.i64.wrap (v2+(1:Int)))
 else
 none
 else
 none
 else
 none
 else
 none
 else
 none
 else
 ret (v1)
theorem xl2w.u:∀ b,xl2w.un (xl2w.mk b)=b:=fun _ => by kernel_rfl
theorem xl2w.eq (v0) {b} (h:xl2w.t some xl2w.l3 v0=some b):xl2w v0=some b:=eqF xl2w.u Tryz.f10 (callT_le E tab) rfl rfl rfl (xl2w.t (rR xl2w.mk) xl2w.q3 v0) (by kernel_rfl) (by unfold xl2w.t; repeat' first | exact sR | exact sN | exact sL | apply sC | (apply sB; intro _)) h
theorem xl2w.eq3 (v0 v1 v2) {b} (h:xl2w.t3 some xl2w.l3 v0 v1 v2=some b):xl2w.l3 v0 v1 v2=some b:=eqL xl2w.u (xl2w.t3 (rR xl2w.mk) xl2w.q3 v0 v1 v2) (by kernel_rfl) (by unfold xl2w.t3; repeat' first | exact sR | exact sN | exact sL | apply sC | (apply sB; intro _)) h
def xl3h.t {γ:Type} (ret:(Int × Zd)→Option γ) (v0:Int) (v1:Zd):Option γ :=
 (xl1y (v1)).bind fun (r0:Zd) =>
 ret (v0,r0)
theorem xl3h.u:∀ b,xl3h.un (xl3h.mk b)=b:=fun _ => by kernel_rfl
theorem xl3h.eq (v0 v1) {b} (h:xl3h.t some v0 v1=some b):xl3h v0 v1=some b:=eqF xl3h.u Tryz.f32 (callT_le E tab) rfl rfl rfl (xl3h.t (rR xl3h.mk) v0 v1) (by kernel_rfl) (by unfold xl3h.t; repeat' first | exact sR | exact sN | exact sL | apply sC | (apply sB; intro _)) h
end
end GoV

/- Equations of the program's functions (printed by wip/tools/emit.py). -/
namespace GoV
open Go Go.Proofs
set_option maxRecDepth 100000
noncomputable section

def xl1y.s3 (v0:Zd) (v1:Zd) (v2:Int):List Cell:=vc (.d .fro Yd v0)::nn 2 (vc (.d .deep Yd v1)::vc (iL v2)::nn 18 ([]))
def xl1y.q3:=fun v0 v1 v2 => loopAtL E (callT E tab) 59 Tryz.f59 1 [.r,.r,.l,.r,.b] (xl1y.s3 v0 v1 v2)
def xl1y.l3:=fun v0 v1 v2 => tOf xl1y.mk (xl1y.q3 v0 v1 v2)
def xl1y.t {γ:Type} (ret:(Zd)→Option γ) (lp3:Zd→Zd→Int→Option γ) (v0:Zd):Option γ :=
 bif decide ((↑v0.length:Int)=(↑v0.length:Int)) then
 bif decide ((↑v0.length:Int)≤(↑(4294967296:Nat):Int)) then
 lp3 (v0) (List.replicate (↑v0.length:Int).toNat ([],(0:Int))) ((0:Int))
 else
 none
 else
 none
def xl1y.t3 {γ:Type} (ret:(Zd)→Option γ) (lp3:Zd→Zd→Int→Option γ) (v0:Zd) (v1:Zd) (v2:Int):Option γ :=
 bif decide (v2<(↑v0.length:Int)) then
 bif decide ((0:Int)≤v2) then
 bif decide (v2.toNat<v0.length) then
 (xl28 ((v0.getD v2.toNat ([],(0:Int))).fst) ((v0.getD v2.toNat ([],(0:Int))).snd)).bind fun (r0:(List Int) × Int) =>
 bif decide ((0:Int)≤v2) then
 bif decide (v2.toNat<v1.length) then
 bif decide (v2.toNat<v1.length) then
 lp3 (v0) (v1.set v2.toNat (r0.fst,r0.snd)) (IntKind.i64.wrap (v2+(1:Int)))
 else
 none
 else
 none
 else
 none
 else
 none
 else
 none
 else
 ret (v1)
theorem xl1y.u:∀ b,xl1y.un (xl1y.mk b)=b:=fun _ => by kernel_rfl
theorem xl1y.eq (v0) {b} (h:xl1y.t some xl1y.l3 v0=some b):xl1y v0=some b:=eqF xl1y.u Tryz.f59 (callT_le E tab) rfl rfl rfl (xl1y.t (rR xl1y.mk) xl1y.q3 v0) (by kernel_rfl) (by unfold xl1y.t; repeat' first | exact sR | exact sN | exact sL | apply sC | (apply sB; intro _)) h
theorem xl1y.eq3 (v0 v1 v2) {b} (h:xl1y.t3 some xl1y.l3 v0 v1 v2=some b):xl1y.l3 v0 v1 v2=some b:=eqL xl1y.u (xl1y.t3 (rR xl1y.mk) xl1y.q3 v0 v1 v2) (by kernel_rfl) (by unfold xl1y.t3; repeat' first | exact sR | exact sN | exact sL | apply sC | (apply sB; intro _)) h
def xl28.t {γ:Type} (ret:((List Int) × Int)→Option γ) (v0:List Int) (v1:Int):Option γ :=
 (xl4d (v0)).bind fun (r0:(List Int)) =>
 ret (r0,v1)
theorem xl28.u:∀ b,xl28.un (xl28.mk b)=b:=fun _ => by kernel_rfl
theorem xl28.eq (v0 v1) {b} (h:xl28.t some v0 v1=some b):xl28 v0 v1=some b:=eqF xl28.u Tryz.f102 (callT_le E tab) rfl rfl rfl (xl28.t (rR xl28.mk) v0 v1) (by kernel_rfl) (by unfold xl28.t; repeat' first | exact sR | exact sN | exact sL | apply sC | (apply sB; intro _)) h
def xl4d.t {γ:Type} (ret:((List Int))→Option γ) (v0:List Int):Option γ :=
 (xl40 (v0)).bind fun (r0:(List Int)) =>
 ret (r0)
theorem xl4d.u:∀ b,xl4d.un (xl4d.mk b)=b:=fun _ => by kernel_rfl
theorem xl4d.eq (v0) {b} (h:xl4d.t some v0=some b):xl4d v0=some b:=eqF xl4d.u Tryz.f131 (callT_le E tab) rfl rfl rfl (xl4d.t (rR xl4d.mk) v0) (by kernel_rfl) (by unfold xl4d.t; repeat' first | exact sR | exact sN | exact sL | apply sC | (apply sB; intro _)) h
def xs44.t {γ:Type} (ret:(Zb × Bool)→Option γ) (v0:List Int) (v1:Za) (v2:Zb):Option γ :=
 (xs3n (v0) (v1)).bind fun (r0:(List Int) × Bool) =>
 bif !r0.snd then
 ret ([],Bool.false)
 else
 (xs30 (v0) (v1) (v2)).bind fun (r1:Bool) =>
 bif !r1 then
 ret ([],Bool.false)
 else
 (xs4g (v0) (v1) (v2)).bind fun (r2:Zb × Bool) =>
 ret (r2.fst,r2.snd)
theorem xs44.u:∀ b,xs44.un (xs44.mk b)=b:=fun _ => by kernel_rfl
theorem xs44.eq (v0 v1 v2) {b} (h:xs44.t some v0 v1 v2=some b):xs44 v0 v1 v2=some b:=eqF xs44.u Tryz.f8 (callT_le E tab) rfl rfl rfl (xs44.t (rR xs44.mk) v0 v1 v2) (by kernel_rfl) (by unfold xs44.t; repeat' first | exact sR | exact sN | exact sL | apply sC | (apply sB; intro _)) h
def xs3n.s2000026 (v0:List Int) (v1:Za) (v2:List Int) (v3:Za) (v4:Int) (v5:Int):List Cell:=nn 1 (⟨(.box false),[.d .fro (.sl (.int .i64)) v0,.d .fro Ya v1],false,false,false,0,0⟩::nn 4 (vc (.d .deep (.sl (.int .i64)) v2)::nn 29 (vc (.d .fro Ya v3)::vc (iL v4)::vc (iL v5)::nn 117 ([]))))
def xs3n.q2000026:=fun v0 v1 v2 v3 v4 v5 => joinAtL E (callT E tab) 27 Tryz.f27 1 [.r,.r,.r,.r,.l,.r,.b,.o,.r,.r,.r] (xs3n.s2000026 v0 v1 v2 v3 v4 v5)
def xs3n.l2000026:=fun v0 v1 v2 v3 v4 v5 => tOf xs3n.mk (xs3n.q2000026 v0 v1 v2 v3 v4 v5)
def xs3n.s2000019 (v0:List Int) (v1:Za) (v2:List Int) (v3:Int) (v4:Int) (v5:Int) (v6:Ze) (v7:List Int) (v8:Zg) (v9:Za) (v10:Int) (v11:Int):List Cell:=nn 1 (⟨(.box false),[.d .fro (.sl (.int .i64)) v0,.d .fro Ya v1],false,false,false,0,0⟩::nn 4 (vc (.d .deep (.sl (.int .i64)) v2)::nn 1 (⟨(.box false),[iL v3,iL v4,iL v5,.d .fro Yc v6,.d .fro (.sl (.int .i64)) v7,.d .fro Ye v8],false,false,false,0,0⟩::nn 27 (vc (.d .fro Ya v9)::vc (iL v10)::vc (iL v11)::nn 117 ([])))))
def xs3n.q2000019:=fun v0 v1 v2 v3 v4 v5 v6 v7 v8 v9 v10 v11 => joinAtL E (callT E tab) 27 Tryz.f27 1 [.r,.r,.r,.r,.l,.r,.b,.o,.r,.r,.l,.b,.r,.r,.r,.l,.r,.l,.r,.l] (xs3n.s2000019 v0 v1 v2 v3 v4 v5 v6 v7 v8 v9 v10 v11)
def xs3n.l2000019:=fun v0 v1 v2 v3 v4 v5 v6 v7 v8 v9 v10 v11 => tOf xs3n.mk (xs3n.q2000019 v0 v1 v2 v3 v4 v5 v6 v7 v8 v9 v10 v11)
def xs3n.s2000022 (v0:List Int) (v1:Za) (v2:List Int) (v3:Int) (v4:Int) (v5:Int) (v6:Ze) (v7:List Int) (v8:Zg) (v9:Za) (v10:Int) (v11:Int):List Cell:=nn 1 (⟨(.box false),[.d .fro (.sl (.int .i64)) v0,.d .fro Ya v1],false,false,false,0,0⟩::nn 4 (vc (.d .deep (.sl (.int .i64)) v2)::nn 1 (⟨(.box false),[iL v3,iL v4,iL v5,.d .fro Yc v6,.d .fro (.sl (.int .i64)) v7,.d .fro Ye v8],false,false,false,0,0⟩::nn 27 (vc (.d .fro Ya v9)::vc (iL v10)::vc (iL v11)::nn 117 ([])))))
def xs3n.q2000022:=fun v0 v1 v2 v3 v4 v5 v6 v7 v8 v9 v10 v11 => joinAtL E (callT E tab) 27 Tryz.f27 1 [.r,.r,.r,.r,.l,.r,.b,.o,.r,.r,.l,.b,.r,.r,.r,.r,.r,.l] (xs3n.s2000022 v0 v1 v2 v3 v4 v5 v6 v7 v8 v9 v10 v11)
def xs3n.l2000022:=fun v0 v1 v2 v3 v4 v5 v6 v7 v8 v9 v10 v11 => tOf xs3n.mk (xs3n.q2000022 v0 v1 v2 v3 v4 v5 v6 v7 v8 v9 v10 v11)
def xs3n.s2000016 (v0:List Int) (v1:Za) (v2:List Int) (v3:Int) (v4:Int) (v5:Int) (v6:Int) (v7:Ze) (v8:List Int) (v9:Zg) (v10:Bool) (v11:Za) (v12:Int) (v13:Int):List Cell:=nn 1 (⟨(.box false),[.d .fro (.sl (.int .i64)) v0,.d .fro Ya v1],false,false,false,0,0⟩::nn 4 (vc (.d .deep (.sl (.int .i64)) v2)::vc (iL v3)::⟨(.box false),[iL v4,iL v5,iL v6,.d .fro Yc v7,.d .fro (.sl (.int .i64)) v8,.d .fro Ye v9],false,false,false,0,0⟩::vc (bL v10)::nn 26 (vc (.d .fro Ya v11)::vc (iL v12)::vc (iL v13)::nn 117 ([]))))
def xs3n.q2000016:=fun v0 v1 v2 v3 v4 v5 v6 v7 v8 v9 v10 v11 v12 v13 => joinAtL E (callT E tab) 27 Tryz.f27 1 [.r,.r,.r,.r,.l,.r,.b,.o,.r,.r,.l,.b,.r,.r,.r,.l,.l] (xs3n.s2000016 v0 v1 v2 v3 v4 v5 v6 v7 v8 v9 v10 v11 v12 v13)
def xs3n.l2000016:=fun v0 v1 v2 v3 v4 v5 v6 v7 v8 v9 v10 v11 v12 v13 => tOf xs3n.mk (xs3n.q2000016 v0 v1 v2 v3 v4 v5 v6 v7 v8 v9 v10 v11 v12 v13)
def xs3n.s2000014 (v0:List Int) (v1:Za) (v2:List Int) (v3:Int) (v4:Int) (v5:Int) (v6:Int) (v7:Ze) (v8:List Int) (v9:Zg) (v10:Bool) (v11:Za) (v12:Int) (v13:Int):List Cell:=nn 1 (⟨(.box false),[.d .fro (.sl (.int .i64)) v0,.d .fro Ya v1],false,false,false,0,0⟩::nn 4 (vc (.d .deep (.sl (.int .i64)) v2)::vc (iL v3)::⟨(.box false),[iL v4,iL v5,iL v6,.d .fro Yc v7,.d .fro (.sl (.int .i64)) v8,.d .fro Ye v9],false,false,false,0,0⟩::vc (bL v10)::nn 26 (vc (.d .fro Ya v11)::vc (iL v12)::vc (iL v13)::nn 117 ([]))))
def xs3n.q2000014:=fun v0 v1 v2 v3 v4 v5 v6 v7 v8 v9 v10 v11 v12 v13 => joinAtL E (callT E tab) 27 Tryz.f27 1 [.r,.r,.r,.r,.l,.r,.b,.o,.r,.r,.l,.b,.r,.r,.l,.l] (xs3n.s2000014 v0 v1 v2 v3 v4 v5 v6 v7 v8 v9 v10 v11 v12 v13)
def xs3n.l2000014:=fun v0 v1 v2 v3 v4 v5 v6 v7 v8 v9 v10 v11 v12 v13 => tOf xs3n.mk (xs3n.q2000014 v0 v1 v2 v3 v4 v5 v6 v7 v8 v9 v10 v11 v12 v13)
def xs3n.s11 (v0:List Int) (v1:Za) (v2:List Int) (v3:Za) (v4:Int) (v5:Int):List Cell:=nn 1 (⟨(.box false),[.d .fro (.sl (.int .i64)) v0,.d .fro Ya v1],false,false,false,0,0⟩::nn 4 (vc (.d .deep (.sl (.int .i64)) v2)::nn 29 (vc (.d .fro Ya v3)::vc (iL v4)::vc (iL v5)::nn 117 ([]))))
def xs3n.q11:=fun v0 v1 v2 v3 v4 v5 => loopAtL E (callT E tab) 27 Tryz.f27 1 [.r,.r,.r,.r,.l,.r,.b] (xs3n.s11 v0 v1 v2 v3 v4 v5)
def xs3n.l11:=fun v0 v1 v2 v3 v4 v5 => tOf xs3n.mk (xs3n.q11 v0 v1 v2 v3 v4 v5)
def xs3n.s2000009 (v0:List Int) (v1:Za):List Cell:=nn 1 (⟨(.box false),[.d .fro (.sl (.int .i64)) v0,.d .fro Ya v1],false,false,false,0,0⟩::nn 154 ([]))
def xs3n.q2000009:=fun v0 v1 => joinAtL E (callT E tab) 27 Tryz.f27 1 [.r,.r,.r,.l] (xs3n.s2000009 v0 v1)
def xs3n.l2000009:=fun v0 v1 => tOf xs3n.mk (xs3n.q2000009 v0 v1)
def xs3n.s2 (v0:List Int) (v1:Za) (v2:List Int) (v3:Int) (v4:Int):List Cell:=nn 1 (⟨(.box false),[.d .fro (.sl (.int .i64)) v0,.d .fro Ya v1],false,false,false,0,0⟩::nn 11 (vc (.d .fro (.sl (.int .i64)) v2)::vc (iL v3)::vc (iL v4)::nn 140 ([])))
def xs3n.q2:=fun v0 v1 v2 v3 v4 => loopAtL E (callT E tab) 27 Tryz.f27 1 [.r,.l,.r,.b] (xs3n.s2 v0 v1 v2 v3 v4)
def xs3n.l2:=fun v0 v1 v2 v3 v4 => tOf xs3n.mk (xs3n.q2 v0 v1 v2 v3 v4)
def xs3n.t {γ:Type} (ret:((List Int) × Bool)→Option γ) (lp2:(List Int)→Za→(List Int)→Int→Int→Option γ) (v0:List Int) (v1:Za):Option γ :=
 lp2 (v0) (v1) (v0) ((↑v0.length:Int)) ((0:Int))
def xs3n.t2000026 {γ:Type} (ret:((List Int) × Bool)→Option γ) (lp11:(List Int)→Za→(List Int)→Za→Int→Int→Option γ) (v0:List Int) (v1:Za) (v2:List Int) (v3:Za) (v4:Int) (v5:Int):Option γ :=
 lp11 (v0) (v1) (v2) (v3) (v4) (IntKind.i64.wrap (v5+(1:Int)))
def xs3n.t2000019 {γ:Type} (ret:((List Int) × Bool)→Option γ) (lp2000026:(List Int)→Za→(List Int)→Za→Int→Int→Option γ) (v0:List Int) (v1:Za) (v2:List Int) (v3:Int) (v4:Int) (v5:Int) (v6:Ze) (v7:List Int) (v8:Zg) (v9:Za) (v10:Int) (v11:Int):Option γ :=
 bif decide ((0:Int)≤v4) then
 bif decide (v4.toNat<v0.length) then
 bif decide (v2.length+[v0.getD v4.toNat (0:Int)].length≤(4294967296:Nat)) then
 lp2000026 (v0) (v1) (v2 ++ [v0.getD v4.toNat (0:Int)]) (v9) (v10) (v11)
 else
 none
 else
 none
 else
 none
def xs3n.t2000022 {γ:Type} (ret:((List Int) × Bool)→Option γ) (lp2000026:(List Int)→Za→(List Int)→Za→Int→Int→Option γ) (v0:List Int) (v1:Za) (v2:List Int) (v3:Int) (v4:Int) (v5:Int) (v6:Ze) (v7:List Int) (v8:Zg) (v9:Za) (v10:Int) (v11:Int):Option γ :=
 (xs2m (v3) (v4) (v5) (v6) (v7) (v8) (v2)).bind fun (r3:Int × Bool) =>
 bif !r3.snd then
 ret ([],Bool.false)
 else
 bif decide (v2.length+[r3.fst].length≤(4294967296:Nat)) then
 lp2000026 (v0) (v1) (v2 ++ [r3.fst]) (v9) (v10) (v11)
 else
 none
def xs3n.t2000016 {γ:Type} (ret:((List Int) × Bool)→Option γ) (lp2000019:(List Int)→Za→(List Int)→Int→Int→Int→Ze→(List Int)→Zg→Za→Int→Int→Option γ) (lp2000022:(List Int)→Za→(List Int)→Int→Int→Int→Ze→(List Int)→Zg→Za→Int→Int→Option γ) (v0:List Int) (v1:Za) (v2:List Int) (v3:Int) (v4:Int) (v5:Int) (v6:Int) (v7:Ze) (v8:List Int) (v9:Zg) (v10:Bool) (v11:Za) (v12:Int) (v13:Int):Option γ :=
 bif v4 == (1:Int) then
 bif decide (v5<(0:Int)) then
 ret ([],Bool.false)
 else
 bif decide (v5 ≥ (↑v0.length:Int)) then
 ret ([],Bool.false)
 else
 lp2000019 (v0) (v1) (v2) (v4) (v5) (v6) (v7) (v8) (v9) (v11) (v12) (v13)
 else
 bif decide (v5<(0:Int)) then
 ret ([],Bool.false)
 else
 bif decide (v5 ≥ v3) then
 ret ([],Bool.false)
 else
 bif v10 then
 bif decide (v6<(0:Int)) then
 ret ([],Bool.false)
 else
 bif decide (v6 ≥ v3) then
 ret ([],Bool.false)
 else
 lp2000022 (v0) (v1) (v2) (v4) (v5) (v6) (v7) (v8) (v9) (v11) (v12) (v13)
 else
 lp2000022 (v0) (v1) (v2) (v4) (v5) (v6) (v7) (v8) (v9) (v11) (v12) (v13)
def xs3n.t2000014 {γ:Type} (ret:((List Int) × Bool)→Option γ) (lp2000016:(List Int)→Za→(List Int)→Int→Int→Int→Int→Ze→(List Int)→Zg→Bool→Za→Int→Int→Option γ) (v0:List Int) (v1:Za) (v2:List Int) (v3:Int) (v4:Int) (v5:Int) (v6:Int) (v7:Ze) (v8:List Int) (v9:Zg) (v10:Bool) (v11:Za) (v12:Int) (v13:Int):Option γ :=
 bif v4 != (2:Int) then
 bif decide ((↑v7.length:Int) > (0:Int)) then
 ret ([],Bool.false)
 else
 bif v4 != (3:Int) then
 bif decide ((↑v8.length:Int) > (0:Int)) then
 ret ([],Bool.false)
 else
 bif v4 != (4:Int) then
 bif decide ((↑v9.length:Int) > (0:Int)) then
 ret ([],Bool.false)
 else
 bif !v10 then
 bif v6 != (0:Int) then
 ret ([],Bool.false)
 else
 lp2000016 (v0) (v1) (v2) (v3) (v4) (v5) (v6) (v7) (v8) (v9) (v10) (v11) (v12) (v13)
 else
 lp2000016 (v0) (v1) (v2) (v3) (v4) (v5) (v6) (v7) (v8) (v9) (v10) (v11) (v12) (v13)
 else
 bif !v10 then
 bif v6 != (0:Int) then
 ret ([],Bool.false)
 else
 lp2000016 (v0) (v1) (v2) (v3) (v4) (v5) (v6) (v7) (v8) (v9) (v10) (v11) (v12) (v13)
 else
 lp2000016 (v0) (v1) (v2) (v3) (v4) (v5) (v6) (v7) (v8) (v9) (v10) (v11) (v12) (v13)
 else
 bif v4 != (4:Int) then
 bif decide ((↑v9.length:Int) > (0:Int)) then
 ret ([],Bool.false)
 else
 bif !v10 then
 bif v6 != (0:Int) then
 ret ([],Bool.false)
 else
 lp2000016 (v0) (v1) (v2) (v3) (v4) (v5) (v6) (v7) (v8) (v9) (v10) (v11) (v12) (v13)
 else
 lp2000016 (v0) (v1) (v2) (v3) (v4) (v5) (v6) (v7) (v8) (v9) (v10) (v11) (v12) (v13)
 else
 bif !v10 then
 bif v6 != (0:Int) then
 ret ([],Bool.false)
 else
 lp2000016 (v0) (v1) (v2) (v3) (v4) (v5) (v6) (v7) (v8) (v9) (v10) (v11) (v12) (v13)
 else
 lp2000016 (v0) (v1) (v2) (v3) (v4) (v5) (v6) (v7) (v8) (v9) (v10) (v11) (v12) (v13)
 else
 bif v4 != (3:Int) then
 bif decide ((↑v8.length:Int) > (0:Int)) then
 ret ([],Bool.false)
 else
 bif v4 != (4:Int) then
 bif decide ((↑v9.length:Int) > (0:Int)) then
 ret ([],Bool.false)
 else
 bif !v10 then
 bif v6 != (0:Int) then
 ret ([],Bool.false)
 else
 lp2000016 (v0) (v1) (v2) (v3) (v4) (v5) (v6) (v7) (v8) (v9) (v10) (v11) (v12) (v13)
 else
 lp2000016 (v0) (v1) (v2) (v3) (v4) (v5) (v6) (v7) (v8) (v9) (v10) (v11) (v12) (v13)
 else
 bif !v10 then
 bif v6 != (0:Int) then
 ret ([],Bool.false)
 else
 lp2000016 (v0) (v1) (v2) (v3) (v4) (v5) (v6) (v7) (v8) (v9) (v10) (v11) (v12) (v13)
 else
 lp2000016 (v0) (v1) (v2) (v3) (v4) (v5) (v6) (v7) (v8) (v9) (v10) (v11) (v12) (v13)
 else
 bif v4 != (4:Int) then
 bif decide ((↑v9.length:Int) > (0:Int)) then
 ret ([],Bool.false)
 else
 bif !v10 then
 bif v6 != (0:Int) then
 ret ([],Bool.false)
 else
 lp2000016 (v0) (v1) (v2) (v3) (v4) (v5) (v6) (v7) (v8) (v9) (v10) (v11) (v12) (v13)
 else
 lp2000016 (v0) (v1) (v2) (v3) (v4) (v5) (v6) (v7) (v8) (v9) (v10) (v11) (v12) (v13)
 else
 bif !v10 then
 bif v6 != (0:Int) then
 ret ([],Bool.false)
 else
 lp2000016 (v0) (v1) (v2) (v3) (v4) (v5) (v6) (v7) (v8) (v9) (v10) (v11) (v12) (v13)
 else
 lp2000016 (v0) (v1) (v2) (v3) (v4) (v5) (v6) (v7) (v8) (v9) (v10) (v11) (v12) (v13)
def xs3n.t11 {γ:Type} (ret:((List Int) × Bool)→Option γ) (lp2000014:(List Int)→Za→(List Int)→Int→Int→Int→Int→Ze→(List Int)→Zg→Bool→Za→Int→Int→Option γ) (v0:List Int) (v1:Za) (v2:List Int) (v3:Za) (v4:Int) (v5:Int):Option γ :=
 bif decide (v5<v4) then
 bif decide ((0:Int)≤v5) then
 bif decide (v5.toNat<v3.length) then
 bif (v3.getD v5.toNat ((0:Int),(0:Int),(0:Int),[],[],[])).fst == (4:Int) then
 lp2000014 (v0) (v1) (v2) (v5) ((v3.getD v5.toNat ((0:Int),(0:Int),(0:Int),[],[],[])).fst) ((v3.getD v5.toNat ((0:Int),(0:Int),(0:Int),[],[],[])).snd.fst) ((v3.getD v5.toNat ((0:Int),(0:Int),(0:Int),[],[],[])).snd.snd.fst) ((v3.getD v5.toNat ((0:Int),(0:Int),(0:Int),[],[],[])).snd.snd.snd.fst) ((v3.getD v5.toNat ((0:Int),(0:Int),(0:Int),[],[],[])).snd.snd.snd.snd.fst) ((v3.getD v5.toNat ((0:Int),(0:Int),(0:Int),[],[],[])).snd.snd.snd.snd.snd) (Bool.true) (v3) (v4) (v5)
 else
 bif (v3.getD v5.toNat ((0:Int),(0:Int),(0:Int),[],[],[])).fst == (5:Int) then
 lp2000014 (v0) (v1) (v2) (v5) ((v3.getD v5.toNat ((0:Int),(0:Int),(0:Int),[],[],[])).fst) ((v3.getD v5.toNat ((0:Int),(0:Int),(0:Int),[],[],[])).snd.fst) ((v3.getD v5.toNat ((0:Int),(0:Int),(0:Int),[],[],[])).snd.snd.fst) ((v3.getD v5.toNat ((0:Int),(0:Int),(0:Int),[],[],[])).snd.snd.snd.fst) ((v3.getD v5.toNat ((0:Int),(0:Int),(0:Int),[],[],[])).snd.snd.snd.snd.fst) ((v3.getD v5.toNat ((0:Int),(0:Int),(0:Int),[],[],[])).snd.snd.snd.snd.snd) (Bool.true) (v3) (v4) (v5)
 else
 lp2000014 (v0) (v1) (v2) (v5) ((v3.getD v5.toNat ((0:Int),(0:Int),(0:Int),[],[],[])).fst) ((v3.getD v5.toNat ((0:Int),(0:Int),(0:Int),[],[],[])).snd.fst) ((v3.getD v5.toNat ((0:Int),(0:Int),(0:Int),[],[],[])).snd.snd.fst) ((v3.getD v5.toNat ((0:Int),(0:Int),(0:Int),[],[],[])).snd.snd.snd.fst) ((v3.getD v5.toNat ((0:Int),(0:Int),(0:Int),[],[],[])).snd.snd.snd.snd.fst) ((v3.getD v5.toNat ((0:Int),(0:Int),(0:Int),[],[],[])).snd.snd.snd.snd.snd) ((v3.getD v5.toNat ((0:Int),(0:Int),(0:Int),[],[],[])).fst == (6:Int)) (v3) (v4) (v5)
 else
 none
 else
 none
 else
 ret (v2,Bool.true)
def xs3n.t2000009 {γ:Type} (ret:((List Int) × Bool)→Option γ) (lp11:(List Int)→Za→(List Int)→Za→Int→Int→Option γ) (v0:List Int) (v1:Za):Option γ :=
 lp11 (v0) (v1) ([]) (v1) ((↑v1.length:Int)) ((0:Int))
def xs3n.t2 {γ:Type} (ret:((List Int) × Bool)→Option γ) (lp2000009:(List Int)→Za→Option γ) (lp2:(List Int)→Za→(List Int)→Int→Int→Option γ) (v0:List Int) (v1:Za) (v2:List Int) (v3:Int) (v4:Int):Option γ :=
 bif decide (v4<v3) then
 bif decide ((0:Int)≤v4) then
 bif decide (v4.toNat<v2.length) then
 (xs4h (v2.getD v4.toNat (0:Int)) ((0:Int)) ((6:Int))).bind fun (r0:Bool) =>
 bif !r0 then
 ret ([],Bool.false)
 else
 lp2 (v0) (v1) (v2) (v3) (IntKind.i64.wrap (v4+(1:Int)))
 else
 none
 else
 none
 else
 (xs4h ((↑v0.length:Int)) ((1:Int)) ((4:Int))).bind fun (r1:Bool) =>
 bif !r1 then
 ret ([],Bool.false)
 else
 (xs4h ((↑v1.length:Int)) ((1:Int)) ((12:Int))).bind fun (r2:Bool) =>
 bif !r2 then
 ret ([],Bool.false)
 else
 lp2000009 (v0) (v1)
theorem xs3n.u:∀ b,xs3n.un (xs3n.mk b)=b:=fun _ => by kernel_rfl
theorem xs3n.eq (v0 v1) {b} (h:xs3n.t some xs3n.l2 v0 v1=some b):xs3n v0 v1=some b:=eqF xs3n.u Tryz.f27 (callT_le E tab) rfl rfl rfl (xs3n.t (rR xs3n.mk) xs3n.q2 v0 v1) (by kernel_rfl) (by unfold xs3n.t; repeat' first | exact sR | exact sN | exact sL | apply sC | (apply sB; intro _)) h
theorem xs3n.eq2000026 (v0 v1 v2 v3 v4 v5) {b} (h:xs3n.t2000026 some xs3n.l11 v0 v1 v2 v3 v4 v5=some b):xs3n.l2000026 v0 v1 v2 v3 v4 v5=some b:=eqJ xs3n.u (xs3n.t2000026 (rR xs3n.mk) xs3n.q11 v0 v1 v2 v3 v4 v5) (by kernel_rfl) (by unfold xs3n.t2000026; repeat' first | exact sR | exact sN | exact sL | apply sC | (apply sB; intro _)) h
theorem xs3n.eq2000019 (v0 v1 v2 v3 v4 v5 v6 v7 v8 v9 v10 v11) {b} (h:xs3n.t2000019 some xs3n.l2000026 v0 v1 v2 v3 v4 v5 v6 v7 v8 v9 v10 v11=some b):xs3n.l2000019 v0 v1 v2 v3 v4 v5 v6 v7 v8 v9 v10 v11=some b:=eqJ xs3n.u (xs3n.t2000019 (rR xs3n.mk) xs3n.q2000026 v0 v1 v2 v3 v4 v5 v6 v7 v8 v9 v10 v11) (by kernel_rfl) (by unfold xs3n.t2000019; repeat' first | exact sR | exact sN | exact sL | apply sC | (apply sB; intro _)) h
theorem xs3n.eq2000022 (v0 v1 v2 v3 v4 v5 v6 v7 v8 v9 v10 v11) {b} (h:xs3n.t2000022 some xs3n.l2000026 v0 v1 v2 v3 v4 v5 v6 v7 v8 v9 v10 v11=some b):xs3n.l2000022 v0 v1 v2 v3 v4 v5 v6 v7 v8 v9 v10 v11=some b:=eqJ xs3n.u (xs3n.t2000022 (rR xs3n.mk) xs3n.q2000026 v0 v1 v2 v3 v4 v5 v6 v7 v8 v9 v10 v11) (by kernel_rfl) (by unfold xs3n.t2000022; repeat' first | exact sR | exact sN | exact sL | apply sC | (apply sB; intro _)) h
theorem xs3n.eq2000016 (v0 v1 v2 v3 v4 v5 v6 v7 v8 v9 v10 v11 v12 v13) {b} (h:xs3n.t2000016 some xs3n.l2000019 xs3n.l2000022 v0 v1 v2 v3 v4 v5 v6 v7 v8 v9 v10 v11 v12 v13=some b):xs3n.l2000016 v0 v1 v2 v3 v4 v5 v6 v7 v8 v9 v10 v11 v12 v13=some b:=eqJ xs3n.u (xs3n.t2000016 (rR xs3n.mk) xs3n.q2000019 xs3n.q2000022 v0 v1 v2 v3 v4 v5 v6 v7 v8 v9 v10 v11 v12 v13) (by kernel_rfl) (by unfold xs3n.t2000016; repeat' first | exact sR | exact sN | exact sL | apply sC | (apply sB; intro _)) h
theorem xs3n.eq2000014 (v0 v1 v2 v3 v4 v5 v6 v7 v8 v9 v10 v11 v12 v13) {b} (h:xs3n.t2000014 some xs3n.l2000016 v0 v1 v2 v3 v4 v5 v6 v7 v8 v9 v10 v11 v12 v13=some b):xs3n.l2000014 v0 v1 v2 v3 v4 v5 v6 v7 v8 v9 v10 v11 v12 v13=some b:=eqJ xs3n.u (xs3n.t2000014 (rR xs3n.mk) xs3n.q2000016 v0 v1 v2 v3 v4 v5 v6 v7 v8 v9 v10 v11 v12 v13) (by kernel_rfl) (by unfold xs3n.t2000014; repeat' first | exact sR | exact sN | exact sL | apply sC | (apply sB; intro _)) h
theorem xs3n.eq11 (v0 v1 v2 v3 v4 v5) {b} (h:xs3n.t11 some xs3n.l2000014 v0 v1 v2 v3 v4 v5=some b):xs3n.l11 v0 v1 v2 v3 v4 v5=some b:=eqL xs3n.u (xs3n.t11 (rR xs3n.mk) xs3n.q2000014 v0 v1 v2 v3 v4 v5) (by kernel_rfl) (by unfold xs3n.t11; repeat' first | exact sR | exact sN | exact sL | apply sC | (apply sB; intro _)) h
theorem xs3n.eq2000009 (v0 v1) {b} (h:xs3n.t2000009 some xs3n.l11 v0 v1=some b):xs3n.l2000009 v0 v1=some b:=eqJ xs3n.u (xs3n.t2000009 (rR xs3n.mk) xs3n.q11 v0 v1) (by kernel_rfl) (by unfold xs3n.t2000009; repeat' first | exact sR | exact sN | exact sL | apply sC | (apply sB; intro _)) h
theorem xs3n.eq2 (v0 v1 v2 v3 v4) {b} (h:xs3n.t2 some xs3n.l2000009 xs3n.l2 v0 v1 v2 v3 v4=some b):xs3n.l2 v0 v1 v2 v3 v4=some b:=eqL xs3n.u (xs3n.t2 (rR xs3n.mk) xs3n.q2000009 xs3n.q2 v0 v1 v2 v3 v4) (by kernel_rfl) (by unfold xs3n.t2; repeat' first | exact sR | exact sN | exact sL | apply sC | (apply sB; intro _)) h
def xs4h.t {γ:Type} (ret:(Bool)→Option γ) (v0:Int) (v1:Int) (v2:Int):Option γ :=
 bif decide (v0 ≥ v1) then
 ret (decide (v0≤v2))
 else
 ret (Bool.false)
theorem xs4h.u:∀ b,xs4h.un (xs4h.mk b)=b:=fun _ => by kernel_rfl
theorem xs4h.eq (v0 v1 v2) {b} (h:xs4h.t some v0 v1 v2=some b):xs4h v0 v1 v2=some b:=eqF xs4h.u Tryz.f53 (callT_le E tab) rfl rfl rfl (xs4h.t (rR xs4h.mk) v0 v1 v2) (by kernel_rfl) (by unfold xs4h.t; repeat' first | exact sR | exact sN | exact sL | apply sC | (apply sB; intro _)) h
def xs2m.t {γ:Type} (ret:(Int × Bool)→Option γ) (v0:Int) (v1:Int) (v2:Int) (v3:Ze) (v4:List Int) (v5:Zg) (v6:List Int):Option γ :=
 bif decide ((0:Int)≤v1) then
 bif decide (v1.toNat<v6.length) then
 bif v0 == (2:Int) then
 (xs2i (v3) (v6.getD v1.toNat (0:Int))).bind fun (r0:Bool) =>
 ret (v6.getD v1.toNat (0:Int),r0)
 else
 bif v0 == (3:Int) then
 (xs2j (v4) (v6.getD v1.toNat (0:Int))).bind fun (r1:Bool) =>
 ret ((↑v4.length:Int),r1)
 else
 bif v0 == (4:Int) then
 bif decide ((0:Int)≤v2) then
 bif decide (v2.toNat<v6.length) then
 (xs3l (v5) (v6.getD v1.toNat (0:Int)) (v6.getD v2.toNat (0:Int))).bind fun (r2:Bool) =>
 bif !r2 then
 ret ((0:Int),Bool.false)
 else
 (xs49 (v5) (v6.getD v2.toNat (0:Int))).bind fun (r3:Int) =>
 ret (IntKind.i64.wrap (v6.getD v1.toNat (0:Int)+r3),decide (IntKind.i64.wrap (v6.getD v1.toNat (0:Int)+r3)≤(6:Int)))
 else
 none
 else
 none
 else
 bif v0 == (5:Int) then
 bif v0 == (5:Int) then
 bif decide ((0:Int)≤v2) then
 bif decide (v2.toNat<v6.length) then
 ret (v6.getD v1.toNat (0:Int),v6.getD v1.toNat (0:Int) == v6.getD v2.toNat (0:Int))
 else
 none
 else
 none
 else
 ret (v6.getD v1.toNat (0:Int),v0 == (7:Int))
 else
 bif v0 == (6:Int) then
 bif decide ((0:Int)≤v2) then
 bif decide (v2.toNat<v6.length) then
 ret (v6.getD v1.toNat (0:Int),v6.getD v1.toNat (0:Int) == v6.getD v2.toNat (0:Int))
 else
 none
 else
 none
 else
 ret (v6.getD v1.toNat (0:Int),v0 == (7:Int))
 else
 none
 else
 none
theorem xs2m.u:∀ b,xs2m.un (xs2m.mk b)=b:=fun _ => by kernel_rfl
theorem xs2m.eq (v0 v1 v2 v3 v4 v5 v6) {b} (h:xs2m.t some v0 v1 v2 v3 v4 v5 v6=some b):xs2m v0 v1 v2 v3 v4 v5 v6=some b:=eqF xs2m.u Tryz.f54 (callT_le E tab) rfl rfl rfl (xs2m.t (rR xs2m.mk) v0 v1 v2 v3 v4 v5 v6) (by kernel_rfl) (by unfold xs2m.t; repeat' first | exact sR | exact sN | exact sL | apply sC | (apply sB; intro _)) h
def xs2i.s2 (v0:Ze) (v1:Int) (v2:Ze) (v3:Int) (v4:Int):List Cell:=vc (.d .fro Yc v0)::vc (iL v1)::nn 5 (vc (.d .fro Yc v2)::vc (iL v3)::vc (iL v4)::nn 42 ([]))
def xs2i.q2:=fun v0 v1 v2 v3 v4 => loopAtL E (callT E tab) 91 Tryz.f91 2 [.r,.l,.r,.b] (xs2i.s2 v0 v1 v2 v3 v4)
def xs2i.l2:=fun v0 v1 v2 v3 v4 => tOf xs2i.mk (xs2i.q2 v0 v1 v2 v3 v4)
def xs2i.t {γ:Type} (ret:(Bool)→Option γ) (lp2:Ze→Int→Ze→Int→Int→Option γ) (v0:Ze) (v1:Int):Option γ :=
 lp2 (v0) (v1) (v0) ((↑v0.length:Int)) ((0:Int))
def xs2i.t2 {γ:Type} (ret:(Bool)→Option γ) (lp2:Ze→Int→Ze→Int→Int→Option γ) (v0:Ze) (v1:Int) (v2:Ze) (v3:Int) (v4:Int):Option γ :=
 bif decide (v4<v3) then
 bif decide ((0:Int)≤v4) then
 bif decide (v4.toNat<v2.length) then
 bif decide ((v2.getD v4.toNat ((0:Int),(0:Int),(0:Int))).snd.fst<(0:Int)) then
 ret (Bool.false)
 else
 bif decide ((v2.getD v4.toNat ((0:Int),(0:Int),(0:Int))).snd.fst ≥ v1) then
 ret (Bool.false)
 else
 (xs4h ((v2.getD v4.toNat ((0:Int),(0:Int),(0:Int))).fst) ((1:Int)) ((4:Int))).bind fun (r0:Bool) =>
 bif !r0 then
 ret (Bool.false)
 else
 bif (v2.getD v4.toNat ((0:Int),(0:Int),(0:Int))).fst == (4:Int) then
 bif decide ((v2.getD v4.toNat ((0:Int),(0:Int),(0:Int))).snd.snd<(0:Int)) then
 ret (Bool.false)
 else
 bif decide ((v2.getD v4.toNat ((0:Int),(0:Int),(0:Int))).snd.snd ≥ v1) then
 ret (Bool.false)
 else
 (xs4h ((v2.getD v4.toNat ((0:Int),(0:Int),(0:Int))).snd.snd) ((-100000:Int)) ((100000:Int))).bind fun (r1:Bool) =>
 bif !r1 then
 ret (Bool.false)
 else
 lp2 (v0) (v1) (v2) (v3) (IntKind.i64.wrap (v4+(1:Int)))
 else
 (xs4h ((v2.getD v4.toNat ((0:Int),(0:Int),(0:Int))).snd.snd) ((-100000:Int)) ((100000:Int))).bind fun (r2:Bool) =>
 bif !r2 then
 ret (Bool.false)
 else
 lp2 (v0) (v1) (v2) (v3) (IntKind.i64.wrap (v4+(1:Int)))
 else
 none
 else
 none
 else
 ret (decide ((↑v0.length:Int)≤(8:Int)))
theorem xs2i.u:∀ b,xs2i.un (xs2i.mk b)=b:=fun _ => by kernel_rfl
theorem xs2i.eq (v0 v1) {b} (h:xs2i.t some xs2i.l2 v0 v1=some b):xs2i v0 v1=some b:=eqF xs2i.u Tryz.f91 (callT_le E tab) rfl rfl rfl (xs2i.t (rR xs2i.mk) xs2i.q2 v0 v1) (by kernel_rfl) (by unfold xs2i.t; repeat' first | exact sR | exact sN | exact sL | apply sC | (apply sB; intro _)) h
theorem xs2i.eq2 (v0 v1 v2 v3 v4) {b} (h:xs2i.t2 some xs2i.l2 v0 v1 v2 v3 v4=some b):xs2i.l2 v0 v1 v2 v3 v4=some b:=eqL xs2i.u (xs2i.t2 (rR xs2i.mk) xs2i.q2 v0 v1 v2 v3 v4) (by kernel_rfl) (by unfold xs2i.t2; repeat' first | exact sR | exact sN | exact sL | apply sC | (apply sB; intro _)) h
def xs2j.s2 (v0:List Int) (v1:Int) (v2:List Int) (v3:Int) (v4:Int):List Cell:=vc (.d .fro (.sl (.int .i64)) v0)::vc (iL v1)::nn 5 (vc (.d .fro (.sl (.int .i64)) v2)::vc (iL v3)::vc (iL v4)::nn 14 ([]))
def xs2j.q2:=fun v0 v1 v2 v3 v4 => loopAtL E (callT E tab) 92 Tryz.f92 2 [.r,.l,.r,.b] (xs2j.s2 v0 v1 v2 v3 v4)
def xs2j.l2:=fun v0 v1 v2 v3 v4 => tOf xs2j.mk (xs2j.q2 v0 v1 v2 v3 v4)
def xs2j.t {γ:Type} (ret:(Bool)→Option γ) (lp2:(List Int)→Int→(List Int)→Int→Int→Option γ) (v0:List Int) (v1:Int):Option γ :=
 lp2 (v0) (v1) (v0) ((↑v0.length:Int)) ((0:Int))
def xs2j.t2 {γ:Type} (ret:(Bool)→Option γ) (lp2:(List Int)→Int→(List Int)→Int→Int→Option γ) (v0:List Int) (v1:Int) (v2:List Int) (v3:Int) (v4:Int):Option γ :=
 bif decide (v4<v3) then
 bif decide ((0:Int)≤v4) then
 bif decide (v4.toNat<v2.length) then
 bif decide (v2.getD v4.toNat (0:Int)<(0:Int)) then
 ret (Bool.false)
 else
 bif decide (v2.getD v4.toNat (0:Int) ≥ v1) then
 ret (Bool.false)
 else
 lp2 (v0) (v1) (v2) (v3) (IntKind.i64.wrap (v4+(1:Int)))
 else
 none
 else
 none
 else
 ret (decide ((↑v0.length:Int)≤(6:Int)))
theorem xs2j.u:∀ b,xs2j.un (xs2j.mk b)=b:=fun _ => by kernel_rfl
theorem xs2j.eq (v0 v1) {b} (h:xs2j.t some xs2j.l2 v0 v1=some b):xs2j v0 v1=some b:=eqF xs2j.u Tryz.f92 (callT_le E tab) rfl rfl rfl (xs2j.t (rR xs2j.mk) xs2j.q2 v0 v1) (by kernel_rfl) (by unfold xs2j.t; repeat' first | exact sR | exact sN | exact sL | apply sC | (apply sB; intro _)) h
theorem xs2j.eq2 (v0 v1 v2 v3 v4) {b} (h:xs2j.t2 some xs2j.l2 v0 v1 v2 v3 v4=some b):xs2j.l2 v0 v1 v2 v3 v4=some b:=eqL xs2j.u (xs2j.t2 (rR xs2j.mk) xs2j.q2 v0 v1 v2 v3 v4) (by kernel_rfl) (by unfold xs2j.t2; repeat' first | exact sR | exact sN | exact sL | apply sC | (apply sB; intro _)) h
def xs3l.s2 (v0:Zg) (v1:Int) (v2:Int) (v3:Zg) (v4:Int) (v5:Int):List Cell:=vc (.d .fro Ye v0)::vc (iL v1)::vc (iL v2)::nn 6 (vc (.d .fro Ye v3)::vc (iL v4)::vc (iL v5)::nn 36 ([]))
def xs3l.q2:=fun v0 v1 v2 v3 v4 v5 => loopAtL E (callT E tab) 93 Tryz.f93 3 [.r,.l,.r,.b] (xs3l.s2 v0 v1 v2 v3 v4 v5)
def xs3l.l2:=fun v0 v1 v2 v3 v4 v5 => tOf xs3l.mk (xs3l.q2 v0 v1 v2 v3 v4 v5)
def xs3l.t {γ:Type} (ret:(Bool)→Option γ) (lp2:Zg→Int→Int→Zg→Int→Int→Option γ) (v0:Zg) (v1:Int) (v2:Int):Option γ :=
 lp2 (v0) (v1) (v2) (v0) ((↑v0.length:Int)) ((0:Int))
def xs3l.t2 {γ:Type} (ret:(Bool)→Option γ) (lp2:Zg→Int→Int→Zg→Int→Int→Option γ) (v0:Zg) (v1:Int) (v2:Int) (v3:Zg) (v4:Int) (v5:Int):Option γ :=
 bif decide (v5<v4) then
 bif decide ((0:Int)≤v5) then
 bif decide (v5.toNat<v3.length) then
 bif (↑(v3.getD v5.toNat []).length:Int) != (2:Int) then
 ret (Bool.false)
 else
 bif decide (Int.toNat (0:Int)<(v3.getD v5.toNat []).length) then
 bif decide ((v3.getD v5.toNat []).getD (Int.toNat (0:Int)) (0:Int)<(0:Int)) then
 ret (Bool.false)
 else
 bif decide (Int.toNat (0:Int)<(v3.getD v5.toNat []).length) then
 bif decide ((v3.getD v5.toNat []).getD (Int.toNat (0:Int)) (0:Int) ≥ v1) then
 ret (Bool.false)
 else
 bif decide (Int.toNat (1:Int)<(v3.getD v5.toNat []).length) then
 bif decide ((v3.getD v5.toNat []).getD (Int.toNat (1:Int)) (0:Int)<(0:Int)) then
 ret (Bool.false)
 else
 bif decide (Int.toNat (1:Int)<(v3.getD v5.toNat []).length) then
 bif decide ((v3.getD v5.toNat []).getD (Int.toNat (1:Int)) (0:Int) ≥ v2) then
 ret (Bool.false)
 else
 lp2 (v0) (v1) (v2) (v3) (v4) (IntKind.i64.wrap (v5+(1:Int)))
 else
 none
 else
 none
 else
 none
 else
 none
 else
 none
 else
 none
 else
 ret (decide ((↑v0.length:Int)≤(6:Int)))
theorem xs3l.u:∀ b,xs3l.un (xs3l.mk b)=b:=fun _ => by kernel_rfl
theorem xs3l.eq (v0 v1 v2) {b} (h:xs3l.t some xs3l.l2 v0 v1 v2=some b):xs3l v0 v1 v2=some b:=eqF xs3l.u Tryz.f93 (callT_le E tab) rfl rfl rfl (xs3l.t (rR xs3l.mk) xs3l.q2 v0 v1 v2) (by kernel_rfl) (by unfold xs3l.t; repeat' first | exact sR | exact sN | exact sL | apply sC | (apply sB; intro _)) h
theorem xs3l.eq2 (v0 v1 v2 v3 v4 v5) {b} (h:xs3l.t2 some xs3l.l2 v0 v1 v2 v3 v4 v5=some b):xs3l.l2 v0 v1 v2 v3 v4 v5=some b:=eqL xs3l.u (xs3l.t2 (rR xs3l.mk) xs3l.q2 v0 v1 v2 v3 v4 v5) (by kernel_rfl) (by unfold xs3l.t2; repeat' first | exact sR | exact sN | exact sL | apply sC | (apply sB; intro _)) h
def xs49.s7 (v0:Zg) (v1:Int) (v2:Int) (v3:Int) (v4:Bool) (v5:Zg) (v6:Int) (v7:Int):List Cell:=vc (.d .fro Ye v0)::vc (iL v1)::nn 3 (vc (iL v2)::vc (iL v3)::vc (bL v4)::nn 7 (vc (.d .fro Ye v5)::vc (iL v6)::vc (iL v7)::nn 17 ([])))
def xs49.q7:=fun v0 v1 v2 v3 v4 v5 v6 v7 => loopAtL E (callT E tab) 94 Tryz.f94 2 [.r,.r,.l,.r,.b,.o,.r,.l,.b,.r,.l,.r,.b] (xs49.s7 v0 v1 v2 v3 v4 v5 v6 v7)
def xs49.l7:=fun v0 v1 v2 v3 v4 v5 v6 v7 => tOf xs49.mk (xs49.q7 v0 v1 v2 v3 v4 v5 v6 v7)
def xs49.s3 (v0:Zg) (v1:Int) (v2:Int) (v3:Int):List Cell:=vc (.d .fro Ye v0)::vc (iL v1)::nn 3 (vc (iL v2)::vc (iL v3)::nn 28 ([]))
def xs49.q3:=fun v0 v1 v2 v3 => loopAtL E (callT E tab) 94 Tryz.f94 2 [.r,.r,.l,.r,.b] (xs49.s3 v0 v1 v2 v3)
def xs49.l3:=fun v0 v1 v2 v3 => tOf xs49.mk (xs49.q3 v0 v1 v2 v3)
def xs49.t {γ:Type} (ret:(Int)→Option γ) (lp3:Zg→Int→Int→Int→Option γ) (v0:Zg) (v1:Int):Option γ :=
 lp3 (v0) (v1) ((0:Int)) ((0:Int))
def xs49.t7 {γ:Type} (ret:(Int)→Option γ) (lp7:Zg→Int→Int→Int→Bool→Zg→Int→Int→Option γ) (lp3:Zg→Int→Int→Int→Option γ) (v0:Zg) (v1:Int) (v2:Int) (v3:Int) (v4:Bool) (v5:Zg) (v6:Int) (v7:Int):Option γ :=
 bif decide (v7<v6) then
 bif decide ((0:Int)≤v7) then
 bif decide (v7.toNat<v5.length) then
 bif v4 then
 lp7 (v0) (v1) (v2) (v3) (Bool.true) (v5) (v6) (IntKind.i64.wrap (v7+(1:Int)))
 else
 bif decide (Int.toNat (1:Int)<(v5.getD v7.toNat []).length) then
 lp7 (v0) (v1) (v2) (v3) ((v5.getD v7.toNat []).getD (Int.toNat (1:Int)) (0:Int) == v3) (v5) (v6) (IntKind.i64.wrap (v7+(1:Int)))
 else
 none
 else
 none
 else
 none
 else
 bif !v4 then
 lp3 (v0) (v1) (IntKind.i64.wrap (v2+(1:Int))) (IntKind.i64.wrap (v3+(1:Int)))
 else
 lp3 (v0) (v1) (v2) (IntKind.i64.wrap (v3+(1:Int)))
def xs49.t3 {γ:Type} (ret:(Int)→Option γ) (lp7:Zg→Int→Int→Int→Bool→Zg→Int→Int→Option γ) (v0:Zg) (v1:Int) (v2:Int) (v3:Int):Option γ :=
 bif decide (v3<v1) then
 lp7 (v0) (v1) (v2) (v3) (Bool.false) (v0) ((↑v0.length:Int)) ((0:Int))
 else
 ret (v2)
theorem xs49.u:∀ b,xs49.un (xs49.mk b)=b:=fun _ => by kernel_rfl
theorem xs49.eq (v0 v1) {b} (h:xs49.t some xs49.l3 v0 v1=some b):xs49 v0 v1=some b:=eqF xs49.u Tryz.f94 (callT_le E tab) rfl rfl rfl (xs49.t (rR xs49.mk) xs49.q3 v0 v1) (by kernel_rfl) (by unfold xs49.t; repeat' first | exact sR | exact sN | exact sL | apply sC | (apply sB; intro _)) h
theorem xs49.eq7 (v0 v1 v2 v3 v4 v5 v6 v7) {b} (h:xs49.t7 some xs49.l7 xs49.l3 v0 v1 v2 v3 v4 v5 v6 v7=some b):xs49.l7 v0 v1 v2 v3 v4 v5 v6 v7=some b:=eqL xs49.u (xs49.t7 (rR xs49.mk) xs49.q7 xs49.q3 v0 v1 v2 v3 v4 v5 v6 v7) (by kernel_rfl) (by unfold xs49.t7; repeat' first | exact sR | exact sN | exact sL | apply sC | (apply sB; intro _)) h
theorem xs49.eq3 (v0 v1 v2 v3) {b} (h:xs49.t3 some xs49.l7 v0 v1 v2 v3=some b):xs49.l3 v0 v1 v2 v3=some b:=eqL xs49.u (xs49.t3 (rR xs49.mk) xs49.q7 v0 v1 v2 v3) (by kernel_rfl) (by unfold xs49.t3; repeat' first | exact sR | exact sN | exact sL | apply sC | (apply sB; intro _)) h
def xs30.s4 (v0:List Int) (v1:Za) (v2:Zb) (v3:Int) (v4:Int):List Cell:=nn 2 (⟨(.box false),[.d .fro (.sl (.int .i64)) v0,.d .fro Ya v1],false,false,false,0,0⟩::nn 10 (vc (.d .fro Yb v2)::vc (iL v3)::vc (iL v4)::nn 18 ([])))
def xs30.q4:=fun v0 v1 v2 v3 v4 => loopAtL E (callT E tab) 28 Tryz.f28 2 [.r,.r,.l,.r,.b] (xs30.s4 v0 v1 v2 v3 v4)
def xs30.l4:=fun v0 v1 v2 v3 v4 => tOf xs30.mk (xs30.q4 v0 v1 v2 v3 v4)
def xs30.t {γ:Type} (ret:(Bool)→Option γ) (lp4:(List Int)→Za→Zb→Int→Int→Option γ) (v0:List Int) (v1:Za) (v2:Zb):Option γ :=
 bif (↑v2.length:Int) != (↑v0.length:Int) then
 ret (Bool.false)
 else
 lp4 (v0) (v1) (v2) ((↑v2.length:Int)) ((0:Int))
def xs30.t4 {γ:Type} (ret:(Bool)→Option γ) (lp4:(List Int)→Za→Zb→Int→Int→Option γ) (v0:List Int) (v1:Za) (v2:Zb) (v3:Int) (v4:Int):Option γ :=
 bif decide (v4<v3) then
 bif decide ((0:Int)≤v4) then
 bif decide (v4.toNat<v2.length) then
 (xs2h ((v2.getD v4.toNat ((0:Int),[])).fst) ((v2.getD v4.toNat ((0:Int),[])).snd)).bind fun (r0:Bool) =>
 bif !r0 then
 ret (Bool.false)
 else
 bif decide ((0:Int)≤v4) then
 bif decide (v4.toNat<v0.length) then
 bif (v2.getD v4.toNat ((0:Int),[])).fst != v0.getD v4.toNat (0:Int) then
 ret (Bool.false)
 else
 lp4 (v0) (v1) (v2) (v3) (IntKind.i64.wrap (v4+(1:Int)))
 else
 none
 else
 none
 else
 none
 else
 none
 else
 ret (Bool.true)
theorem xs30.u:∀ b,xs30.un (xs30.mk b)=b:=fun _ => by kernel_rfl
theorem xs30.eq (v0 v1 v2) {b} (h:xs30.t some xs30.l4 v0 v1 v2=some b):xs30 v0 v1 v2=some b:=eqF xs30.u Tryz.f28 (callT_le E tab) rfl rfl rfl (xs30.t (rR xs30.mk) xs30.q4 v0 v1 v2) (by kernel_rfl) (by unfold xs30.t; repeat' first | exact sR | exact sN | exact sL | apply sC | (apply sB; intro _)) h
theorem xs30.eq4 (v0 v1 v2 v3 v4) {b} (h:xs30.t4 some xs30.l4 v0 v1 v2 v3 v4=some b):xs30.l4 v0 v1 v2 v3 v4=some b:=eqL xs30.u (xs30.t4 (rR xs30.mk) xs30.q4 v0 v1 v2 v3 v4) (by kernel_rfl) (by unfold xs30.t4; repeat' first | exact sR | exact sN | exact sL | apply sC | (apply sB; intro _)) h
def xs2h.s2 (v0:Int) (v1:Zd) (v2:Zd) (v3:Int) (v4:Int):List Cell:=nn 1 (⟨(.box false),[iL v0,.d .fro Yd v1],false,false,false,0,0⟩::nn 4 (vc (.d .fro Yd v2)::vc (iL v3)::vc (iL v4)::nn 55 ([])))
def xs2h.q2:=fun v0 v1 v2 v3 v4 => loopAtL E (callT E tab) 55 Tryz.f55 1 [.r,.l,.r,.b] (xs2h.s2 v0 v1 v2 v3 v4)
def xs2h.l2:=fun v0 v1 v2 v3 v4 => tOf xs2h.mk (xs2h.q2 v0 v1 v2 v3 v4)
def xs2h.t {γ:Type} (ret:(Bool)→Option γ) (lp2:Int→Zd→Zd→Int→Int→Option γ) (v0:Int) (v1:Zd):Option γ :=
 lp2 (v0) (v1) (v1) ((↑v1.length:Int)) ((0:Int))
def xs2h.t2 {γ:Type} (ret:(Bool)→Option γ) (lp2:Int→Zd→Zd→Int→Int→Option γ) (v0:Int) (v1:Zd) (v2:Zd) (v3:Int) (v4:Int):Option γ :=
 bif decide (v4<v3) then
 bif decide ((0:Int)≤v4) then
 bif decide (v4.toNat<v2.length) then
 (xs3j ((v2.getD v4.toNat ([],(0:Int))).fst)).bind fun (r0:Bool) =>
 bif !r0 then
 ret (Bool.false)
 else
 bif (↑(v2.getD v4.toNat ([],(0:Int))).fst.length:Int) != v0 then
 ret (Bool.false)
 else
 (xs2y ((v2.getD v4.toNat ([],(0:Int))).snd)).bind fun (r1:Bool) =>
 bif !r1 then
 ret (Bool.false)
 else
 bif (v2.getD v4.toNat ([],(0:Int))).snd == (0:Int) then
 ret (Bool.false)
 else
 bif decide (v4 > (0:Int)) then
 bif decide ((0:Int)≤IntKind.i64.wrap (v4 - (1:Int))) then
 bif decide ((IntKind.i64.wrap (v4 - (1:Int))).toNat<v1.length) then
 (xs2k ((v1.getD (IntKind.i64.wrap (v4 - (1:Int))).toNat ([],(0:Int))).fst) ((v2.getD v4.toNat ([],(0:Int))).fst)).bind fun (r2:Int) =>
 bif decide (r2 ≥ (0:Int)) then
 ret (Bool.false)
 else
 lp2 (v0) (v1) (v2) (v3) (IntKind.i64.wrap (v4+(1:Int)))
 else
 none
 else
 none
 else
 lp2 (v0) (v1) (v2) (v3) (IntKind.i64.wrap (v4+(1:Int)))
 else
 none
 else
 none
 else
 (xs4h (v0) ((0:Int)) ((6:Int))).bind fun (r3:Bool) =>
 bif r3 then
 ret (decide ((↑v1.length:Int)≤(60:Int)))
 else
 ret (Bool.false)
theorem xs2h.u:∀ b,xs2h.un (xs2h.mk b)=b:=fun _ => by kernel_rfl
theorem xs2h.eq (v0 v1) {b} (h:xs2h.t some xs2h.l2 v0 v1=some b):xs2h v0 v1=some b:=eqF xs2h.u Tryz.f55 (callT_le E tab) rfl rfl rfl (xs2h.t (rR xs2h.mk) xs2h.q2 v0 v1) (by kernel_rfl) (by unfold xs2h.t; repeat' first | exact sR | exact sN | exact sL | apply sC | (apply sB; intro _)) h
theorem xs2h.eq2 (v0 v1 v2 v3 v4) {b} (h:xs2h.t2 some xs2h.l2 v0 v1 v2 v3 v4=some b):xs2h.l2 v0 v1 v2 v3 v4=some b:=eqL xs2h.u (xs2h.t2 (rR xs2h.mk) xs2h.q2 v0 v1 v2 v3 v4) (by kernel_rfl) (by unfold xs2h.t2; repeat' first | exact sR | exact sN | exact sL | apply sC | (apply sB; intro _)) h
def xs3j.s2 (v0:List Int) (v1:List Int) (v2:Int) (v3:Int):List Cell:=nn 1 (⟨(.box false),[.d .fro (.sl (.int .i64)) v0],false,false,false,0,0⟩::nn 4 (vc (.d .fro (.sl (.int .i64)) v1)::vc (iL v2)::vc (iL v3)::nn 11 ([])))
def xs3j.q2:=fun v0 v1 v2 v3 => loopAtL E (callT E tab) 95 Tryz.f95 1 [.r,.l,.r,.b] (xs3j.s2 v0 v1 v2 v3)
def xs3j.l2:=fun v0 v1 v2 v3 => tOf xs3j.mk (xs3j.q2 v0 v1 v2 v3)
def xs3j.t {γ:Type} (ret:(Bool)→Option γ) (lp2:(List Int)→(List Int)→Int→Int→Option γ) (v0:List Int):Option γ :=
 lp2 (v0) (v0) ((↑v0.length:Int)) ((0:Int))
def xs3j.t2 {γ:Type} (ret:(Bool)→Option γ) (lp2:(List Int)→(List Int)→Int→Int→Option γ) (v0:List Int) (v1:List Int) (v2:Int) (v3:Int):Option γ :=
 bif decide (v3<v2) then
 bif decide ((0:Int)≤v3) then
 bif decide (v3.toNat<v1.length) then
 (xs4h (v1.getD v3.toNat (0:Int)) ((-100000:Int)) ((100000:Int))).bind fun (r0:Bool) =>
 bif !r0 then
 ret (Bool.false)
 else
 lp2 (v0) (v1) (v2) (IntKind.i64.wrap (v3+(1:Int)))
 else
 none
 else
 none
 else
 ret (decide ((↑v0.length:Int)≤(6:Int)))
theorem xs3j.u:∀ b,xs3j.un (xs3j.mk b)=b:=fun _ => by kernel_rfl
theorem xs3j.eq (v0) {b} (h:xs3j.t some xs3j.l2 v0=some b):xs3j v0=some b:=eqF xs3j.u Tryz.f95 (callT_le E tab) rfl rfl rfl (xs3j.t (rR xs3j.mk) xs3j.q2 v0) (by kernel_rfl) (by unfold xs3j.t; repeat' first | exact sR | exact sN | exact sL | apply sC | (apply sB; intro _)) h
theorem xs3j.eq2 (v0 v1 v2 v3) {b} (h:xs3j.t2 some xs3j.l2 v0 v1 v2 v3=some b):xs3j.l2 v0 v1 v2 v3=some b:=eqL xs3j.u (xs3j.t2 (rR xs3j.mk) xs3j.q2 v0 v1 v2 v3) (by kernel_rfl) (by unfold xs3j.t2; repeat' first | exact sR | exact sN | exact sL | apply sC | (apply sB; intro _)) h
def xs2y.t {γ:Type} (ret:(Bool)→Option γ) (v0:Int):Option γ :=
 (xs4h (v0) ((-1000000:Int)) ((1000000:Int))).bind fun (r0:Bool) =>
 ret (r0)
theorem xs2y.u:∀ b,xs2y.un (xs2y.mk b)=b:=fun _ => by kernel_rfl
theorem xs2y.eq (v0) {b} (h:xs2y.t some v0=some b):xs2y v0=some b:=eqF xs2y.u Tryz.f96 (callT_le E tab) rfl rfl rfl (xs2y.t (rR xs2y.mk) v0) (by kernel_rfl) (by unfold xs2y.t; repeat' first | exact sR | exact sN | exact sL | apply sC | (apply sB; intro _)) h
def xs2k.s2 (v0:List Int) (v1:List Int) (v2:Int):List Cell:=nn 2 (⟨(.box false),[.d .fro (.sl (.int .i64)) v0],false,false,false,0,0⟩::⟨(.box false),[.d .fro (.sl (.int .i64)) v1],false,false,false,0,0⟩::nn 1 (vc (iL v2)::nn 52 ([])))
def xs2k.q2:=fun v0 v1 v2 => loopAtL E (callT E tab) 97 Tryz.f97 2 [.r,.l,.r,.b] (xs2k.s2 v0 v1 v2)
def xs2k.l2:=fun v0 v1 v2 => tOf xs2k.mk (xs2k.q2 v0 v1 v2)
def xs2k.t {γ:Type} (ret:(Int)→Option γ) (lp2:(List Int)→(List Int)→Int→Option γ) (v0:List Int) (v1:List Int):Option γ :=
 lp2 (v0) (v1) ((0:Int))
def xs2k.t2 {γ:Type} (ret:(Int)→Option γ) (lp2:(List Int)→(List Int)→Int→Option γ) (v0:List Int) (v1:List Int) (v2:Int):Option γ :=
 bif decide (v2<(↑v0.length:Int)) then
 bif decide (v2<(↑v1.length:Int)) then
 bif decide ((0:Int)≤v2) then
 bif decide (v2.toNat<v0.length) then
 bif decide ((0:Int)≤v2) then
 bif decide (v2.toNat<v1.length) then
 bif decide (v0.getD v2.toNat (0:Int)<v1.getD v2.toNat (0:Int)) then
 ret ((-1:Int))
 else
 bif decide ((0:Int)≤v2) then
 bif decide (v2.toNat<v0.length) then
 bif decide ((0:Int)≤v2) then
 bif decide (v2.toNat<v1.length) then
 bif decide (v0.getD v2.toNat (0:Int) > v1.getD v2.toNat (0:Int)) then
 ret ((1:Int))
 else
 lp2 (v0) (v1) (IntKind.i64.wrap (v2+(1:Int)))
 else
 none
 else
 none
 else
 none
 else
 none
 else
 none
 else
 none
 else
 none
 else
 none
 else
 bif decide ((↑v0.length:Int)<(↑v1.length:Int)) then
 ret ((-1:Int))
 else
 bif decide ((↑v0.length:Int) > (↑v1.length:Int)) then
 ret ((1:Int))
 else
 ret ((0:Int))
 else
 bif decide ((↑v0.length:Int)<(↑v1.length:Int)) then
 ret ((-1:Int))
 else
 bif decide ((↑v0.length:Int) > (↑v1.length:Int)) then
 ret ((1:Int))
 else
 ret ((0:Int))
theorem xs2k.u:∀ b,xs2k.un (xs2k.mk b)=b:=fun _ => by kernel_rfl
theorem xs2k.eq (v0 v1) {b} (h:xs2k.t some xs2k.l2 v0 v1=some b):xs2k v0 v1=some b:=eqF xs2k.u Tryz.f97 (callT_le E tab) rfl rfl rfl (xs2k.t (rR xs2k.mk) xs2k.q2 v0 v1) (by kernel_rfl) (by unfold xs2k.t; repeat' first | exact sR | exact sN | exact sL | apply sC | (apply sB; intro _)) h
theorem xs2k.eq2 (v0 v1 v2) {b} (h:xs2k.t2 some xs2k.l2 v0 v1 v2=some b):xs2k.l2 v0 v1 v2=some b:=eqL xs2k.u (xs2k.t2 (rR xs2k.mk) xs2k.q2 v0 v1 v2) (by kernel_rfl) (by unfold xs2k.t2; repeat' first | exact sR | exact sN | exact sL | apply sC | (apply sB; intro _)) h
def xs4g.s4 (v0:Zb) (v1:List Int) (v2:Zb) (v3:Za) (v4:Int) (v5:Int):List Cell:=nn 1 (vc (.d .fro Yb v0)::nn 4 (vc (.d .deep (.sl (.int .i64)) v1)::nn 1 (vc (.d .sha Yb v2)::nn 11 (vc (.d .fro Ya v3)::vc (iL v4)::vc (iL v5)::nn 53 ([])))))
def xs4g.q4:=fun v0 v1 v2 v3 v4 v5 => loopAtL E (callT E tab) 29 Tryz.f29 2 [.r,.r,.r,.l,.r,.b] (xs4g.s4 v0 v1 v2 v3 v4 v5)
def xs4g.l4:=fun v0 v1 v2 v3 v4 v5 => tOf xs4g.mk (xs4g.q4 v0 v1 v2 v3 v4 v5)
def xs4g.t {γ:Type} (ret:(Zb × Bool)→Option γ) (lp4:Zb→(List Int)→Zb→Za→Int→Int→Option γ) (v0:List Int) (v1:Za) (v2:Zb):Option γ :=
 (xs3n (v0) (v1)).bind fun (r0:(List Int) × Bool) =>
 lp4 (v2) (r0.fst) ([]) (v1) ((↑v1.length:Int)) ((0:Int))
def xs4g.t4 {γ:Type} (ret:(Zb × Bool)→Option γ) (lp4:Zb→(List Int)→Zb→Za→Int→Int→Option γ) (v0:Zb) (v1:List Int) (v2:Zb) (v3:Za) (v4:Int) (v5:Int):Option γ :=
 bif decide (v5<v4) then
 bif decide ((0:Int)≤v5) then
 bif decide (v5.toNat<v3.length) then
 bif (v3.getD v5.toNat ((0:Int),(0:Int),(0:Int),[],[],[])).fst == (4:Int) then
 bif decide ((0:Int)≤(v3.getD v5.toNat ((0:Int),(0:Int),(0:Int),[],[],[])).snd.fst) then
 bif decide ((v3.getD v5.toNat ((0:Int),(0:Int),(0:Int),[],[],[])).snd.fst.toNat<v2.length) then
 bif decide ((v3.getD v5.toNat ((0:Int),(0:Int),(0:Int),[],[],[])).snd.fst.toNat<v2.length) then
 bif decide ((0:Int)≤(v3.getD v5.toNat ((0:Int),(0:Int),(0:Int),[],[],[])).snd.snd.fst) then
 bif decide ((v3.getD v5.toNat ((0:Int),(0:Int),(0:Int),[],[],[])).snd.snd.fst.toNat<v2.length) then
 bif decide ((v3.getD v5.toNat ((0:Int),(0:Int),(0:Int),[],[],[])).snd.snd.fst.toNat<v2.length) then
 (xs48 ((v2.getD (v3.getD v5.toNat ((0:Int),(0:Int),(0:Int),[],[],[])).snd.fst.toNat ((0:Int),[])).snd) ((v2.getD (v3.getD v5.toNat ((0:Int),(0:Int),(0:Int),[],[],[])).snd.snd.fst.toNat ((0:Int),[])).snd) ((v3.getD v5.toNat ((0:Int),(0:Int),(0:Int),[],[],[])).snd.snd.snd.snd.snd)).bind fun (r1:Zd) =>
 bif decide ((0:Int)≤v5) then
 bif decide (v5.toNat<v1.length) then
 bif decide (v5.toNat<v1.length) then
 (xs47 (v1.getD v5.toNat (0:Int)) (r1)).bind fun (r2:Int × Zd × Bool) =>
 bif !r2.snd.snd then
 ret ([],Bool.false)
 else
 bif decide (v2.length+[(r2.fst,r2.snd.fst)].length≤(4294967296:Nat)) then
 lp4 (v0) (v1) (v2 ++ [(r2.fst,r2.snd.fst)]) (v3) (v4) (IntKind.i64.wrap (v5+(1:Int)))
 else
 none
 else
 none
 else
 none
 else
 none
 else
 none
 else
 none
 else
 none
 else
 none
 else
 none
 else
 none
 else
 bif (v3.getD v5.toNat ((0:Int),(0:Int),(0:Int),[],[],[])).fst == (7:Int) then
 bif decide ((0:Int)≤(v3.getD v5.toNat ((0:Int),(0:Int),(0:Int),[],[],[])).snd.fst) then
 bif decide ((v3.getD v5.toNat ((0:Int),(0:Int),(0:Int),[],[],[])).snd.fst.toNat<v2.length) then
 bif decide ((v3.getD v5.toNat ((0:Int),(0:Int),(0:Int),[],[],[])).snd.fst.toNat<v2.length) then
 (xs29 ((v2.getD (v3.getD v5.toNat ((0:Int),(0:Int),(0:Int),[],[],[])).snd.fst.toNat ((0:Int),[])).snd)).bind fun (r3:Zd) =>
 bif decide ((0:Int)≤v5) then
 bif decide (v5.toNat<v1.length) then
 bif decide (v5.toNat<v1.length) then
 (xs47 (v1.getD v5.toNat (0:Int)) (r3)).bind fun (r4:Int × Zd × Bool) =>
 bif !r4.snd.snd then
 ret ([],Bool.false)
 else
 bif decide (v2.length+[(r4.fst,r4.snd.fst)].length≤(4294967296:Nat)) then
 lp4 (v0) (v1) (v2 ++ [(r4.fst,r4.snd.fst)]) (v3) (v4) (IntKind.i64.wrap (v5+(1:Int)))
 else
 none
 else
 none
 else
 none
 else
 none
 else
 none
 else
 none
 else
 none
 else
 (xs2a ((v3.getD v5.toNat ((0:Int),(0:Int),(0:Int),[],[],[])).fst) ((v3.getD v5.toNat ((0:Int),(0:Int),(0:Int),[],[],[])).snd.fst) ((v3.getD v5.toNat ((0:Int),(0:Int),(0:Int),[],[],[])).snd.snd.fst) ((v3.getD v5.toNat ((0:Int),(0:Int),(0:Int),[],[],[])).snd.snd.snd.fst) ((v3.getD v5.toNat ((0:Int),(0:Int),(0:Int),[],[],[])).snd.snd.snd.snd.fst) ((v3.getD v5.toNat ((0:Int),(0:Int),(0:Int),[],[],[])).snd.snd.snd.snd.snd) (v0) (v2)).bind fun (r5:Zd × Zb × Zb) =>
 bif decide ((0:Int)≤v5) then
 bif decide (v5.toNat<v1.length) then
 bif decide (v5.toNat<v1.length) then
 (xs47 (v1.getD v5.toNat (0:Int)) (r5.fst)).bind fun (r6:Int × Zd × Bool) =>
 bif !r6.snd.snd then
 ret ([],Bool.false)
 else
 bif decide (r5.snd.snd.length+[(r6.fst,r6.snd.fst)].length≤(4294967296:Nat)) then
 lp4 (v0) (v1) (r5.snd.snd ++ [(r6.fst,r6.snd.fst)]) (v3) (v4) (IntKind.i64.wrap (v5+(1:Int)))
 else
 none
 else
 none
 else
 none
 else
 none
 else
 none
 else
 none
 else
 ret (v2,Bool.true)
theorem xs4g.u:∀ b,xs4g.un (xs4g.mk b)=b:=fun _ => by kernel_rfl
theorem xs4g.eq (v0 v1 v2) {b} (h:xs4g.t some xs4g.l4 v0 v1 v2=some b):xs4g v0 v1 v2=some b:=eqF xs4g.u Tryz.f29 (callT_le E tab) rfl rfl rfl (xs4g.t (rR xs4g.mk) xs4g.q4 v0 v1 v2) (by kernel_rfl) (by unfold xs4g.t; repeat' first | exact sR | exact sN | exact sL | apply sC | (apply sB; intro _)) h
theorem xs4g.eq4 (v0 v1 v2 v3 v4 v5) {b} (h:xs4g.t4 some xs4g.l4 v0 v1 v2 v3 v4 v5=some b):xs4g.l4 v0 v1 v2 v3 v4 v5=some b:=eqL xs4g.u (xs4g.t4 (rR xs4g.mk) xs4g.q4 v0 v1 v2 v3 v4 v5) (by kernel_rfl) (by unfold xs4g.t4; repeat' first | exact sR | exact sN | exact sL | apply sC | (apply sB; intro _)) h
def xs48.s6 (v0:Zd) (v1:Zg) (v2:Zd) (v3:List Int) (v4:Int) (v5:Zd) (v6:Int) (v7:Int) (v8:Zd) (v9:Int) (v10:Int):List Cell:=nn 1 (vc (.d .fro Yd v0)::vc (.d .fro Ye v1)::nn 4 (vc (.d .sha Yd v2)::nn 1 (⟨(.box false),[.d .fro (.sl (.int .i64)) v3,iL v4],false,false,false,0,0⟩::nn 4 (vc (.d .fro Yd v5)::vc (iL v6)::vc (iL v7)::nn 3 (vc (.d .fro Yd v8)::vc (iL v9)::vc (iL v10)::nn 24 ([]))))))
def xs48.q6:=fun v0 v1 v2 v3 v4 v5 v6 v7 v8 v9 v10 => loopAtL E (callT E tab) 56 Tryz.f56 3 [.r,.r,.l,.r,.b,.o,.r,.r,.l,.b,.r,.r,.b] (xs48.s6 v0 v1 v2 v3 v4 v5 v6 v7 v8 v9 v10)
def xs48.l6:=fun v0 v1 v2 v3 v4 v5 v6 v7 v8 v9 v10 => tOf xs48.mk (xs48.q6 v0 v1 v2 v3 v4 v5 v6 v7 v8 v9 v10)
def xs48.s3 (v0:Zd) (v1:Zg) (v2:Zd) (v3:Zd) (v4:Int) (v5:Int):List Cell:=nn 1 (vc (.d .fro Yd v0)::vc (.d .fro Ye v1)::nn 4 (vc (.d .sha Yd v2)::nn 6 (vc (.d .fro Yd v3)::vc (iL v4)::vc (iL v5)::nn 30 ([]))))
def xs48.q3:=fun v0 v1 v2 v3 v4 v5 => loopAtL E (callT E tab) 56 Tryz.f56 3 [.r,.r,.l,.r,.b] (xs48.s3 v0 v1 v2 v3 v4 v5)
def xs48.l3:=fun v0 v1 v2 v3 v4 v5 => tOf xs48.mk (xs48.q3 v0 v1 v2 v3 v4 v5)
def xs48.t {γ:Type} (ret:(Zd)→Option γ) (lp3:Zd→Zg→Zd→Zd→Int→Int→Option γ) (v0:Zd) (v1:Zd) (v2:Zg):Option γ :=
 lp3 (v1) (v2) ([]) (v0) ((↑v0.length:Int)) ((0:Int))
def xs48.t6 {γ:Type} (ret:(Zd)→Option γ) (lp6:Zd→Zg→Zd→(List Int)→Int→Zd→Int→Int→Zd→Int→Int→Option γ) (lp3:Zd→Zg→Zd→Zd→Int→Int→Option γ) (v0:Zd) (v1:Zg) (v2:Zd) (v3:List Int) (v4:Int) (v5:Zd) (v6:Int) (v7:Int) (v8:Zd) (v9:Int) (v10:Int):Option γ :=
 bif decide (v10<v9) then
 bif decide ((0:Int)≤v10) then
 bif decide (v10.toNat<v8.length) then
 (xs45 (v3) ((v8.getD v10.toNat ([],(0:Int))).fst) (v1)).bind fun (r0:(List Int) × Bool) =>
 bif r0.snd then
 (xs4f (v2) (r0.fst) (IntKind.i64.wrap (v4 * (v8.getD v10.toNat ([],(0:Int))).snd))).bind fun (r1:Zd) =>
 lp6 (v0) (v1) (r1) (v3) (v4) (v5) (v6) (v7) (v8) (v9) (IntKind.i64.wrap (v10+(1:Int)))
 else
 lp6 (v0) (v1) (v2) (v3) (v4) (v5) (v6) (v7) (v8) (v9) (IntKind.i64.wrap (v10+(1:Int)))
 else
 none
 else
 none
 else
 lp3 (v0) (v1) (v2) (v5) (v6) (IntKind.i64.wrap (v7+(1:Int)))
def xs48.t3 {γ:Type} (ret:(Zd)→Option γ) (lp6:Zd→Zg→Zd→(List Int)→Int→Zd→Int→Int→Zd→Int→Int→Option γ) (v0:Zd) (v1:Zg) (v2:Zd) (v3:Zd) (v4:Int) (v5:Int):Option γ :=
 bif decide (v5<v4) then
 bif decide ((0:Int)≤v5) then
 bif decide (v5.toNat<v3.length) then
 lp6 (v0) (v1) (v2) ((v3.getD v5.toNat ([],(0:Int))).fst) ((v3.getD v5.toNat ([],(0:Int))).snd) (v3) (v4) (v5) (v0) ((↑v0.length:Int)) ((0:Int))
 else
 none
 else
 none
 else
 ret (v2)
theorem xs48.u:∀ b,xs48.un (xs48.mk b)=b:=fun _ => by kernel_rfl
theorem xs48.eq (v0 v1 v2) {b} (h:xs48.t some xs48.l3 v0 v1 v2=some b):xs48 v0 v1 v2=some b:=eqF xs48.u Tryz.f56 (callT_le E tab) rfl rfl rfl (xs48.t (rR xs48.mk) xs48.q3 v0 v1 v2) (by kernel_rfl) (by unfold xs48.t; repeat' first | exact sR | exact sN | exact sL | apply sC | (apply sB; intro _)) h
theorem xs48.eq6 (v0 v1 v2 v3 v4 v5 v6 v7 v8 v9 v10) {b} (h:xs48.t6 some xs48.l6 xs48.l3 v0 v1 v2 v3 v4 v5 v6 v7 v8 v9 v10=some b):xs48.l6 v0 v1 v2 v3 v4 v5 v6 v7 v8 v9 v10=some b:=eqL xs48.u (xs48.t6 (rR xs48.mk) xs48.q6 xs48.q3 v0 v1 v2 v3 v4 v5 v6 v7 v8 v9 v10) (by kernel_rfl) (by unfold xs48.t6; repeat' first | exact sR | exact sN | exact sL | apply sC | (apply sB; intro _)) h
theorem xs48.eq3 (v0 v1 v2 v3 v4 v5) {b} (h:xs48.t3 some xs48.l6 v0 v1 v2 v3 v4 v5=some b):xs48.l3 v0 v1 v2 v3 v4 v5=some b:=eqL xs48.u (xs48.t3 (rR xs48.mk) xs48.q6 v0 v1 v2 v3 v4 v5) (by kernel_rfl) (by unfold xs48.t3; repeat' first | exact sR | exact sN | exact sL | apply sC | (apply sB; intro _)) h
def xs45.s13 (v0:Zg) (v1:List Int) (v2:List Int) (v3:Int) (v4:Int) (v5:Bool) (v6:List Int) (v7:Int) (v8:Int) (v9:Zg) (v10:Int) (v11:Int):List Cell:=nn 2 (vc (.d .fro Ye v0)::nn 3 (⟨(.box false),[.d .deep (.sl (.int .i64)) v1],false,false,false,0,0⟩::nn 1 (⟨(.box false),[.d .deep (.sl (.int .i64)) v2],false,false,false,0,0⟩::nn 2 (vc (iL v3)::vc (iL v4)::vc (bL v5)::nn 31 (vc (.d .fro (.sl (.int .i64)) v6)::vc (iL v7)::vc (iL v8)::nn 4 (vc (.d .fro Ye v9)::vc (iL v10)::vc (iL v11)::nn 26 ([])))))))
def xs45.q13:=fun v0 v1 v2 v3 v4 v5 v6 v7 v8 v9 v10 v11 => loopAtL E (callT E tab) 98 Tryz.f98 3 [.r,.r,.r,.l,.r,.b,.o,.r,.r,.l,.b,.r,.r,.l,.r,.b] (xs45.s13 v0 v1 v2 v3 v4 v5 v6 v7 v8 v9 v10 v11)
def xs45.l13:=fun v0 v1 v2 v3 v4 v5 v6 v7 v8 v9 v10 v11 => tOf xs45.mk (xs45.q13 v0 v1 v2 v3 v4 v5 v6 v7 v8 v9 v10 v11)
def xs45.s9 (v0:Zg) (v1:List Int) (v2:List Int) (v3:List Int) (v4:Int) (v5:Int):List Cell:=nn 2 (vc (.d .fro Ye v0)::nn 3 (⟨(.box false),[.d .deep (.sl (.int .i64)) v1],false,false,false,0,0⟩::nn 1 (⟨(.box false),[.d .deep (.sl (.int .i64)) v2],false,false,false,0,0⟩::nn 36 (vc (.d .fro (.sl (.int .i64)) v3)::vc (iL v4)::vc (iL v5)::nn 33 ([])))))
def xs45.q9:=fun v0 v1 v2 v3 v4 v5 => loopAtL E (callT E tab) 98 Tryz.f98 3 [.r,.r,.r,.l,.r,.b] (xs45.s9 v0 v1 v2 v3 v4 v5)
def xs45.l9:=fun v0 v1 v2 v3 v4 v5 => tOf xs45.mk (xs45.q9 v0 v1 v2 v3 v4 v5)
def xs45.s3 (v0:Zg) (v1:List Int) (v2:List Int) (v3:List Int) (v4:List Int) (v5:Zg) (v6:Int) (v7:Int):List Cell:=nn 2 (vc (.d .fro Ye v0)::⟨(.box false),[.d .fro (.sl (.int .i64)) v1],false,false,false,0,0⟩::⟨(.box false),[.d .fro (.sl (.int .i64)) v2],false,false,false,0,0⟩::nn 1 (⟨(.box false),[.d .deep (.sl (.int .i64)) v3],false,false,false,0,0⟩::nn 1 (⟨(.box false),[.d .deep (.sl (.int .i64)) v4],false,false,false,0,0⟩::nn 12 (vc (.d .fro Ye v5)::vc (iL v6)::vc (iL v7)::nn 57 ([])))))
def xs45.q3:=fun v0 v1 v2 v3 v4 v5 v6 v7 => loopAtL E (callT E tab) 98 Tryz.f98 3 [.r,.r,.l,.r,.b] (xs45.s3 v0 v1 v2 v3 v4 v5 v6 v7)
def xs45.l3:=fun v0 v1 v2 v3 v4 v5 v6 v7 => tOf xs45.mk (xs45.q3 v0 v1 v2 v3 v4 v5 v6 v7)
def xs45.t {γ:Type} (ret:((List Int) × Bool)→Option γ) (lp3:Zg→(List Int)→(List Int)→(List Int)→(List Int)→Zg→Int→Int→Option γ) (v0:List Int) (v1:List Int) (v2:Zg):Option γ :=
 bif decide (([]:List Int).length+v0.length≤(4294967296:Nat)) then
 lp3 (v2) (v0) (v1) ([]) ([] ++ v0) (v2) ((↑v2.length:Int)) ((0:Int))
 else
 none
def xs45.t13 {γ:Type} (ret:((List Int) × Bool)→Option γ) (lp13:Zg→(List Int)→(List Int)→Int→Int→Bool→(List Int)→Int→Int→Zg→Int→Int→Option γ) (lp9:Zg→(List Int)→(List Int)→(List Int)→Int→Int→Option γ) (v0:Zg) (v1:List Int) (v2:List Int) (v3:Int) (v4:Int) (v5:Bool) (v6:List Int) (v7:Int) (v8:Int) (v9:Zg) (v10:Int) (v11:Int):Option γ :=
 bif decide (v11<v10) then
 bif decide ((0:Int)≤v11) then
 bif decide (v11.toNat<v9.length) then
 bif v5 then
 lp13 (v0) (v1) (v2) (v3) (v4) (Bool.true) (v6) (v7) (v8) (v9) (v10) (IntKind.i64.wrap (v11+(1:Int)))
 else
 bif decide (Int.toNat (1:Int)<(v9.getD v11.toNat []).length) then
 lp13 (v0) (v1) (v2) (v3) (v4) ((v9.getD v11.toNat []).getD (Int.toNat (1:Int)) (0:Int) == v3) (v6) (v7) (v8) (v9) (v10) (IntKind.i64.wrap (v11+(1:Int)))
 else
 none
 else
 none
 else
 none
 else
 bif !v5 then
 bif decide (v2.length+[v4].length≤(4294967296:Nat)) then
 lp9 (v0) (v1) (v2 ++ [v4]) (v6) (v7) (IntKind.i64.wrap (v8+(1:Int)))
 else
 none
 else
 lp9 (v0) (v1) (v2) (v6) (v7) (IntKind.i64.wrap (v8+(1:Int)))
def xs45.t9 {γ:Type} (ret:((List Int) × Bool)→Option γ) (lp13:Zg→(List Int)→(List Int)→Int→Int→Bool→(List Int)→Int→Int→Zg→Int→Int→Option γ) (v0:Zg) (v1:List Int) (v2:List Int) (v3:List Int) (v4:Int) (v5:Int):Option γ :=
 bif decide (v5<v4) then
 bif decide ((0:Int)≤v5) then
 bif decide (v5.toNat<v3.length) then
 lp13 (v0) (v1) (v2) (v5) (v3.getD v5.toNat (0:Int)) (Bool.false) (v3) (v4) (v5) (v0) ((↑v0.length:Int)) ((0:Int))
 else
 none
 else
 none
 else
 ret (v2,decide ((↑v2.length:Int)≤(6:Int)))
def xs45.t3 {γ:Type} (ret:((List Int) × Bool)→Option γ) (lp9:Zg→(List Int)→(List Int)→(List Int)→Int→Int→Option γ) (lp3:Zg→(List Int)→(List Int)→(List Int)→(List Int)→Zg→Int→Int→Option γ) (v0:Zg) (v1:List Int) (v2:List Int) (v3:List Int) (v4:List Int) (v5:Zg) (v6:Int) (v7:Int):Option γ :=
 bif decide (v7<v6) then
 bif decide ((0:Int)≤v7) then
 bif decide (v7.toNat<v5.length) then
 bif decide (Int.toNat (0:Int)<(v5.getD v7.toNat []).length) then
 bif decide ((0:Int)≤(v5.getD v7.toNat []).getD (Int.toNat (0:Int)) (0:Int)) then
 bif decide (((v5.getD v7.toNat []).getD (Int.toNat (0:Int)) (0:Int)).toNat<v1.length) then
 bif decide (Int.toNat (1:Int)<(v5.getD v7.toNat []).length) then
 bif decide ((0:Int)≤(v5.getD v7.toNat []).getD (Int.toNat (1:Int)) (0:Int)) then
 bif decide (((v5.getD v7.toNat []).getD (Int.toNat (1:Int)) (0:Int)).toNat<v2.length) then
 bif v1.getD ((v5.getD v7.toNat []).getD (Int.toNat (0:Int)) (0:Int)).toNat (0:Int) !=   v2.getD ((v5.getD v7.toNat []).getD (Int.toNat (1:Int)) (0:Int)).toNat (0:Int) then
 ret ([],Bool.false)
 else
 lp3 (v0) (v1) (v2) (v3) (v4) (v5) (v6) (IntKind.i64.wrap (v7+(1:Int)))
 else
 none
 else
 none
 else
 none
 else
 none
 else
 none
 else
 none
 else
 none
 else
 none
 else
 lp9 (v0) (v3) (v4) (v2) ((↑v2.length:Int)) ((0:Int))
theorem xs45.u:∀ b,xs45.un (xs45.mk b)=b:=fun _ => by kernel_rfl
theorem xs45.eq (v0 v1 v2) {b} (h:xs45.t some xs45.l3 v0 v1 v2=some b):xs45 v0 v1 v2=some b:=eqF xs45.u Tryz.f98 (callT_le E tab) rfl rfl rfl (xs45.t (rR xs45.mk) xs45.q3 v0 v1 v2) (by kernel_rfl) (by unfold xs45.t; repeat' first | exact sR | exact sN | exact sL | apply sC | (apply sB; intro _)) h
theorem xs45.eq13 (v0 v1 v2 v3 v4 v5 v6 v7 v8 v9 v10 v11) {b} (h:xs45.t13 some xs45.l13 xs45.l9 v0 v1 v2 v3 v4 v5 v6 v7 v8 v9 v10 v11=some b):xs45.l13 v0 v1 v2 v3 v4 v5 v6 v7 v8 v9 v10 v11=some b:=eqL xs45.u (xs45.t13 (rR xs45.mk) xs45.q13 xs45.q9 v0 v1 v2 v3 v4 v5 v6 v7 v8 v9 v10 v11) (by kernel_rfl) (by unfold xs45.t13; repeat' first | exact sR | exact sN | exact sL | apply sC | (apply sB; intro _)) h
theorem xs45.eq9 (v0 v1 v2 v3 v4 v5) {b} (h:xs45.t9 some xs45.l13 v0 v1 v2 v3 v4 v5=some b):xs45.l9 v0 v1 v2 v3 v4 v5=some b:=eqL xs45.u (xs45.t9 (rR xs45.mk) xs45.q13 v0 v1 v2 v3 v4 v5) (by kernel_rfl) (by unfold xs45.t9; repeat' first | exact sR | exact sN | exact sL | apply sC | (apply sB; intro _)) h
theorem xs45.eq3 (v0 v1 v2 v3 v4 v5 v6 v7) {b} (h:xs45.t3 some xs45.l9 xs45.l3 v0 v1 v2 v3 v4 v5 v6 v7=some b):xs45.l3 v0 v1 v2 v3 v4 v5 v6 v7=some b:=eqL xs45.u (xs45.t3 (rR xs45.mk) xs45.q9 xs45.q3 v0 v1 v2 v3 v4 v5 v6 v7) (by kernel_rfl) (by unfold xs45.t3; repeat' first | exact sR | exact sN | exact sL | apply sC | (apply sB; intro _)) h
def xs4f.s2 (v0:Zd) (v1:Int) (v2:List Int) (v3:Int):List Cell:=vc (.d .fro Yd v0)::nn 1 (vc (iL v1)::nn 1 (⟨(.box false),[.d .fro (.sl (.int .i64)) v2],false,false,false,0,0⟩::nn 2 (vc (iL v3)::nn 64 ([]))))
def xs4f.q2:=fun v0 v1 v2 v3 => loopAtL E (callT E tab) 99 Tryz.f99 3 [.r,.r,.l,.b] (xs4f.s2 v0 v1 v2 v3)
def xs4f.l2:=fun v0 v1 v2 v3 => tOf xs4f.mk (xs4f.q2 v0 v1 v2 v3)
def xs4f.t {γ:Type} (ret:(Zd)→Option γ) (lp2:Zd→Int→(List Int)→Int→Option γ) (v0:Zd) (v1:List Int) (v2:Int):Option γ :=
 lp2 (v0) (v2) (v1) ((0:Int))
def xs4f.t2 {γ:Type} (ret:(Zd)→Option γ) (lp2:Zd→Int→(List Int)→Int→Option γ) (v0:Zd) (v1:Int) (v2:List Int) (v3:Int):Option γ :=
 bif decide (v3<(↑v0.length:Int)) then
 bif decide ((0:Int)≤v3) then
 bif decide (v3.toNat<v0.length) then
 (xs2k ((v0.getD v3.toNat ([],(0:Int))).fst) (v2)).bind fun (r0:Int) =>
 bif decide (r0<(0:Int)) then
 lp2 (v0) (v1) (v2) (IntKind.i64.wrap (v3+(1:Int)))
 else
 bif decide (Option.none.getD (0:Int)≤v3) then
 bif decide (v3≤(↑v0.length:Int)) then
 bif decide   ((List.take (v3 - Option.none.getD (0:Int)).toNat (List.drop (Option.none.getD (0:Int)).toNat v0)).length≤    (4294967296:Nat)) then
 (xs2x (v2)).bind fun (r1:(List Int)) =>
 bif decide (v3<(↑v0.length:Int)) then
 bif decide ((0:Int)≤v3) then
 bif decide (v3.toNat<v0.length) then
 (xs2k ((v0.getD v3.toNat ([],(0:Int))).fst) (v2)).bind fun (r2:Int) =>
 bif r2 == (0:Int) then
 bif decide ((0:Int)≤v3) then
 bif decide (v3.toNat<v0.length) then
 bif IntKind.i64.wrap (v1+(v0.getD v3.toNat ([],(0:Int))).snd) != (0:Int) then
 bif decide   ((List.take (v3 - Option.none.getD (0:Int)).toNat (List.drop (Option.none.getD (0:Int)).toNat v0)).length+      [(r1,IntKind.i64.wrap (v1+(v0.getD v3.toNat ([],(0:Int))).snd))].length≤    (4294967296:Nat)) then
 bif decide ((0:Int)≤(Option.some (IntKind.i64.wrap (v3+(1:Int)))).getD (0:Int)) then
 bif decide ((Option.some (IntKind.i64.wrap (v3+(1:Int)))).getD (0:Int)≤(↑v0.length:Int)) then
 bif decide   ((List.take (v3 - Option.none.getD (0:Int)).toNat (List.drop (Option.none.getD (0:Int)).toNat v0) ++           [(r1,IntKind.i64.wrap (v1+(v0.getD v3.toNat ([],(0:Int))).snd))]).length+      (List.drop ((Option.some (IntKind.i64.wrap (v3+(1:Int)))).getD (0:Int)).toNat v0).length≤    (4294967296:Nat)) then
 ret (List.take (v3 - Option.none.getD (0:Int)).toNat (List.drop (Option.none.getD (0:Int)).toNat v0) ++     [(r1,IntKind.i64.wrap (v1+(v0.getD v3.toNat ([],(0:Int))).snd))] ++   List.drop ((Option.some (IntKind.i64.wrap (v3+(1:Int)))).getD (0:Int)).toNat v0)
 else
 none
 else
 none
 else
 none
 else
 none
 else
 bif decide ((0:Int)≤(Option.some (IntKind.i64.wrap (v3+(1:Int)))).getD (0:Int)) then
 bif decide ((Option.some (IntKind.i64.wrap (v3+(1:Int)))).getD (0:Int)≤(↑v0.length:Int)) then
 bif decide   ((List.take (v3 - Option.none.getD (0:Int)).toNat (List.drop (Option.none.getD (0:Int)).toNat v0)).length+      (List.drop ((Option.some (IntKind.i64.wrap (v3+(1:Int)))).getD (0:Int)).toNat v0).length≤    (4294967296:Nat)) then
 ret (List.take (v3 - Option.none.getD (0:Int)).toNat (List.drop (Option.none.getD (0:Int)).toNat v0) ++   List.drop ((Option.some (IntKind.i64.wrap (v3+(1:Int)))).getD (0:Int)).toNat v0)
 else
 none
 else
 none
 else
 none
 else
 none
 else
 none
 else
 bif v1 != (0:Int) then
 bif decide   ((List.take (v3 - Option.none.getD (0:Int)).toNat (List.drop (Option.none.getD (0:Int)).toNat v0)).length+      [(r1,v1)].length≤    (4294967296:Nat)) then
 bif decide ((0:Int)≤(Option.some v3).getD (0:Int)) then
 bif decide ((Option.some v3).getD (0:Int)≤(↑v0.length:Int)) then
 bif decide   ((List.take (v3 - Option.none.getD (0:Int)).toNat (List.drop (Option.none.getD (0:Int)).toNat v0) ++           [(r1,v1)]).length+      (List.drop ((Option.some v3).getD (0:Int)).toNat v0).length≤    (4294967296:Nat)) then
 ret (List.take (v3 - Option.none.getD (0:Int)).toNat (List.drop (Option.none.getD (0:Int)).toNat v0) ++ [(r1,v1)] ++   List.drop ((Option.some v3).getD (0:Int)).toNat v0)
 else
 none
 else
 none
 else
 none
 else
 none
 else
 bif decide ((0:Int)≤(Option.some v3).getD (0:Int)) then
 bif decide ((Option.some v3).getD (0:Int)≤(↑v0.length:Int)) then
 bif decide   ((List.take (v3 - Option.none.getD (0:Int)).toNat (List.drop (Option.none.getD (0:Int)).toNat v0)).length+      (List.drop ((Option.some v3).getD (0:Int)).toNat v0).length≤    (4294967296:Nat)) then
 ret (List.take (v3 - Option.none.getD (0:Int)).toNat (List.drop (Option.none.getD (0:Int)).toNat v0) ++   List.drop ((Option.some v3).getD (0:Int)).toNat v0)
 else
 none
 else
 none
 else
 none
 else
 none
 else
 none
 else
 bif v1 != (0:Int) then
 bif decide   ((List.take (v3 - Option.none.getD (0:Int)).toNat (List.drop (Option.none.getD (0:Int)).toNat v0)).length+      [(r1,v1)].length≤    (4294967296:Nat)) then
 bif decide ((0:Int)≤(Option.some v3).getD (0:Int)) then
 bif decide ((Option.some v3).getD (0:Int)≤(↑v0.length:Int)) then
 bif decide   ((List.take (v3 - Option.none.getD (0:Int)).toNat (List.drop (Option.none.getD (0:Int)).toNat v0) ++           [(r1,v1)]).length+      (List.drop ((Option.some v3).getD (0:Int)).toNat v0).length≤    (4294967296:Nat)) then
 ret (List.take (v3 - Option.none.getD (0:Int)).toNat (List.drop (Option.none.getD (0:Int)).toNat v0) ++ [(r1,v1)] ++   List.drop ((Option.some v3).getD (0:Int)).toNat v0)
 else
 none
 else
 none
 else
 none
 else
 none
 else
 bif decide ((0:Int)≤(Option.some v3).getD (0:Int)) then
 bif decide ((Option.some v3).getD (0:Int)≤(↑v0.length:Int)) then
 bif decide   ((List.take (v3 - Option.none.getD (0:Int)).toNat (List.drop (Option.none.getD (0:Int)).toNat v0)).length+      (List.drop ((Option.some v3).getD (0:Int)).toNat v0).length≤    (4294967296:Nat)) then
 ret (List.take (v3 - Option.none.getD (0:Int)).toNat (List.drop (Option.none.getD (0:Int)).toNat v0) ++   List.drop ((Option.some v3).getD (0:Int)).toNat v0)
 else
 none
 else
 none
 else
 none
 else
 none
 else
 none
 else
 none
 else
 none
 else
 none
 else
 bif decide (Option.none.getD (0:Int)≤v3) then
 bif decide (v3≤(↑v0.length:Int)) then
 bif decide   ((List.take (v3 - Option.none.getD (0:Int)).toNat (List.drop (Option.none.getD (0:Int)).toNat v0)).length≤    (4294967296:Nat)) then
 (xs2x (v2)).bind fun (r3:(List Int)) =>
 bif decide (v3<(↑v0.length:Int)) then
 bif decide ((0:Int)≤v3) then
 bif decide (v3.toNat<v0.length) then
 (xs2k ((v0.getD v3.toNat ([],(0:Int))).fst) (v2)).bind fun (r4:Int) =>
 bif r4 == (0:Int) then
 bif decide ((0:Int)≤v3) then
 bif decide (v3.toNat<v0.length) then
 bif IntKind.i64.wrap (v1+(v0.getD v3.toNat ([],(0:Int))).snd) != (0:Int) then
 bif decide   ((List.take (v3 - Option.none.getD (0:Int)).toNat (List.drop (Option.none.getD (0:Int)).toNat v0)).length+      [(r3,IntKind.i64.wrap (v1+(v0.getD v3.toNat ([],(0:Int))).snd))].length≤    (4294967296:Nat)) then
 bif decide ((0:Int)≤(Option.some (IntKind.i64.wrap (v3+(1:Int)))).getD (0:Int)) then
 bif decide ((Option.some (IntKind.i64.wrap (v3+(1:Int)))).getD (0:Int)≤(↑v0.length:Int)) then
 bif decide   ((List.take (v3 - Option.none.getD (0:Int)).toNat (List.drop (Option.none.getD (0:Int)).toNat v0) ++           [(r3,IntKind.i64.wrap (v1+(v0.getD v3.toNat ([],(0:Int))).snd))]).length+      (List.drop ((Option.some (IntKind.i64.wrap (v3+(1:Int)))).getD (0:Int)).toNat v0).length≤    (4294967296:Nat)) then
 ret (List.take (v3 - Option.none.getD (0:Int)).toNat (List.drop (Option.none.getD (0:Int)).toNat v0) ++     [(r3,IntKind.i64.wrap (v1+(v0.getD v3.toNat ([],(0:Int))).snd))] ++   List.drop ((Option.some (IntKind.i64.wrap (v3+(1:Int)))).getD (0:Int)).toNat v0)
 else
 none
 else
 none
 else
 none
 else
 none
 else
 bif decide ((0:Int)≤(Option.some (IntKind.i64.wrap (v3+(1:Int)))).getD (0:Int)) then
 bif decide ((Option.some (IntKind.i64.wrap (v3+(1:Int)))).getD (0:Int)≤(↑v0.length:Int)) then
 bif decide   ((List.take (v3 - Option.none.getD (0:Int)).toNat (List.drop (Option.none.getD (0:Int)).toNat v0)).length+      (List.drop ((Option.some (IntKind.i64.wrap (v3+(1:Int)))).getD (0:Int)).toNat v0).length≤    (4294967296:Nat)) then
 ret (List.take (v3 - Option.none.getD (0:Int)).toNat (List.drop (Option.none.getD (0:Int)).toNat v0) ++   List.drop ((Option.some (IntKind.i64.wrap (v3+(1:Int)))).getD (0:Int)).toNat v0)
 else
 none
 else
 none
 else
 none
 else
 none
 else
 none
 else
 bif v1 != (0:Int) then
 bif decide   ((List.take (v3 - Option.none.getD (0:Int)).toNat (List.drop (Option.none.getD (0:Int)).toNat v0)).length+      [(r3,v1)].length≤    (4294967296:Nat)) then
 bif decide ((0:Int)≤(Option.some v3).getD (0:Int)) then
 bif decide ((Option.some v3).getD (0:Int)≤(↑v0.length:Int)) then
 bif decide   ((List.take (v3 - Option.none.getD (0:Int)).toNat (List.drop (Option.none.getD (0:Int)).toNat v0) ++           [(r3,v1)]).length+      (List.drop ((Option.some v3).getD (0:Int)).toNat v0).length≤    (4294967296:Nat)) then
 ret (List.take (v3 - Option.none.getD (0:Int)).toNat (List.drop (Option.none.getD (0:Int)).toNat v0) ++ [(r3,v1)] ++   List.drop ((Option.some v3).getD (0:Int)).toNat v0)
 else
 none
 else
 none
 else
 none
 else
 none
 else
 bif decide ((0:Int)≤(Option.some v3).getD (0:Int)) then
 bif decide ((Option.some v3).getD (0:Int)≤(↑v0.length:Int)) then
 bif decide   ((List.take (v3 - Option.none.getD (0:Int)).toNat (List.drop (Option.none.getD (0:Int)).toNat v0)).length+      (List.drop ((Option.some v3).getD (0:Int)).toNat v0).length≤    (4294967296:Nat)) then
 ret (List.take (v3 - Option.none.getD (0:Int)).toNat (List.drop (Option.none.getD (0:Int)).toNat v0) ++   List.drop ((Option.some v3).getD (0:Int)).toNat v0)
 else
 none
 else
 none
 else
 none
 else
 none
 else
 none
 else
 bif v1 != (0:Int) then
 bif decide   ((List.take (v3 - Option.none.getD (0:Int)).toNat (List.drop (Option.none.getD (0:Int)).toNat v0)).length+      [(r3,v1)].length≤    (4294967296:Nat)) then
 bif decide ((0:Int)≤(Option.some v3).getD (0:Int)) then
 bif decide ((Option.some v3).getD (0:Int)≤(↑v0.length:Int)) then
 bif decide   ((List.take (v3 - Option.none.getD (0:Int)).toNat (List.drop (Option.none.getD (0:Int)).toNat v0) ++           [(r3,v1)]).length+      (List.drop ((Option.some v3).getD (0:Int)).toNat v0).length≤    (4294967296:Nat)) then
 ret (List.take (v3 - Option.none.getD (0:Int)).toNat (List.drop (Option.none.getD (0:Int)).toNat v0) ++ [(r3,v1)] ++   List.drop ((Option.some v3).getD (0:Int)).toNat v0)
 else
 none
 else
 none
 else
 none
 else
 none
 else
 bif decide ((0:Int)≤(Option.some v3).getD (0:Int)) then
 bif decide ((Option.some v3).getD (0:Int)≤(↑v0.length:Int)) then
 bif decide   ((List.take (v3 - Option.none.getD (0:Int)).toNat (List.drop (Option.none.getD (0:Int)).toNat v0)).length+      (List.drop ((Option.some v3).getD (0:Int)).toNat v0).length≤    (4294967296:Nat)) then
 ret (List.take (v3 - Option.none.getD (0:Int)).toNat (List.drop (Option.none.getD (0:Int)).toNat v0) ++   List.drop ((Option.some v3).getD (0:Int)).toNat v0)
 else
 none
 else
 none
 else
 none
 else
 none
 else
 none
 else
 none
theorem xs4f.u:∀ b,xs4f.un (xs4f.mk b)=b:=fun _ => by kernel_rfl
theorem xs4f.eq (v0 v1 v2) {b} (h:xs4f.t some xs4f.l2 v0 v1 v2=some b):xs4f v0 v1 v2=some b:=eqF xs4f.u Tryz.f99 (callT_le E tab) rfl rfl rfl (xs4f.t (rR xs4f.mk) xs4f.q2 v0 v1 v2) (by kernel_rfl) (by unfold xs4f.t; repeat' first | exact sR | exact sN | exact sL | apply sC | (apply sB; intro _)) h
theorem xs4f.eq2 (v0 v1 v2 v3) {b} (h:xs4f.t2 some xs4f.l2 v0 v1 v2 v3=some b):xs4f.l2 v0 v1 v2 v3=some b:=eqL xs4f.u (xs4f.t2 (rR xs4f.mk) xs4f.q2 v0 v1 v2 v3) (by kernel_rfl) (by unfold xs4f.t2; repeat' first | exact sR | exact sN | exact sL | apply sC | (apply sB; intro _)) h
end
end GoV

/- Equations of the program's functions (printed by wip/tools/emit.py). -/
namespace GoV
open Go Go.Proofs
set_option maxRecDepth 100000
noncomputable section

def xs2x.t {γ:Type} (ret:((List Int))→Option γ) (v0:List Int):Option γ :=
 bif decide (([]:List Int).length+v0.length≤(4294967296:Nat)) then
 ret ([] ++ v0)
 else
 none
theorem xs2x.u:∀ b,xs2x.un (xs2x.mk b)=b:=fun _ => by kernel_rfl
theorem xs2x.eq (v0) {b} (h:xs2x.t some v0=some b):xs2x v0=some b:=eqF xs2x.u Tryz.f81 (callT_le E tab) rfl rfl rfl (xs2x.t (rR xs2x.mk) v0) (by kernel_rfl) (by unfold xs2x.t; repeat' first | exact sR | exact sN | exact sL | apply sC | (apply sB; intro _)) h
def xs47.s3 (v0:Int) (v1:Zd) (v2:Int) (v3:Zd) (v4:Zd) (v5:Int) (v6:Int):List Cell:=nn 4 (⟨(.box false),[iL v0,.d .deep Yd v1],false,false,false,0,0⟩::nn 1 (⟨(.box false),[iL v2,.d .deep Yd v3],false,false,false,0,0⟩::nn 4 (vc (.d .fro Yd v4)::vc (iL v5)::vc (iL v6)::nn 20 ([]))))
def xs47.q3:=fun v0 v1 v2 v3 v4 v5 v6 => loopAtL E (callT E tab) 48 Tryz.f48 2 [.r,.r,.l,.r,.b] (xs47.s3 v0 v1 v2 v3 v4 v5 v6)
def xs47.l3:=fun v0 v1 v2 v3 v4 v5 v6 => tOf xs47.mk (xs47.q3 v0 v1 v2 v3 v4 v5 v6)
def xs47.t {γ:Type} (ret:(Int × Zd × Bool)→Option γ) (lp3:Int→Zd→Int→Zd→Zd→Int→Int→Option γ) (v0:Int) (v1:Zd):Option γ :=
 lp3 ((0:Int)) ([]) (v0) ([]) (v1) ((↑v1.length:Int)) ((0:Int))
def xs47.t3 {γ:Type} (ret:(Int × Zd × Bool)→Option γ) (lp3:Int→Zd→Int→Zd→Zd→Int→Int→Option γ) (v0:Int) (v1:Zd) (v2:Int) (v3:Zd) (v4:Zd) (v5:Int) (v6:Int):Option γ :=
 bif decide (v6<v5) then
 bif decide ((0:Int)≤v6) then
 bif decide (v6.toNat<v4.length) then
 (xs2x ((v4.getD v6.toNat ([],(0:Int))).fst)).bind fun (r0:(List Int)) =>
 bif decide (v3.length+[(r0,(v4.getD v6.toNat ([],(0:Int))).snd)].length≤(4294967296:Nat)) then
 lp3 (v0) (v1) (v2) (v3 ++ [(r0,(v4.getD v6.toNat ([],(0:Int))).snd)]) (v4) (v5) (IntKind.i64.wrap (v6+(1:Int)))
 else
 none
 else
 none
 else
 none
 else
 (xs2h (v2) (v3)).bind fun (r1:Bool) =>
 bif !r1 then
 ret ((0:Int),[],Bool.false)
 else
 ret (v2,v3,Bool.true)
theorem xs47.u:∀ b,xs47.un (xs47.mk b)=b:=fun _ => by kernel_rfl
theorem xs47.eq (v0 v1) {b} (h:xs47.t some xs47.l3 v0 v1=some b):xs47 v0 v1=some b:=eqF xs47.u Tryz.f48 (callT_le E tab) rfl rfl rfl (xs47.t (rR xs47.mk) xs47.q3 v0 v1) (by kernel_rfl) (by unfold xs47.t; repeat' first | exact sR | exact sN | exact sL | apply sC | (apply sB; intro _)) h
theorem xs47.eq3 (v0 v1 v2 v3 v4 v5 v6) {b} (h:xs47.t3 some xs47.l3 v0 v1 v2 v3 v4 v5 v6=some b):xs47.l3 v0 v1 v2 v3 v4 v5 v6=some b:=eqL xs47.u (xs47.t3 (rR xs47.mk) xs47.q3 v0 v1 v2 v3 v4 v5 v6) (by kernel_rfl) (by unfold xs47.t3; repeat' first | exact sR | exact sN | exact sL | apply sC | (apply sB; intro _)) h
def xs29.s3 (v0:Zd) (v1:Zd) (v2:Int) (v3:Int):List Cell:=nn 3 (vc (.d .sha Yd v0)::nn 2 (vc (.d .fro Yd v1)::vc (iL v2)::vc (iL v3)::nn 14 ([])))
def xs29.q3:=fun v0 v1 v2 v3 => loopAtL E (callT E tab) 57 Tryz.f57 1 [.r,.r,.l,.r,.b] (xs29.s3 v0 v1 v2 v3)
def xs29.l3:=fun v0 v1 v2 v3 => tOf xs29.mk (xs29.q3 v0 v1 v2 v3)
def xs29.t {γ:Type} (ret:(Zd)→Option γ) (lp3:Zd→Zd→Int→Int→Option γ) (v0:Zd):Option γ :=
 lp3 ([]) (v0) ((↑v0.length:Int)) ((0:Int))
def xs29.t3 {γ:Type} (ret:(Zd)→Option γ) (lp3:Zd→Zd→Int→Int→Option γ) (v0:Zd) (v1:Zd) (v2:Int) (v3:Int):Option γ :=
 bif decide (v3<v2) then
 bif decide ((0:Int)≤v3) then
 bif decide (v3.toNat<v1.length) then
 bif decide ((v1.getD v3.toNat ([],(0:Int))).snd > (0:Int)) then
 bif decide (v0.length+[((v1.getD v3.toNat ([],(0:Int))).fst,(1:Int))].length≤(4294967296:Nat)) then
 lp3 (v0 ++ [((v1.getD v3.toNat ([],(0:Int))).fst,(1:Int))]) (v1) (v2) (IntKind.i64.wrap (v3+(1:Int)))
 else
 none
 else
 lp3 (v0) (v1) (v2) (IntKind.i64.wrap (v3+(1:Int)))
 else
 none
 else
 none
 else
 ret (v0)
theorem xs29.u:∀ b,xs29.un (xs29.mk b)=b:=fun _ => by kernel_rfl
theorem xs29.eq (v0) {b} (h:xs29.t some xs29.l3 v0=some b):xs29 v0=some b:=eqF xs29.u Tryz.f57 (callT_le E tab) rfl rfl rfl (xs29.t (rR xs29.mk) xs29.q3 v0) (by kernel_rfl) (by unfold xs29.t; repeat' first | exact sR | exact sN | exact sL | apply sC | (apply sB; intro _)) h
theorem xs29.eq3 (v0 v1 v2 v3) {b} (h:xs29.t3 some xs29.l3 v0 v1 v2 v3=some b):xs29.l3 v0 v1 v2 v3=some b:=eqL xs29.u (xs29.t3 (rR xs29.mk) xs29.q3 v0 v1 v2 v3) (by kernel_rfl) (by unfold xs29.t3; repeat' first | exact sR | exact sN | exact sL | apply sC | (apply sB; intro _)) h
def xs2a.t {γ:Type} (ret:(Zd × Zb × Zb)→Option γ) (v0:Int) (v1:Int) (v2:Int) (v3:Ze) (v4:List Int) (v5:Zg) (v6:Zb) (v7:Zb):Option γ :=
 bif v0 == (1:Int) then
 bif decide ((0:Int)≤v1) then
 bif decide (v1.toNat<v6.length) then
 ret ((v6.getD v1.toNat ((0:Int),[])).snd,v6,v7)
 else
 none
 else
 none
 else
 bif v0 == (2:Int) then
 bif decide ((0:Int)≤v1) then
 bif decide (v1.toNat<v7.length) then
 bif decide (v1.toNat<v7.length) then
 (xs2z ((v7.getD v1.toNat ((0:Int),[])).snd) (v3)).bind fun (r0:Zd) =>
 ret (r0,v6,v7)
 else
 none
 else
 none
 else
 none
 else
 bif v0 == (3:Int) then
 bif decide ((0:Int)≤v1) then
 bif decide (v1.toNat<v7.length) then
 bif decide (v1.toNat<v7.length) then
 (xs2l ((v7.getD v1.toNat ((0:Int),[])).snd) (v4)).bind fun (r1:Zd) =>
 ret (r1,v6,v7)
 else
 none
 else
 none
 else
 none
 else
 bif v0 == (5:Int) then
 bif decide ((0:Int)≤v1) then
 bif decide (v1.toNat<v7.length) then
 bif decide (v1.toNat<v7.length) then
 bif decide ((0:Int)≤v2) then
 bif decide (v2.toNat<v7.length) then
 bif decide (v2.toNat<v7.length) then
 (xs4e ((v7.getD v1.toNat ((0:Int),[])).snd) ((v7.getD v2.toNat ((0:Int),[])).snd)).bind fun (r2:Zd) =>
 ret (r2,v6,v7)
 else
 none
 else
 none
 else
 none
 else
 none
 else
 none
 else
 none
 else
 bif decide ((0:Int)≤v1) then
 bif decide (v1.toNat<v7.length) then
 bif decide (v1.toNat<v7.length) then
 bif decide ((0:Int)≤v2) then
 bif decide (v2.toNat<v7.length) then
 bif decide (v2.toNat<v7.length) then
 (xs3m ((v7.getD v2.toNat ((0:Int),[])).snd) ((-1:Int))).bind fun (r3:Zd) =>
 (xs4e ((v7.getD v1.toNat ((0:Int),[])).snd) (r3)).bind fun (r4:Zd) =>
 ret (r4,v6,v7)
 else
 none
 else
 none
 else
 none
 else
 none
 else
 none
 else
 none
theorem xs2a.u:∀ b,xs2a.un (xs2a.mk b)=b:=fun _ => by kernel_rfl
theorem xs2a.eq (v0 v1 v2 v3 v4 v5 v6 v7) {b} (h:xs2a.t some v0 v1 v2 v3 v4 v5 v6 v7=some b):xs2a v0 v1 v2 v3 v4 v5 v6 v7=some b:=eqF xs2a.u Tryz.f47 (callT_le E tab) rfl rfl rfl (xs2a.t (rR xs2a.mk) v0 v1 v2 v3 v4 v5 v6 v7) (by kernel_rfl) (by unfold xs2a.t; repeat' first | exact sR | exact sN | exact sL | apply sC | (apply sB; intro _)) h
def xs2z.s3 (v0:Ze) (v1:Zd) (v2:Zd) (v3:Int) (v4:Int):List Cell:=nn 1 (vc (.d .fro Yc v0)::nn 3 (vc (.d .sha Yd v1)::nn 2 (vc (.d .fro Yd v2)::vc (iL v3)::vc (iL v4)::nn 13 ([]))))
def xs2z.q3:=fun v0 v1 v2 v3 v4 => loopAtL E (callT E tab) 78 Tryz.f78 2 [.r,.r,.l,.r,.b] (xs2z.s3 v0 v1 v2 v3 v4)
def xs2z.l3:=fun v0 v1 v2 v3 v4 => tOf xs2z.mk (xs2z.q3 v0 v1 v2 v3 v4)
def xs2z.t {γ:Type} (ret:(Zd)→Option γ) (lp3:Ze→Zd→Zd→Int→Int→Option γ) (v0:Zd) (v1:Ze):Option γ :=
 lp3 (v1) ([]) (v0) ((↑v0.length:Int)) ((0:Int))
def xs2z.t3 {γ:Type} (ret:(Zd)→Option γ) (lp3:Ze→Zd→Zd→Int→Int→Option γ) (v0:Ze) (v1:Zd) (v2:Zd) (v3:Int) (v4:Int):Option γ :=
 bif decide (v4<v3) then
 bif decide ((0:Int)≤v4) then
 bif decide (v4.toNat<v2.length) then
 (xs4a (v0) ((v2.getD v4.toNat ([],(0:Int))).fst)).bind fun (r0:Bool) =>
 bif r0 then
 bif decide   (v1.length+[((v2.getD v4.toNat ([],(0:Int))).fst,(v2.getD v4.toNat ([],(0:Int))).snd)].length≤    (4294967296:Nat)) then
 lp3 (v0) (v1 ++ [((v2.getD v4.toNat ([],(0:Int))).fst,(v2.getD v4.toNat ([],(0:Int))).snd)]) (v2) (v3) (IntKind.i64.wrap (v4+(1:Int)))
 else
 none
 else
 lp3 (v0) (v1) (v2) (v3) (IntKind.i64.wrap (v4+(1:Int)))
 else
 none
 else
 none
 else
 ret (v1)
theorem xs2z.u:∀ b,xs2z.un (xs2z.mk b)=b:=fun _ => by kernel_rfl
theorem xs2z.eq (v0 v1) {b} (h:xs2z.t some xs2z.l3 v0 v1=some b):xs2z v0 v1=some b:=eqF xs2z.u Tryz.f78 (callT_le E tab) rfl rfl rfl (xs2z.t (rR xs2z.mk) xs2z.q3 v0 v1) (by kernel_rfl) (by unfold xs2z.t; repeat' first | exact sR | exact sN | exact sL | apply sC | (apply sB; intro _)) h
theorem xs2z.eq3 (v0 v1 v2 v3 v4) {b} (h:xs2z.t3 some xs2z.l3 v0 v1 v2 v3 v4=some b):xs2z.l3 v0 v1 v2 v3 v4=some b:=eqL xs2z.u (xs2z.t3 (rR xs2z.mk) xs2z.q3 v0 v1 v2 v3 v4) (by kernel_rfl) (by unfold xs2z.t3; repeat' first | exact sR | exact sN | exact sL | apply sC | (apply sB; intro _)) h
def xs4a.s2 (v0:List Int) (v1:Ze) (v2:Int) (v3:Int):List Cell:=nn 3 (⟨(.box false),[.d .fro (.sl (.int .i64)) v0],false,false,false,0,0⟩::nn 5 (vc (.d .fro Yc v1)::vc (iL v2)::vc (iL v3)::nn 40 ([])))
def xs4a.q2:=fun v0 v1 v2 v3 => loopAtL E (callT E tab) 121 Tryz.f121 2 [.r,.l,.r,.b] (xs4a.s2 v0 v1 v2 v3)
def xs4a.l2:=fun v0 v1 v2 v3 => tOf xs4a.mk (xs4a.q2 v0 v1 v2 v3)
def xs4a.t {γ:Type} (ret:(Bool)→Option γ) (lp2:(List Int)→Ze→Int→Int→Option γ) (v0:Ze) (v1:List Int):Option γ :=
 lp2 (v1) (v0) ((↑v0.length:Int)) ((0:Int))
def xs4a.t2 {γ:Type} (ret:(Bool)→Option γ) (lp2:(List Int)→Ze→Int→Int→Option γ) (v0:List Int) (v1:Ze) (v2:Int) (v3:Int):Option γ :=
 bif decide (v3<v2) then
 bif decide ((0:Int)≤v3) then
 bif decide (v3.toNat<v1.length) then
 bif decide ((0:Int)≤(v1.getD v3.toNat ((0:Int),(0:Int),(0:Int))).snd.fst) then
 bif decide ((v1.getD v3.toNat ((0:Int),(0:Int),(0:Int))).snd.fst.toNat<v0.length) then
 bif (v1.getD v3.toNat ((0:Int),(0:Int),(0:Int))).fst == (1:Int) then
 bif !v0.getD (v1.getD v3.toNat ((0:Int),(0:Int),(0:Int))).snd.fst.toNat (0:Int) ==     (v1.getD v3.toNat ((0:Int),(0:Int),(0:Int))).snd.snd then
 ret (Bool.false)
 else
 lp2 (v0) (v1) (v2) (IntKind.i64.wrap (v3+(1:Int)))
 else
 bif (v1.getD v3.toNat ((0:Int),(0:Int),(0:Int))).fst == (2:Int) then
 bif !decide     (v0.getD (v1.getD v3.toNat ((0:Int),(0:Int),(0:Int))).snd.fst.toNat (0:Int)<      (v1.getD v3.toNat ((0:Int),(0:Int),(0:Int))).snd.snd) then
 ret (Bool.false)
 else
 lp2 (v0) (v1) (v2) (IntKind.i64.wrap (v3+(1:Int)))
 else
 bif (v1.getD v3.toNat ((0:Int),(0:Int),(0:Int))).fst == (3:Int) then
 bif !decide     (v0.getD (v1.getD v3.toNat ((0:Int),(0:Int),(0:Int))).snd.fst.toNat (0:Int) >       (v1.getD v3.toNat ((0:Int),(0:Int),(0:Int))).snd.snd) then
 ret (Bool.false)
 else
 lp2 (v0) (v1) (v2) (IntKind.i64.wrap (v3+(1:Int)))
 else
 bif decide ((0:Int)≤(v1.getD v3.toNat ((0:Int),(0:Int),(0:Int))).snd.snd) then
 bif decide ((v1.getD v3.toNat ((0:Int),(0:Int),(0:Int))).snd.snd.toNat<v0.length) then
 bif !v0.getD (v1.getD v3.toNat ((0:Int),(0:Int),(0:Int))).snd.fst.toNat (0:Int) ==     v0.getD (v1.getD v3.toNat ((0:Int),(0:Int),(0:Int))).snd.snd.toNat (0:Int) then
 ret (Bool.false)
 else
 lp2 (v0) (v1) (v2) (IntKind.i64.wrap (v3+(1:Int)))
 else
 none
 else
 none
 else
 none
 else
 none
 else
 none
 else
 none
 else
 ret (Bool.true)
theorem xs4a.u:∀ b,xs4a.un (xs4a.mk b)=b:=fun _ => by kernel_rfl
theorem xs4a.eq (v0 v1) {b} (h:xs4a.t some xs4a.l2 v0 v1=some b):xs4a v0 v1=some b:=eqF xs4a.u Tryz.f121 (callT_le E tab) rfl rfl rfl (xs4a.t (rR xs4a.mk) xs4a.q2 v0 v1) (by kernel_rfl) (by unfold xs4a.t; repeat' first | exact sR | exact sN | exact sL | apply sC | (apply sB; intro _)) h
theorem xs4a.eq2 (v0 v1 v2 v3) {b} (h:xs4a.t2 some xs4a.l2 v0 v1 v2 v3=some b):xs4a.l2 v0 v1 v2 v3=some b:=eqL xs4a.u (xs4a.t2 (rR xs4a.mk) xs4a.q2 v0 v1 v2 v3) (by kernel_rfl) (by unfold xs4a.t2; repeat' first | exact sR | exact sN | exact sL | apply sC | (apply sB; intro _)) h
def xs2l.s3 (v0:List Int) (v1:Zd) (v2:Zd) (v3:Int) (v4:Int):List Cell:=nn 1 (vc (.d .fro (.sl (.int .i64)) v0)::nn 3 (vc (.d .sha Yd v1)::nn 2 (vc (.d .fro Yd v2)::vc (iL v3)::vc (iL v4)::nn 13 ([]))))
def xs2l.q3:=fun v0 v1 v2 v3 v4 => loopAtL E (callT E tab) 79 Tryz.f79 2 [.r,.r,.l,.r,.b] (xs2l.s3 v0 v1 v2 v3 v4)
def xs2l.l3:=fun v0 v1 v2 v3 v4 => tOf xs2l.mk (xs2l.q3 v0 v1 v2 v3 v4)
def xs2l.t {γ:Type} (ret:(Zd)→Option γ) (lp3:(List Int)→Zd→Zd→Int→Int→Option γ) (v0:Zd) (v1:List Int):Option γ :=
 lp3 (v1) ([]) (v0) ((↑v0.length:Int)) ((0:Int))
def xs2l.t3 {γ:Type} (ret:(Zd)→Option γ) (lp3:(List Int)→Zd→Zd→Int→Int→Option γ) (v0:List Int) (v1:Zd) (v2:Zd) (v3:Int) (v4:Int):Option γ :=
 bif decide (v4<v3) then
 bif decide ((0:Int)≤v4) then
 bif decide (v4.toNat<v2.length) then
 (xs46 ((v2.getD v4.toNat ([],(0:Int))).fst) (v0)).bind fun (r0:(List Int)) =>
 (xs4f (v1) (r0) ((v2.getD v4.toNat ([],(0:Int))).snd)).bind fun (r1:Zd) =>
 lp3 (v0) (r1) (v2) (v3) (IntKind.i64.wrap (v4+(1:Int)))
 else
 none
 else
 none
 else
 ret (v1)
theorem xs2l.u:∀ b,xs2l.un (xs2l.mk b)=b:=fun _ => by kernel_rfl
theorem xs2l.eq (v0 v1) {b} (h:xs2l.t some xs2l.l3 v0 v1=some b):xs2l v0 v1=some b:=eqF xs2l.u Tryz.f79 (callT_le E tab) rfl rfl rfl (xs2l.t (rR xs2l.mk) xs2l.q3 v0 v1) (by kernel_rfl) (by unfold xs2l.t; repeat' first | exact sR | exact sN | exact sL | apply sC | (apply sB; intro _)) h
theorem xs2l.eq3 (v0 v1 v2 v3 v4) {b} (h:xs2l.t3 some xs2l.l3 v0 v1 v2 v3 v4=some b):xs2l.l3 v0 v1 v2 v3 v4=some b:=eqL xs2l.u (xs2l.t3 (rR xs2l.mk) xs2l.q3 v0 v1 v2 v3 v4) (by kernel_rfl) (by unfold xs2l.t3; repeat' first | exact sR | exact sN | exact sL | apply sC | (apply sB; intro _)) h
def xs46.s3 (v0:List Int) (v1:List Int) (v2:List Int) (v3:List Int) (v4:Int) (v5:Int):List Cell:=nn 2 (⟨(.box false),[.d .fro (.sl (.int .i64)) v0],false,false,false,0,0⟩::nn 1 (⟨(.box false),[.d .deep (.sl (.int .i64)) v1],false,false,false,0,0⟩::⟨(.box false),[.d .deep (.sl (.int .i64)) v2],false,false,false,0,0⟩::nn 3 (vc (.d .fro (.sl (.int .i64)) v3)::vc (iL v4)::vc (iL v5)::nn 15 ([]))))
def xs46.q3:=fun v0 v1 v2 v3 v4 v5 => loopAtL E (callT E tab) 122 Tryz.f122 2 [.r,.r,.l,.r,.b] (xs46.s3 v0 v1 v2 v3 v4 v5)
def xs46.l3:=fun v0 v1 v2 v3 v4 v5 => tOf xs46.mk (xs46.q3 v0 v1 v2 v3 v4 v5)
def xs46.t {γ:Type} (ret:((List Int))→Option γ) (lp3:(List Int)→(List Int)→(List Int)→(List Int)→Int→Int→Option γ) (v0:List Int) (v1:List Int):Option γ :=
 lp3 (v0) ([]) ([]) (v1) ((↑v1.length:Int)) ((0:Int))
def xs46.t3 {γ:Type} (ret:((List Int))→Option γ) (lp3:(List Int)→(List Int)→(List Int)→(List Int)→Int→Int→Option γ) (v0:List Int) (v1:List Int) (v2:List Int) (v3:List Int) (v4:Int) (v5:Int):Option γ :=
 bif decide (v5<v4) then
 bif decide ((0:Int)≤v5) then
 bif decide (v5.toNat<v3.length) then
 bif decide ((0:Int)≤v3.getD v5.toNat (0:Int)) then
 bif decide ((v3.getD v5.toNat (0:Int)).toNat<v0.length) then
 bif decide (v2.length+[v0.getD (v3.getD v5.toNat (0:Int)).toNat (0:Int)].length≤(4294967296:Nat)) then
 lp3 (v0) (v1) (v2 ++ [v0.getD (v3.getD v5.toNat (0:Int)).toNat (0:Int)]) (v3) (v4) (IntKind.i64.wrap (v5+(1:Int)))
 else
 none
 else
 none
 else
 none
 else
 none
 else
 none
 else
 ret (v2)
theorem xs46.u:∀ b,xs46.un (xs46.mk b)=b:=fun _ => by kernel_rfl
theorem xs46.eq (v0 v1) {b} (h:xs46.t some xs46.l3 v0 v1=some b):xs46 v0 v1=some b:=eqF xs46.u Tryz.f122 (callT_le E tab) rfl rfl rfl (xs46.t (rR xs46.mk) xs46.q3 v0 v1) (by kernel_rfl) (by unfold xs46.t; repeat' first | exact sR | exact sN | exact sL | apply sC | (apply sB; intro _)) h
theorem xs46.eq3 (v0 v1 v2 v3 v4 v5) {b} (h:xs46.t3 some xs46.l3 v0 v1 v2 v3 v4 v5=some b):xs46.l3 v0 v1 v2 v3 v4 v5=some b:=eqL xs46.u (xs46.t3 (rR xs46.mk) xs46.q3 v0 v1 v2 v3 v4 v5) (by kernel_rfl) (by unfold xs46.t3; repeat' first | exact sR | exact sN | exact sL | apply sC | (apply sB; intro _)) h
def xs4e.s3 (v0:Zd) (v1:Zd) (v2:Int) (v3:Int):List Cell:=nn 5 (vc (.d .fro Yd v0)::nn 3 (vc (.d .fro Yd v1)::vc (iL v2)::vc (iL v3)::nn 11 ([])))
def xs4e.q3:=fun v0 v1 v2 v3 => loopAtL E (callT E tab) 76 Tryz.f76 2 [.r,.r,.l,.r,.b] (xs4e.s3 v0 v1 v2 v3)
def xs4e.l3:=fun v0 v1 v2 v3 => tOf xs4e.mk (xs4e.q3 v0 v1 v2 v3)
def xs4e.t {γ:Type} (ret:(Zd)→Option γ) (lp3:Zd→Zd→Int→Int→Option γ) (v0:Zd) (v1:Zd):Option γ :=
 lp3 (v0) (v1) ((↑v1.length:Int)) ((0:Int))
def xs4e.t3 {γ:Type} (ret:(Zd)→Option γ) (lp3:Zd→Zd→Int→Int→Option γ) (v0:Zd) (v1:Zd) (v2:Int) (v3:Int):Option γ :=
 bif decide (v3<v2) then
 bif decide ((0:Int)≤v3) then
 bif decide (v3.toNat<v1.length) then
 (xs4f (v0) ((v1.getD v3.toNat ([],(0:Int))).fst) ((v1.getD v3.toNat ([],(0:Int))).snd)).bind fun (r0:Zd) =>
 lp3 (r0) (v1) (v2) (IntKind.i64.wrap (v3+(1:Int)))
 else
 none
 else
 none
 else
 ret (v0)
theorem xs4e.u:∀ b,xs4e.un (xs4e.mk b)=b:=fun _ => by kernel_rfl
theorem xs4e.eq (v0 v1) {b} (h:xs4e.t some xs4e.l3 v0 v1=some b):xs4e v0 v1=some b:=eqF xs4e.u Tryz.f76 (callT_le E tab) rfl rfl rfl (xs4e.t (rR xs4e.mk) xs4e.q3 v0 v1) (by kernel_rfl) (by unfold xs4e.t; repeat' first | exact sR | exact sN | exact sL | apply sC | (apply sB; intro _)) h
theorem xs4e.eq3 (v0 v1 v2 v3) {b} (h:xs4e.t3 some xs4e.l3 v0 v1 v2 v3=some b):xs4e.l3 v0 v1 v2 v3=some b:=eqL xs4e.u (xs4e.t3 (rR xs4e.mk) xs4e.q3 v0 v1 v2 v3) (by kernel_rfl) (by unfold xs4e.t3; repeat' first | exact sR | exact sN | exact sL | apply sC | (apply sB; intro _)) h
def xs3m.s3 (v0:Int) (v1:Zd) (v2:Zd) (v3:Int) (v4:Int):List Cell:=nn 1 (vc (iL v0)::nn 3 (vc (.d .sha Yd v1)::nn 2 (vc (.d .fro Yd v2)::vc (iL v3)::vc (iL v4)::nn 17 ([]))))
def xs3m.q3:=fun v0 v1 v2 v3 v4 => loopAtL E (callT E tab) 80 Tryz.f80 2 [.r,.r,.l,.r,.b] (xs3m.s3 v0 v1 v2 v3 v4)
def xs3m.l3:=fun v0 v1 v2 v3 v4 => tOf xs3m.mk (xs3m.q3 v0 v1 v2 v3 v4)
def xs3m.t {γ:Type} (ret:(Zd)→Option γ) (lp3:Int→Zd→Zd→Int→Int→Option γ) (v0:Zd) (v1:Int):Option γ :=
 lp3 (v1) ([]) (v0) ((↑v0.length:Int)) ((0:Int))
def xs3m.t3 {γ:Type} (ret:(Zd)→Option γ) (lp3:Int→Zd→Zd→Int→Int→Option γ) (v0:Int) (v1:Zd) (v2:Zd) (v3:Int) (v4:Int):Option γ :=
 bif decide (v4<v3) then
 bif decide ((0:Int)≤v4) then
 bif decide (v4.toNat<v2.length) then
 bif v0 != (0:Int) then
 bif decide   (v1.length+      [((v2.getD v4.toNat ([],(0:Int))).fst,            IntKind.i64.wrap (v0 * (v2.getD v4.toNat ([],(0:Int))).snd))].length≤    (4294967296:Nat)) then
 lp3 (v0) (v1 ++ [((v2.getD v4.toNat ([],(0:Int))).fst,IntKind.i64.wrap (v0 * (v2.getD v4.toNat ([],(0:Int))).snd))]) (v2) (v3) (IntKind.i64.wrap (v4+(1:Int)))
 else
 none
 else
 lp3 (v0) (v1) (v2) (v3) (IntKind.i64.wrap (v4+(1:Int)))
 else
 none
 else
 none
 else
 ret (v1)
theorem xs3m.u:∀ b,xs3m.un (xs3m.mk b)=b:=fun _ => by kernel_rfl
theorem xs3m.eq (v0 v1) {b} (h:xs3m.t some xs3m.l3 v0 v1=some b):xs3m v0 v1=some b:=eqF xs3m.u Tryz.f80 (callT_le E tab) rfl rfl rfl (xs3m.t (rR xs3m.mk) xs3m.q3 v0 v1) (by kernel_rfl) (by unfold xs3m.t; repeat' first | exact sR | exact sN | exact sL | apply sC | (apply sB; intro _)) h
theorem xs3m.eq3 (v0 v1 v2 v3 v4) {b} (h:xs3m.t3 some xs3m.l3 v0 v1 v2 v3 v4=some b):xs3m.l3 v0 v1 v2 v3 v4=some b:=eqL xs3m.u (xs3m.t3 (rR xs3m.mk) xs3m.q3 v0 v1 v2 v3 v4) (by kernel_rfl) (by unfold xs3m.t3; repeat' first | exact sR | exact sN | exact sL | apply sC | (apply sB; intro _)) h
def xi3o.s6 (v0:Zb) (v1:Zb) (v2:Za) (v3:Int) (v4:Int):List Cell:=nn 1 (vc (.d .fro Yb v0)::nn 6 (vc (.d .deep Yb v1)::nn 17 (vc (.d .fro Ya v2)::vc (iL v3)::vc (iL v4)::nn 16 ([]))))
def xi3o.q6:=fun v0 v1 v2 v3 v4 => loopAtL E (callT E tab) 11 Tryz.f11 2 [.r,.r,.r,.l,.r,.b] (xi3o.s6 v0 v1 v2 v3 v4)
def xi3o.l6:=fun v0 v1 v2 v3 v4 => tOf xi3o.mk (xi3o.q6 v0 v1 v2 v3 v4)
def xi3o.t {γ:Type} (ret:(Zb × Bool)→Option γ) (lp6:Zb→Zb→Za→Int→Int→Option γ) (v0:List Int) (v1:Za) (v2:Zb):Option γ :=
 (xi2b (v0) (v1)).bind fun (r0:(List Int) × Bool) =>
 bif !r0.snd then
 ret ([],Bool.false)
 else
 (xi22 (v0) (v1) (v2)).bind fun (r1:Bool) =>
 bif !r1 then
 ret ([],Bool.false)
 else
 lp6 (v2) ([]) (v1) ((↑v1.length:Int)) ((0:Int))
def xi3o.t6 {γ:Type} (ret:(Zb × Bool)→Option γ) (lp6:Zb→Zb→Za→Int→Int→Option γ) (v0:Zb) (v1:Zb) (v2:Za) (v3:Int) (v4:Int):Option γ :=
 bif decide (v4<v3) then
 bif decide ((0:Int)≤v4) then
 bif decide (v4.toNat<v2.length) then
 (xi32 ((v2.getD v4.toNat ((0:Int),(0:Int),(0:Int),[],[],[])).fst) ((v2.getD v4.toNat ((0:Int),(0:Int),(0:Int),[],[],[])).snd.fst) ((v2.getD v4.toNat ((0:Int),(0:Int),(0:Int),[],[],[])).snd.snd.fst) ((v2.getD v4.toNat ((0:Int),(0:Int),(0:Int),[],[],[])).snd.snd.snd.fst) ((v2.getD v4.toNat ((0:Int),(0:Int),(0:Int),[],[],[])).snd.snd.snd.snd.fst) ((v2.getD v4.toNat ((0:Int),(0:Int),(0:Int),[],[],[])).snd.snd.snd.snd.snd) (v0) (v1)).bind fun (r2:Int × Zd) =>
 (xi2c (r2.fst) (r2.snd)).bind fun (r3:Bool) =>
 bif !r3 then
 ret ([],Bool.false)
 else
 bif decide (v1.length+[(r2.fst,r2.snd)].length≤(4294967296:Nat)) then
 lp6 (v0) (v1 ++ [(r2.fst,r2.snd)]) (v2) (v3) (IntKind.i64.wrap (v4+(1:Int)))
 else
 none
 else
 none
 else
 none
 else
 ret (v1,Bool.true)
theorem xi3o.u:∀ b,xi3o.un (xi3o.mk b)=b:=fun _ => by kernel_rfl
theorem xi3o.eq (v0 v1 v2) {b} (h:xi3o.t some xi3o.l6 v0 v1 v2=some b):xi3o v0 v1 v2=some b:=eqF xi3o.u Tryz.f11 (callT_le E tab) rfl rfl rfl (xi3o.t (rR xi3o.mk) xi3o.q6 v0 v1 v2) (by kernel_rfl) (by unfold xi3o.t; repeat' first | exact sR | exact sN | exact sL | apply sC | (apply sB; intro _)) h
theorem xi3o.eq6 (v0 v1 v2 v3 v4) {b} (h:xi3o.t6 some xi3o.l6 v0 v1 v2 v3 v4=some b):xi3o.l6 v0 v1 v2 v3 v4=some b:=eqL xi3o.u (xi3o.t6 (rR xi3o.mk) xi3o.q6 v0 v1 v2 v3 v4) (by kernel_rfl) (by unfold xi3o.t6; repeat' first | exact sR | exact sN | exact sL | apply sC | (apply sB; intro _)) h
def xi2b.s5 (v0:List Int) (v1:Za) (v2:List Int) (v3:Za) (v4:Int) (v5:Int):List Cell:=nn 1 (⟨(.box false),[.d .fro (.sl (.int .i64)) v0,.d .fro Ya v1],false,false,false,0,0⟩::nn 2 (vc (.d .deep (.sl (.int .i64)) v2)::nn 23 (vc (.d .fro Ya v3)::vc (iL v4)::vc (iL v5)::nn 23 ([]))))
def xi2b.q5:=fun v0 v1 v2 v3 v4 v5 => loopAtL E (callT E tab) 33 Tryz.f33 1 [.r,.r,.r,.l,.r,.b] (xi2b.s5 v0 v1 v2 v3 v4 v5)
def xi2b.l5:=fun v0 v1 v2 v3 v4 v5 => tOf xi2b.mk (xi2b.q5 v0 v1 v2 v3 v4 v5)
def xi2b.t {γ:Type} (ret:((List Int) × Bool)→Option γ) (lp5:(List Int)→Za→(List Int)→Za→Int→Int→Option γ) (v0:List Int) (v1:Za):Option γ :=
 (xi3s ((↑v0.length:Int)) ((1:Int)) ((4:Int))).bind fun (r0:Bool) =>
 bif !r0 then
 ret ([],Bool.false)
 else
 (xi10 (v0)).bind fun (r1:Bool) =>
 bif !r1 then
 ret ([],Bool.false)
 else
 (xi3s ((↑v1.length:Int)) ((1:Int)) ((12:Int))).bind fun (r2:Bool) =>
 bif !r2 then
 ret ([],Bool.false)
 else
 lp5 (v0) (v1) ([]) (v1) ((↑v1.length:Int)) ((0:Int))
def xi2b.t5 {γ:Type} (ret:((List Int) × Bool)→Option γ) (lp5:(List Int)→Za→(List Int)→Za→Int→Int→Option γ) (v0:List Int) (v1:Za) (v2:List Int) (v3:Za) (v4:Int) (v5:Int):Option γ :=
 bif decide (v5<v4) then
 bif decide ((0:Int)≤v5) then
 bif decide (v5.toNat<v3.length) then
 (xi1f (v0) (v1) ((v3.getD v5.toNat ((0:Int),(0:Int),(0:Int),[],[],[])).fst) ((v3.getD v5.toNat ((0:Int),(0:Int),(0:Int),[],[],[])).snd.fst) ((v3.getD v5.toNat ((0:Int),(0:Int),(0:Int),[],[],[])).snd.snd.fst) ((v3.getD v5.toNat ((0:Int),(0:Int),(0:Int),[],[],[])).snd.snd.snd.fst) ((v3.getD v5.toNat ((0:Int),(0:Int),(0:Int),[],[],[])).snd.snd.snd.snd.fst) ((v3.getD v5.toNat ((0:Int),(0:Int),(0:Int),[],[],[])).snd.snd.snd.snd.snd) (v2)).bind fun (r3:Int × Bool) =>
 bif !r3.snd then
 ret ([],Bool.false)
 else
 (xi2e ((v3.getD v5.toNat ((0:Int),(0:Int),(0:Int),[],[],[])).fst) ((v3.getD v5.toNat ((0:Int),(0:Int),(0:Int),[],[],[])).snd.fst) ((v3.getD v5.toNat ((0:Int),(0:Int),(0:Int),[],[],[])).snd.snd.fst) ((v3.getD v5.toNat ((0:Int),(0:Int),(0:Int),[],[],[])).snd.snd.snd.fst) ((v3.getD v5.toNat ((0:Int),(0:Int),(0:Int),[],[],[])).snd.snd.snd.snd.fst) ((v3.getD v5.toNat ((0:Int),(0:Int),(0:Int),[],[],[])).snd.snd.snd.snd.snd)).bind fun (r4:Bool) =>
 bif !r4 then
 ret ([],Bool.false)
 else
 bif decide (v2.length+[r3.fst].length≤(4294967296:Nat)) then
 lp5 (v0) (v1) (v2 ++ [r3.fst]) (v3) (v4) (IntKind.i64.wrap (v5+(1:Int)))
 else
 none
 else
 none
 else
 none
 else
 ret (v2,Bool.true)
theorem xi2b.u:∀ b,xi2b.un (xi2b.mk b)=b:=fun _ => by kernel_rfl
theorem xi2b.eq (v0 v1) {b} (h:xi2b.t some xi2b.l5 v0 v1=some b):xi2b v0 v1=some b:=eqF xi2b.u Tryz.f33 (callT_le E tab) rfl rfl rfl (xi2b.t (rR xi2b.mk) xi2b.q5 v0 v1) (by kernel_rfl) (by unfold xi2b.t; repeat' first | exact sR | exact sN | exact sL | apply sC | (apply sB; intro _)) h
theorem xi2b.eq5 (v0 v1 v2 v3 v4 v5) {b} (h:xi2b.t5 some xi2b.l5 v0 v1 v2 v3 v4 v5=some b):xi2b.l5 v0 v1 v2 v3 v4 v5=some b:=eqL xi2b.u (xi2b.t5 (rR xi2b.mk) xi2b.q5 v0 v1 v2 v3 v4 v5) (by kernel_rfl) (by unfold xi2b.t5; repeat' first | exact sR | exact sN | exact sL | apply sC | (apply sB; intro _)) h
def xi3s.t {γ:Type} (ret:(Bool)→Option γ) (v0:Int) (v1:Int) (v2:Int):Option γ :=
 bif decide (v1≤v0) then
 ret (decide (v0≤v2))
 else
 ret (Bool.false)
theorem xi3s.u:∀ b,xi3s.un (xi3s.mk b)=b:=fun _ => by kernel_rfl
theorem xi3s.eq (v0 v1 v2) {b} (h:xi3s.t some v0 v1 v2=some b):xi3s v0 v1 v2=some b:=eqF xi3s.u Tryz.f60 (callT_le E tab) rfl rfl rfl (xi3s.t (rR xi3s.mk) v0 v1 v2) (by kernel_rfl) (by unfold xi3s.t; repeat' first | exact sR | exact sN | exact sL | apply sC | (apply sB; intro _)) h
def xi10.t {γ:Type} (ret:(Bool)→Option γ) (v0:List Int):Option γ :=
 (xs07 (v0)).bind fun (r0:Bool) =>
 ret (!r0)
theorem xi10.u:∀ b,xi10.un (xi10.mk b)=b:=fun _ => by kernel_rfl
theorem xi10.eq (v0) {b} (h:xi10.t some v0=some b):xi10 v0=some b:=eqF xi10.u Tryz.f61 (callT_le E tab) rfl rfl rfl (xi10.t (rR xi10.mk) v0) (by kernel_rfl) (by unfold xi10.t; repeat' first | exact sR | exact sN | exact sL | apply sC | (apply sB; intro _)) h
def xs07.t {γ:Type} (ret:(Bool)→Option γ) (v0:List Int):Option γ :=
 (xs0d (v0)).bind fun (r0:Int) =>
 ret (decide (r0 ≥ (0:Int)))
theorem xs07.u:∀ b,xs07.un (xs07.mk b)=b:=fun _ => by kernel_rfl
theorem xs07.eq (v0) {b} (h:xs07.t some v0=some b):xs07 v0=some b:=eqF xs07.u Tryz.f103 (callT_le E tab) rfl rfl rfl (xs07.t (rR xs07.mk) v0) (by kernel_rfl) (by unfold xs07.t; repeat' first | exact sR | exact sN | exact sL | apply sC | (apply sB; intro _)) h
def xs0d.s2 (v0:List Int) (v1:Int) (v2:Int):List Cell:=vc (.d .fro (.sl (.int .i64)) v0)::vc (.fn 104 [.rp [.fn 62 []] 0])::nn 5 (vc (iL v1)::vc (iL v2)::nn 10 ([]))
def xs0d.q2:=fun v0 v1 v2 => loopAtL E (callT E tab) 132 Tryz.f132 2 [.r,.l,.r,.b] (xs0d.s2 v0 v1 v2)
def xs0d.l2:=fun v0 v1 v2 => tOf xs0d.mk (xs0d.q2 v0 v1 v2)
def xs0d.t {γ:Type} (ret:(Int)→Option γ) (lp2:(List Int)→Int→Int→Option γ) (v0:List Int):Option γ :=
 lp2 (v0) ((↑v0.length:Int)) ((0:Int))
def xs0d.t2 {γ:Type} (ret:(Int)→Option γ) (lp2:(List Int)→Int→Int→Option γ) (v0:List Int) (v1:Int) (v2:Int):Option γ :=
 bif decide (v2<v1) then
 bif decide ((0:Int)≤v2) then
 bif decide (v2.toNat<v0.length) then
 (xi0x (v0.getD v2.toNat (0:Int))).bind fun (r0:Bool) =>
 bif r0 then
 ret (v2)
 else
 lp2 (v0) (v1) (IntKind.i64.wrap (v2+(1:Int)))
 else
 none
 else
 none
 else
 ret ((-1:Int))
theorem xs0d.u:∀ b,xs0d.un (xs0d.mk b)=b:=fun _ => by kernel_rfl
theorem xs0d.eq (v0) {b} (h:xs0d.t some xs0d.l2 v0=some b):xs0d v0=some b:=eqF xs0d.u Tryz.f132 (callT_le E tab) rfl rfl rfl (xs0d.t (rR xs0d.mk) xs0d.q2 v0) (by kernel_rfl) (by unfold xs0d.t; repeat' first | exact sR | exact sN | exact sL | apply sC | (apply sB; intro _)) h
theorem xs0d.eq2 (v0 v1 v2) {b} (h:xs0d.t2 some xs0d.l2 v0 v1 v2=some b):xs0d.l2 v0 v1 v2=some b:=eqL xs0d.u (xs0d.t2 (rR xs0d.mk) xs0d.q2 v0 v1 v2) (by kernel_rfl) (by unfold xs0d.t2; repeat' first | exact sR | exact sN | exact sL | apply sC | (apply sB; intro _)) h
def xi0x.t {γ:Type} (ret:(Bool)→Option γ) (v0:Int):Option γ :=
 (xi2f (v0)).bind fun (r0:Bool) =>
 ret (!r0)
theorem xi0x.u:∀ b,xi0x.un (xi0x.mk b)=b:=fun _ => by kernel_rfl
theorem xi0x.eq (v0) {b} (h:xi0x.t some v0=some b):xi0x v0=some b:=eqF xi0x.u Tryz.f104 (callT_le E tab) rfl rfl rfl (xi0x.t (rR xi0x.mk) v0) (by kernel_rfl) (by unfold xi0x.t; repeat' first | exact sR | exact sN | exact sL | apply sC | (apply sB; intro _)) h
def xi2f.t {γ:Type} (ret:(Bool)→Option γ) (v0:Int):Option γ :=
 (xi3s (v0) ((0:Int)) ((6:Int))).bind fun (r0:Bool) =>
 ret (r0)
theorem xi2f.u:∀ b,xi2f.un (xi2f.mk b)=b:=fun _ => by kernel_rfl
theorem xi2f.eq (v0) {b} (h:xi2f.t some v0=some b):xi2f v0=some b:=eqF xi2f.u Tryz.f62 (callT_le E tab) rfl rfl rfl (xi2f.t (rR xi2f.mk) v0) (by kernel_rfl) (by unfold xi2f.t; repeat' first | exact sR | exact sN | exact sL | apply sC | (apply sB; intro _)) h
def xi1f.t {γ:Type} (ret:(Int × Bool)→Option γ) (v0:List Int) (v1:Za) (v2:Int) (v3:Int) (v4:Int) (v5:Ze) (v6:List Int) (v7:Zg) (v8:List Int):Option γ :=
 bif v2 == (1:Int) then
 (xi3s (v3) ((0:Int)) (IntKind.i64.wrap ((↑v0.length:Int) - (1:Int)))).bind fun (r0:Bool) =>
 bif !r0 then
 ret ((0:Int),Bool.false)
 else
 bif decide ((0:Int)≤v3) then
 bif decide (v3.toNat<v0.length) then
 ret (v0.getD v3.toNat (0:Int),Bool.true)
 else
 none
 else
 none
 else
 (xi3s (v3) ((0:Int)) (IntKind.i64.wrap ((↑v8.length:Int) - (1:Int)))).bind fun (r1:Bool) =>
 bif !r1 then
 ret ((0:Int),Bool.false)
 else
 (xi3s (v4) ((0:Int)) (IntKind.i64.wrap ((↑v8.length:Int) - (1:Int)))).bind fun (r2:Bool) =>
 bif !r2 then
 ret ((0:Int),Bool.false)
 else
 bif decide ((0:Int)≤v3) then
 bif decide (v3.toNat<v8.length) then
 bif decide ((0:Int)≤v4) then
 bif decide (v4.toNat<v8.length) then
 bif v2 == (2:Int) then
 (xi2d (v5) (v8.getD v3.toNat (0:Int))).bind fun (r3:Bool) =>
 ret (v8.getD v3.toNat (0:Int),r3)
 else
 bif v2 == (3:Int) then
 (xi23 (v6) (v8.getD v3.toNat (0:Int))).bind fun (r4:Bool) =>
 ret ((↑v6.length:Int),r4)
 else
 bif v2 == (4:Int) then
 (xi2o (v7) (v8.getD v3.toNat (0:Int)) (v8.getD v4.toNat (0:Int))).bind fun (r5:Bool) =>
 bif !r5 then
 ret ((0:Int),Bool.false)
 else
 (xi1i (v8.getD v3.toNat (0:Int)) (v8.getD v4.toNat (0:Int)) (v7)).bind fun (r6:Int) =>
 (xi2f (r6)).bind fun (r7:Bool) =>
 ret (r6,r7)
 else
 bif v2 == (5:Int) then
 bif v2 == (5:Int) then
 ret (v8.getD v3.toNat (0:Int),v8.getD v3.toNat (0:Int) == v8.getD v4.toNat (0:Int))
 else
 ret (v8.getD v3.toNat (0:Int),v2 == (7:Int))
 else
 bif v2 == (6:Int) then
 ret (v8.getD v3.toNat (0:Int),v8.getD v3.toNat (0:Int) == v8.getD v4.toNat (0:Int))
 else
 ret (v8.getD v3.toNat (0:Int),v2 == (7:Int))
 else
 none
 else
 none
 else
 none
 else
 none
theorem xi1f.u:∀ b,xi1f.un (xi1f.mk b)=b:=fun _ => by kernel_rfl
theorem xi1f.eq (v0 v1 v2 v3 v4 v5 v6 v7 v8) {b} (h:xi1f.t some v0 v1 v2 v3 v4 v5 v6 v7 v8=some b):xi1f v0 v1 v2 v3 v4 v5 v6 v7 v8=some b:=eqF xi1f.u Tryz.f63 (callT_le E tab) rfl rfl rfl (xi1f.t (rR xi1f.mk) v0 v1 v2 v3 v4 v5 v6 v7 v8) (by kernel_rfl) (by unfold xi1f.t; repeat' first | exact sR | exact sN | exact sL | apply sC | (apply sB; intro _)) h
def xi2d.t {γ:Type} (ret:(Bool)→Option γ) (v0:Ze) (v1:Int):Option γ :=
 bif decide ((↑v0.length:Int)≤(8:Int)) then
 (xi0r (v0) (v1)).bind fun (r0:Bool) =>
 ret (r0)
 else
 ret (Bool.false)
theorem xi2d.u:∀ b,xi2d.un (xi2d.mk b)=b:=fun _ => by kernel_rfl
theorem xi2d.eq (v0 v1) {b} (h:xi2d.t some v0 v1=some b):xi2d v0 v1=some b:=eqF xi2d.u Tryz.f105 (callT_le E tab) rfl rfl rfl (xi2d.t (rR xi2d.mk) v0 v1) (by kernel_rfl) (by unfold xi2d.t; repeat' first | exact sR | exact sN | exact sL | apply sC | (apply sB; intro _)) h
end
end GoV

/- Equations of the program's functions (printed by wip/tools/emit.py). -/
namespace GoV
open Go Go.Proofs
set_option maxRecDepth 100000
noncomputable section

def xi0r.t {γ:Type} (ret:(Bool)→Option γ) (v0:Ze) (v1:Int):Option γ :=
 (xs02 (v0) (v1)).bind fun (r0:Bool) =>
 ret (!r0)
theorem xi0r.u:∀ b,xi0r.un (xi0r.mk b)=b:=fun _ => by kernel_rfl
theorem xi0r.eq (v0 v1) {b} (h:xi0r.t some v0 v1=some b):xi0r v0 v1=some b:=eqF xi0r.u Tryz.f133 (callT_le E tab) rfl rfl rfl (xi0r.t (rR xi0r.mk) v0 v1) (by kernel_rfl) (by unfold xi0r.t; repeat' first | exact sR | exact sN | exact sL | apply sC | (apply sB; intro _)) h
def xs02.t {γ:Type} (ret:(Bool)→Option γ) (v0:Ze) (v1:Int):Option γ :=
 (xs03 (v0) (v1)).bind fun (r0:Int) =>
 ret (decide (r0 ≥ (0:Int)))
theorem xs02.u:∀ b,xs02.un (xs02.mk b)=b:=fun _ => by kernel_rfl
theorem xs02.eq (v0 v1) {b} (h:xs02.t some v0 v1=some b):xs02 v0 v1=some b:=eqF xs02.u Tryz.f155 (callT_le E tab) rfl rfl rfl (xs02.t (rR xs02.mk) v0 v1) (by kernel_rfl) (by unfold xs02.t; repeat' first | exact sR | exact sN | exact sL | apply sC | (apply sB; intro _)) h
def xs03.s2 (v0:Ze) (v1:Int) (v2:Int) (v3:Int):List Cell:=vc (.d .fro Yc v0)::vc (.fn 156 [.rp [.fn 134 [.rp [iL v1] 0]] 0])::nn 5 (vc (iL v2)::vc (iL v3)::nn 10 ([]))
def xs03.q2:=fun v0 v1 v2 v3 => loopAtL E (callT E tab) 163 Tryz.f163 2 [.r,.l,.r,.b] (xs03.s2 v0 v1 v2 v3)
def xs03.l2:=fun v0 v1 v2 v3 => tOf xs03.mk (xs03.q2 v0 v1 v2 v3)
def xs03.t {γ:Type} (ret:(Int)→Option γ) (lp2:Ze→Int→Int→Int→Option γ) (v0:Ze) (v1:Int):Option γ :=
 lp2 (v0) (v1) ((↑v0.length:Int)) ((0:Int))
def xs03.t2 {γ:Type} (ret:(Int)→Option γ) (lp2:Ze→Int→Int→Int→Option γ) (v0:Ze) (v1:Int) (v2:Int) (v3:Int):Option γ :=
 bif decide (v3<v2) then
 bif decide ((0:Int)≤v3) then
 bif decide (v3.toNat<v0.length) then
 (xi0p ((v0.getD v3.toNat ((0:Int),(0:Int),(0:Int))).fst) ((v0.getD v3.toNat ((0:Int),(0:Int),(0:Int))).snd.fst) ((v0.getD v3.toNat ((0:Int),(0:Int),(0:Int))).snd.snd) (v1)).bind fun (r0:Bool) =>
 bif r0 then
 ret (v3)
 else
 lp2 (v0) (v1) (v2) (IntKind.i64.wrap (v3+(1:Int)))
 else
 none
 else
 none
 else
 ret ((-1:Int))
theorem xs03.u:∀ b,xs03.un (xs03.mk b)=b:=fun _ => by kernel_rfl
theorem xs03.eq (v0 v1) {b} (h:xs03.t some xs03.l2 v0 v1=some b):xs03 v0 v1=some b:=eqF xs03.u Tryz.f163 (callT_le E tab) rfl rfl rfl (xs03.t (rR xs03.mk) xs03.q2 v0 v1) (by kernel_rfl) (by unfold xs03.t; repeat' first | exact sR | exact sN | exact sL | apply sC | (apply sB; intro _)) h
theorem xs03.eq2 (v0 v1 v2 v3) {b} (h:xs03.t2 some xs03.l2 v0 v1 v2 v3=some b):xs03.l2 v0 v1 v2 v3=some b:=eqL xs03.u (xs03.t2 (rR xs03.mk) xs03.q2 v0 v1 v2 v3) (by kernel_rfl) (by unfold xs03.t2; repeat' first | exact sR | exact sN | exact sL | apply sC | (apply sB; intro _)) h
def xi0p.t {γ:Type} (ret:(Bool)→Option γ) (v0:Int) (v1:Int) (v2:Int) (v3:Int):Option γ :=
 (xi1s (v0) (v1) (v2) (v3)).bind fun (r0:Bool) =>
 ret (!r0)
theorem xi0p.u:∀ b,xi0p.un (xi0p.mk b)=b:=fun _ => by kernel_rfl
theorem xi0p.eq (v0 v1 v2 v3) {b} (h:xi0p.t some v0 v1 v2 v3=some b):xi0p v0 v1 v2 v3=some b:=eqF xi0p.u Tryz.f156 (callT_le E tab) rfl rfl rfl (xi0p.t (rR xi0p.mk) v0 v1 v2 v3) (by kernel_rfl) (by unfold xi0p.t; repeat' first | exact sR | exact sN | exact sL | apply sC | (apply sB; intro _)) h
def xi1s.t {γ:Type} (ret:(Bool)→Option γ) (v0:Int) (v1:Int) (v2:Int) (v3:Int):Option γ :=
 (xi35 (v1) (v3)).bind fun (r0:Bool) =>
 bif !r0 then
 ret (Bool.false)
 else
 bif v0 == (4:Int) then
 (xi35 (v2) (v3)).bind fun (r1:Bool) =>
 ret (r1)
 else
 (xi3s (v0) ((1:Int)) ((3:Int))).bind fun (r2:Bool) =>
 bif r2 then
 (xi3p (v2)).bind fun (r3:Bool) =>
 ret (r3)
 else
 ret (Bool.false)
theorem xi1s.u:∀ b,xi1s.un (xi1s.mk b)=b:=fun _ => by kernel_rfl
theorem xi1s.eq (v0 v1 v2 v3) {b} (h:xi1s.t some v0 v1 v2 v3=some b):xi1s v0 v1 v2 v3=some b:=eqF xi1s.u Tryz.f134 (callT_le E tab) rfl rfl rfl (xi1s.t (rR xi1s.mk) v0 v1 v2 v3) (by kernel_rfl) (by unfold xi1s.t; repeat' first | exact sR | exact sN | exact sL | apply sC | (apply sB; intro _)) h
def xi35.t {γ:Type} (ret:(Bool)→Option γ) (v0:Int) (v1:Int):Option γ :=
 bif decide (v0 ≥ (0:Int)) then
 ret (decide (v0<v1))
 else
 ret (Bool.false)
theorem xi35.u:∀ b,xi35.un (xi35.mk b)=b:=fun _ => by kernel_rfl
theorem xi35.eq (v0 v1) {b} (h:xi35.t some v0 v1=some b):xi35 v0 v1=some b:=eqF xi35.u Tryz.f135 (callT_le E tab) rfl rfl rfl (xi35.t (rR xi35.mk) v0 v1) (by kernel_rfl) (by unfold xi35.t; repeat' first | exact sR | exact sN | exact sL | apply sC | (apply sB; intro _)) h
def xi3p.t {γ:Type} (ret:(Bool)→Option γ) (v0:Int):Option γ :=
 (xi3s (v0) ((-100000:Int)) ((100000:Int))).bind fun (r0:Bool) =>
 ret (r0)
theorem xi3p.u:∀ b,xi3p.un (xi3p.mk b)=b:=fun _ => by kernel_rfl
theorem xi3p.eq (v0) {b} (h:xi3p.t some v0=some b):xi3p v0=some b:=eqF xi3p.u Tryz.f136 (callT_le E tab) rfl rfl rfl (xi3p.t (rR xi3p.mk) v0) (by kernel_rfl) (by unfold xi3p.t; repeat' first | exact sR | exact sN | exact sL | apply sC | (apply sB; intro _)) h
def xi23.t {γ:Type} (ret:(Bool)→Option γ) (v0:List Int) (v1:Int):Option γ :=
 bif decide ((↑v0.length:Int)≤(6:Int)) then
 (xi0w (v0) (v1)).bind fun (r0:Bool) =>
 ret (r0)
 else
 ret (Bool.false)
theorem xi23.u:∀ b,xi23.un (xi23.mk b)=b:=fun _ => by kernel_rfl
theorem xi23.eq (v0 v1) {b} (h:xi23.t some v0 v1=some b):xi23 v0 v1=some b:=eqF xi23.u Tryz.f106 (callT_le E tab) rfl rfl rfl (xi23.t (rR xi23.mk) v0 v1) (by kernel_rfl) (by unfold xi23.t; repeat' first | exact sR | exact sN | exact sL | apply sC | (apply sB; intro _)) h
def xi0w.t {γ:Type} (ret:(Bool)→Option γ) (v0:List Int) (v1:Int):Option γ :=
 (xs05 (v0) (v1)).bind fun (r0:Bool) =>
 ret (!r0)
theorem xi0w.u:∀ b,xi0w.un (xi0w.mk b)=b:=fun _ => by kernel_rfl
theorem xi0w.eq (v0 v1) {b} (h:xi0w.t some v0 v1=some b):xi0w v0 v1=some b:=eqF xi0w.u Tryz.f61 (callT_le E tab) rfl rfl rfl (xi0w.t (rR xi0w.mk) v0 v1) (by kernel_rfl) (by unfold xi0w.t; repeat' first | exact sR | exact sN | exact sL | apply sC | (apply sB; intro _)) h
def xs05.t {γ:Type} (ret:(Bool)→Option γ) (v0:List Int) (v1:Int):Option γ :=
 (xs08 (v0) (v1)).bind fun (r0:Int) =>
 ret (decide (r0 ≥ (0:Int)))
theorem xs05.u:∀ b,xs05.un (xs05.mk b)=b:=fun _ => by kernel_rfl
theorem xs05.eq (v0 v1) {b} (h:xs05.t some v0 v1=some b):xs05 v0 v1=some b:=eqF xs05.u Tryz.f103 (callT_le E tab) rfl rfl rfl (xs05.t (rR xs05.mk) v0 v1) (by kernel_rfl) (by unfold xs05.t; repeat' first | exact sR | exact sN | exact sL | apply sC | (apply sB; intro _)) h
def xs08.s2 (v0:List Int) (v1:Int) (v2:Int) (v3:Int):List Cell:=vc (.d .fro (.sl (.int .i64)) v0)::vc (.fn 104 [.rp [.fn 137 [.rp [iL v1] 0]] 0])::nn 5 (vc (iL v2)::vc (iL v3)::nn 10 ([]))
def xs08.q2:=fun v0 v1 v2 v3 => loopAtL E (callT E tab) 132 Tryz.f132 2 [.r,.l,.r,.b] (xs08.s2 v0 v1 v2 v3)
def xs08.l2:=fun v0 v1 v2 v3 => tOf xs08.mk (xs08.q2 v0 v1 v2 v3)
def xs08.t {γ:Type} (ret:(Int)→Option γ) (lp2:(List Int)→Int→Int→Int→Option γ) (v0:List Int) (v1:Int):Option γ :=
 lp2 (v0) (v1) ((↑v0.length:Int)) ((0:Int))
def xs08.t2 {γ:Type} (ret:(Int)→Option γ) (lp2:(List Int)→Int→Int→Int→Option γ) (v0:List Int) (v1:Int) (v2:Int) (v3:Int):Option γ :=
 bif decide (v3<v2) then
 bif decide ((0:Int)≤v3) then
 bif decide (v3.toNat<v0.length) then
 (xi0u (v0.getD v3.toNat (0:Int)) (v1)).bind fun (r0:Bool) =>
 bif r0 then
 ret (v3)
 else
 lp2 (v0) (v1) (v2) (IntKind.i64.wrap (v3+(1:Int)))
 else
 none
 else
 none
 else
 ret ((-1:Int))
theorem xs08.u:∀ b,xs08.un (xs08.mk b)=b:=fun _ => by kernel_rfl
theorem xs08.eq (v0 v1) {b} (h:xs08.t some xs08.l2 v0 v1=some b):xs08 v0 v1=some b:=eqF xs08.u Tryz.f132 (callT_le E tab) rfl rfl rfl (xs08.t (rR xs08.mk) xs08.q2 v0 v1) (by kernel_rfl) (by unfold xs08.t; repeat' first | exact sR | exact sN | exact sL | apply sC | (apply sB; intro _)) h
theorem xs08.eq2 (v0 v1 v2 v3) {b} (h:xs08.t2 some xs08.l2 v0 v1 v2 v3=some b):xs08.l2 v0 v1 v2 v3=some b:=eqL xs08.u (xs08.t2 (rR xs08.mk) xs08.q2 v0 v1 v2 v3) (by kernel_rfl) (by unfold xs08.t2; repeat' first | exact sR | exact sN | exact sL | apply sC | (apply sB; intro _)) h
def xi0u.t {γ:Type} (ret:(Bool)→Option γ) (v0:Int) (v1:Int):Option γ :=
 (xi1p (v0) (v1)).bind fun (r0:Bool) =>
 ret (!r0)
theorem xi0u.u:∀ b,xi0u.un (xi0u.mk b)=b:=fun _ => by kernel_rfl
theorem xi0u.eq (v0 v1) {b} (h:xi0u.t some v0 v1=some b):xi0u v0 v1=some b:=eqF xi0u.u Tryz.f104 (callT_le E tab) rfl rfl rfl (xi0u.t (rR xi0u.mk) v0 v1) (by kernel_rfl) (by unfold xi0u.t; repeat' first | exact sR | exact sN | exact sL | apply sC | (apply sB; intro _)) h
def xi1p.t {γ:Type} (ret:(Bool)→Option γ) (v0:Int) (v1:Int):Option γ :=
 (xi35 (v0) (v1)).bind fun (r0:Bool) =>
 ret (r0)
theorem xi1p.u:∀ b,xi1p.un (xi1p.mk b)=b:=fun _ => by kernel_rfl
theorem xi1p.eq (v0 v1) {b} (h:xi1p.t some v0 v1=some b):xi1p v0 v1=some b:=eqF xi1p.u Tryz.f137 (callT_le E tab) rfl rfl rfl (xi1p.t (rR xi1p.mk) v0 v1) (by kernel_rfl) (by unfold xi1p.t; repeat' first | exact sR | exact sN | exact sL | apply sC | (apply sB; intro _)) h
def xi2o.t {γ:Type} (ret:(Bool)→Option γ) (v0:Zg) (v1:Int) (v2:Int):Option γ :=
 bif decide ((↑v0.length:Int)≤(6:Int)) then
 (xi0z (v0) (v1) (v2)).bind fun (r0:Bool) =>
 ret (r0)
 else
 ret (Bool.false)
theorem xi2o.u:∀ b,xi2o.un (xi2o.mk b)=b:=fun _ => by kernel_rfl
theorem xi2o.eq (v0 v1 v2) {b} (h:xi2o.t some v0 v1 v2=some b):xi2o v0 v1 v2=some b:=eqF xi2o.u Tryz.f107 (callT_le E tab) rfl rfl rfl (xi2o.t (rR xi2o.mk) v0 v1 v2) (by kernel_rfl) (by unfold xi2o.t; repeat' first | exact sR | exact sN | exact sL | apply sC | (apply sB; intro _)) h
def xi0z.t {γ:Type} (ret:(Bool)→Option γ) (v0:Zg) (v1:Int) (v2:Int):Option γ :=
 (xs06 (v0) (v1) (v2)).bind fun (r0:Bool) =>
 ret (!r0)
theorem xi0z.u:∀ b,xi0z.un (xi0z.mk b)=b:=fun _ => by kernel_rfl
theorem xi0z.eq (v0 v1 v2) {b} (h:xi0z.t some v0 v1 v2=some b):xi0z v0 v1 v2=some b:=eqF xi0z.u Tryz.f138 (callT_le E tab) rfl rfl rfl (xi0z.t (rR xi0z.mk) v0 v1 v2) (by kernel_rfl) (by unfold xi0z.t; repeat' first | exact sR | exact sN | exact sL | apply sC | (apply sB; intro _)) h
def xs06.t {γ:Type} (ret:(Bool)→Option γ) (v0:Zg) (v1:Int) (v2:Int):Option γ :=
 (xs0b (v0) (v1) (v2)).bind fun (r0:Int) =>
 ret (decide (r0 ≥ (0:Int)))
theorem xs06.u:∀ b,xs06.un (xs06.mk b)=b:=fun _ => by kernel_rfl
theorem xs06.eq (v0 v1 v2) {b} (h:xs06.t some v0 v1 v2=some b):xs06 v0 v1 v2=some b:=eqF xs06.u Tryz.f157 (callT_le E tab) rfl rfl rfl (xs06.t (rR xs06.mk) v0 v1 v2) (by kernel_rfl) (by unfold xs06.t; repeat' first | exact sR | exact sN | exact sL | apply sC | (apply sB; intro _)) h
def xs0b.s2 (v0:Zg) (v1:Int) (v2:Int) (v3:Int) (v4:Int):List Cell:=vc (.d .fro Ye v0)::vc (.fn 158 [.rp [.fn 139 [.rp [iL v1] 0,.rp [iL v2] 0]] 0])::nn 5 (vc (iL v3)::vc (iL v4)::nn 10 ([]))
def xs0b.q2:=fun v0 v1 v2 v3 v4 => loopAtL E (callT E tab) 164 Tryz.f164 2 [.r,.l,.r,.b] (xs0b.s2 v0 v1 v2 v3 v4)
def xs0b.l2:=fun v0 v1 v2 v3 v4 => tOf xs0b.mk (xs0b.q2 v0 v1 v2 v3 v4)
def xs0b.t {γ:Type} (ret:(Int)→Option γ) (lp2:Zg→Int→Int→Int→Int→Option γ) (v0:Zg) (v1:Int) (v2:Int):Option γ :=
 lp2 (v0) (v1) (v2) ((↑v0.length:Int)) ((0:Int))
def xs0b.t2 {γ:Type} (ret:(Int)→Option γ) (lp2:Zg→Int→Int→Int→Int→Option γ) (v0:Zg) (v1:Int) (v2:Int) (v3:Int) (v4:Int):Option γ :=
 bif decide (v4<v3) then
 bif decide ((0:Int)≤v4) then
 bif decide (v4.toNat<v0.length) then
 (xi0v (v0.getD v4.toNat []) (v1) (v2)).bind fun (r0:Bool) =>
 bif r0 then
 ret (v4)
 else
 lp2 (v0) (v1) (v2) (v3) (IntKind.i64.wrap (v4+(1:Int)))
 else
 none
 else
 none
 else
 ret ((-1:Int))
theorem xs0b.u:∀ b,xs0b.un (xs0b.mk b)=b:=fun _ => by kernel_rfl
theorem xs0b.eq (v0 v1 v2) {b} (h:xs0b.t some xs0b.l2 v0 v1 v2=some b):xs0b v0 v1 v2=some b:=eqF xs0b.u Tryz.f164 (callT_le E tab) rfl rfl rfl (xs0b.t (rR xs0b.mk) xs0b.q2 v0 v1 v2) (by kernel_rfl) (by unfold xs0b.t; repeat' first | exact sR | exact sN | exact sL | apply sC | (apply sB; intro _)) h
theorem xs0b.eq2 (v0 v1 v2 v3 v4) {b} (h:xs0b.t2 some xs0b.l2 v0 v1 v2 v3 v4=some b):xs0b.l2 v0 v1 v2 v3 v4=some b:=eqL xs0b.u (xs0b.t2 (rR xs0b.mk) xs0b.q2 v0 v1 v2 v3 v4) (by kernel_rfl) (by unfold xs0b.t2; repeat' first | exact sR | exact sN | exact sL | apply sC | (apply sB; intro _)) h
def xi0v.t {γ:Type} (ret:(Bool)→Option γ) (v0:List Int) (v1:Int) (v2:Int):Option γ :=
 (xi24 (v0) (v1) (v2)).bind fun (r0:Bool) =>
 ret (!r0)
theorem xi0v.u:∀ b,xi0v.un (xi0v.mk b)=b:=fun _ => by kernel_rfl
theorem xi0v.eq (v0 v1 v2) {b} (h:xi0v.t some v0 v1 v2=some b):xi0v v0 v1 v2=some b:=eqF xi0v.u Tryz.f158 (callT_le E tab) rfl rfl rfl (xi0v.t (rR xi0v.mk) v0 v1 v2) (by kernel_rfl) (by unfold xi0v.t; repeat' first | exact sR | exact sN | exact sL | apply sC | (apply sB; intro _)) h
def xi24.t {γ:Type} (ret:(Bool)→Option γ) (v0:List Int) (v1:Int) (v2:Int):Option γ :=
 bif (↑v0.length:Int) == (2:Int) then
 bif decide (Int.toNat (0:Int)<v0.length) then
 (xi35 (v0.getD (Int.toNat (0:Int)) (0:Int)) (v1)).bind fun (r0:Bool) =>
 bif r0 then
 bif decide (Int.toNat (1:Int)<v0.length) then
 (xi35 (v0.getD (Int.toNat (1:Int)) (0:Int)) (v2)).bind fun (r1:Bool) =>
 ret (r1)
 else
 none
 else
 ret (Bool.false)
 else
 none
 else
 ret (Bool.false)
theorem xi24.u:∀ b,xi24.un (xi24.mk b)=b:=fun _ => by kernel_rfl
theorem xi24.eq (v0 v1 v2) {b} (h:xi24.t some v0 v1 v2=some b):xi24 v0 v1 v2=some b:=eqF xi24.u Tryz.f139 (callT_le E tab) rfl rfl rfl (xi24.t (rR xi24.mk) v0 v1 v2) (by kernel_rfl) (by unfold xi24.t; repeat' first | exact sR | exact sN | exact sL | apply sC | (apply sB; intro _)) h
def xi1i.t {γ:Type} (ret:(Int)→Option γ) (v0:Int) (v1:Int) (v2:Zg):Option γ :=
 (xi2s (v1) (v2)).bind fun (r0:(List Int)) =>
 ret (IntKind.i64.wrap (v0+(↑r0.length:Int)))
theorem xi1i.u:∀ b,xi1i.un (xi1i.mk b)=b:=fun _ => by kernel_rfl
theorem xi1i.eq (v0 v1 v2) {b} (h:xi1i.t some v0 v1 v2=some b):xi1i v0 v1 v2=some b:=eqF xi1i.u Tryz.f108 (callT_le E tab) rfl rfl rfl (xi1i.t (rR xi1i.mk) v0 v1 v2) (by kernel_rfl) (by unfold xi1i.t; repeat' first | exact sR | exact sN | exact sL | apply sC | (apply sB; intro _)) h
end
end GoV

/- Equations of the program's functions (printed by wip/tools/emit.py). -/
namespace GoV
open Go Go.Proofs
set_option maxRecDepth 100000
noncomputable section

def xi2s.s3 (v0:Zg) (v1:List Int) (v2:Int) (v3:Int):List Cell:=nn 1 (vc (.d .fro Ye v0)::nn 3 (vc (.d .deep (.sl (.int .i64)) v1)::nn 1 (vc (iL v2)::vc (iL v3)::nn 12 ([]))))
def xi2s.q3:=fun v0 v1 v2 v3 => loopAtL E (callT E tab) 140 Tryz.f140 2 [.r,.r,.l,.r,.b] (xi2s.s3 v0 v1 v2 v3)
def xi2s.l3:=fun v0 v1 v2 v3 => tOf xi2s.mk (xi2s.q3 v0 v1 v2 v3)
def xi2s.t {γ:Type} (ret:((List Int))→Option γ) (lp3:Zg→(List Int)→Int→Int→Option γ) (v0:Int) (v1:Zg):Option γ :=
 lp3 (v1) ([]) (v0) ((0:Int))
def xi2s.t3 {γ:Type} (ret:((List Int))→Option γ) (lp3:Zg→(List Int)→Int→Int→Option γ) (v0:Zg) (v1:List Int) (v2:Int) (v3:Int):Option γ :=
 bif decide (v3<v2) then
 (xs0m (v0) (v3)).bind fun (r0:Bool) =>
 bif !r0 then
 bif decide (v1.length+[v3].length≤(4294967296:Nat)) then
 lp3 (v0) (v1 ++ [v3]) (v2) (IntKind.i64.wrap (v3+(1:Int)))
 else
 none
 else
 lp3 (v0) (v1) (v2) (IntKind.i64.wrap (v3+(1:Int)))
 else
 ret (v1)
theorem xi2s.u:∀ b,xi2s.un (xi2s.mk b)=b:=fun _ => by kernel_rfl
theorem xi2s.eq (v0 v1) {b} (h:xi2s.t some xi2s.l3 v0 v1=some b):xi2s v0 v1=some b:=eqF xi2s.u Tryz.f140 (callT_le E tab) rfl rfl rfl (xi2s.t (rR xi2s.mk) xi2s.q3 v0 v1) (by kernel_rfl) (by unfold xi2s.t; repeat' first | exact sR | exact sN | exact sL | apply sC | (apply sB; intro _)) h
theorem xi2s.eq3 (v0 v1 v2 v3) {b} (h:xi2s.t3 some xi2s.l3 v0 v1 v2 v3=some b):xi2s.l3 v0 v1 v2 v3=some b:=eqL xi2s.u (xi2s.t3 (rR xi2s.mk) xi2s.q3 v0 v1 v2 v3) (by kernel_rfl) (by unfold xi2s.t3; repeat' first | exact sR | exact sN | exact sL | apply sC | (apply sB; intro _)) h
def xs0m.t {γ:Type} (ret:(Bool)→Option γ) (v0:Zg) (v1:Int):Option γ :=
 (xs0q (v0) (v1)).bind fun (r0:Int) =>
 ret (decide (r0 ≥ (0:Int)))
theorem xs0m.u:∀ b,xs0m.un (xs0m.mk b)=b:=fun _ => by kernel_rfl
theorem xs0m.eq (v0 v1) {b} (h:xs0m.t some v0 v1=some b):xs0m v0 v1=some b:=eqF xs0m.u Tryz.f157 (callT_le E tab) rfl rfl rfl (xs0m.t (rR xs0m.mk) v0 v1) (by kernel_rfl) (by unfold xs0m.t; repeat' first | exact sR | exact sN | exact sL | apply sC | (apply sB; intro _)) h
def xs0q.s2 (v0:Zg) (v1:Int) (v2:Int) (v3:Int):List Cell:=vc (.d .fro Ye v0)::vc (.fn 159 [.rp [iL v1] 0])::nn 5 (vc (iL v2)::vc (iL v3)::nn 10 ([]))
def xs0q.q2:=fun v0 v1 v2 v3 => loopAtL E (callT E tab) 164 Tryz.f164 2 [.r,.l,.r,.b] (xs0q.s2 v0 v1 v2 v3)
def xs0q.l2:=fun v0 v1 v2 v3 => tOf xs0q.mk (xs0q.q2 v0 v1 v2 v3)
def xs0q.t {γ:Type} (ret:(Int)→Option γ) (lp2:Zg→Int→Int→Int→Option γ) (v0:Zg) (v1:Int):Option γ :=
 lp2 (v0) (v1) ((↑v0.length:Int)) ((0:Int))
def xs0q.t2 {γ:Type} (ret:(Int)→Option γ) (lp2:Zg→Int→Int→Int→Option γ) (v0:Zg) (v1:Int) (v2:Int) (v3:Int):Option γ :=
 bif decide (v3<v2) then
 bif decide ((0:Int)≤v3) then
 bif decide (v3.toNat<v0.length) then
 (xi25 (v0.getD v3.toNat []) (v1)).bind fun (r0:Bool) =>
 bif r0 then
 ret (v3)
 else
 lp2 (v0) (v1) (v2) (IntKind.i64.wrap (v3+(1:Int)))
 else
 none
 else
 none
 else
 ret ((-1:Int))
theorem xs0q.u:∀ b,xs0q.un (xs0q.mk b)=b:=fun _ => by kernel_rfl
theorem xs0q.eq (v0 v1) {b} (h:xs0q.t some xs0q.l2 v0 v1=some b):xs0q v0 v1=some b:=eqF xs0q.u Tryz.f164 (callT_le E tab) rfl rfl rfl (xs0q.t (rR xs0q.mk) xs0q.q2 v0 v1) (by kernel_rfl) (by unfold xs0q.t; repeat' first | exact sR | exact sN | exact sL | apply sC | (apply sB; intro _)) h
theorem xs0q.eq2 (v0 v1 v2 v3) {b} (h:xs0q.t2 some xs0q.l2 v0 v1 v2 v3=some b):xs0q.l2 v0 v1 v2 v3=some b:=eqL xs0q.u (xs0q.t2 (rR xs0q.mk) xs0q.q2 v0 v1 v2 v3) (by kernel_rfl) (by unfold xs0q.t2; repeat' first | exact sR | exact sN | exact sL | apply sC | (apply sB; intro _)) h
def xi25.t {γ:Type} (ret:(Bool)→Option γ) (v0:List Int) (v1:Int):Option γ :=
 bif decide (Int.toNat (1:Int)<v0.length) then
 ret (v0.getD (Int.toNat (1:Int)) (0:Int) == v1)
 else
 none
theorem xi25.u:∀ b,xi25.un (xi25.mk b)=b:=fun _ => by kernel_rfl
theorem xi25.eq (v0 v1) {b} (h:xi25.t some v0 v1=some b):xi25 v0 v1=some b:=eqF xi25.u Tryz.f159 (callT_le E tab) rfl rfl rfl (xi25.t (rR xi25.mk) v0 v1) (by kernel_rfl) (by unfold xi25.t; repeat' first | exact sR | exact sN | exact sL | apply sC | (apply sB; intro _)) h
def xi2e.t {γ:Type} (ret:(Bool)→Option γ) (v0:Int) (v1:Int) (v2:Int) (v3:Ze) (v4:List Int) (v5:Zg):Option γ :=
 bif v0 == (4:Int) then
 bif v0 == (2:Int) then
 bif v0 == (3:Int) then
 bif v0 == (4:Int) then
 ret (Bool.true)
 else
 ret ((↑v5.length:Int) == (0:Int))
 else
 bif (↑v4.length:Int) == (0:Int) then
 bif v0 == (4:Int) then
 ret (Bool.true)
 else
 ret ((↑v5.length:Int) == (0:Int))
 else
 ret (Bool.false)
 else
 bif (↑v3.length:Int) == (0:Int) then
 bif v0 == (3:Int) then
 bif v0 == (4:Int) then
 ret (Bool.true)
 else
 ret ((↑v5.length:Int) == (0:Int))
 else
 bif (↑v4.length:Int) == (0:Int) then
 bif v0 == (4:Int) then
 ret (Bool.true)
 else
 ret ((↑v5.length:Int) == (0:Int))
 else
 ret (Bool.false)
 else
 ret (Bool.false)
 else
 bif v0 == (5:Int) then
 bif v0 == (2:Int) then
 bif v0 == (3:Int) then
 bif v0 == (4:Int) then
 ret (Bool.true)
 else
 ret ((↑v5.length:Int) == (0:Int))
 else
 bif (↑v4.length:Int) == (0:Int) then
 bif v0 == (4:Int) then
 ret (Bool.true)
 else
 ret ((↑v5.length:Int) == (0:Int))
 else
 ret (Bool.false)
 else
 bif (↑v3.length:Int) == (0:Int) then
 bif v0 == (3:Int) then
 bif v0 == (4:Int) then
 ret (Bool.true)
 else
 ret ((↑v5.length:Int) == (0:Int))
 else
 bif (↑v4.length:Int) == (0:Int) then
 bif v0 == (4:Int) then
 ret (Bool.true)
 else
 ret ((↑v5.length:Int) == (0:Int))
 else
 ret (Bool.false)
 else
 ret (Bool.false)
 else
 bif v0 == (6:Int) then
 bif v0 == (2:Int) then
 bif v0 == (3:Int) then
 bif v0 == (4:Int) then
 ret (Bool.true)
 else
 ret ((↑v5.length:Int) == (0:Int))
 else
 bif (↑v4.length:Int) == (0:Int) then
 bif v0 == (4:Int) then
 ret (Bool.true)
 else
 ret ((↑v5.length:Int) == (0:Int))
 else
 ret (Bool.false)
 else
 bif (↑v3.length:Int) == (0:Int) then
 bif v0 == (3:Int) then
 bif v0 == (4:Int) then
 ret (Bool.true)
 else
 ret ((↑v5.length:Int) == (0:Int))
 else
 bif (↑v4.length:Int) == (0:Int) then
 bif v0 == (4:Int) then
 ret (Bool.true)
 else
 ret ((↑v5.length:Int) == (0:Int))
 else
 ret (Bool.false)
 else
 ret (Bool.false)
 else
 bif v2 == (0:Int) then
 bif v0 == (2:Int) then
 bif v0 == (3:Int) then
 bif v0 == (4:Int) then
 ret (Bool.true)
 else
 ret ((↑v5.length:Int) == (0:Int))
 else
 bif (↑v4.length:Int) == (0:Int) then
 bif v0 == (4:Int) then
 ret (Bool.true)
 else
 ret ((↑v5.length:Int) == (0:Int))
 else
 ret (Bool.false)
 else
 bif (↑v3.length:Int) == (0:Int) then
 bif v0 == (3:Int) then
 bif v0 == (4:Int) then
 ret (Bool.true)
 else
 ret ((↑v5.length:Int) == (0:Int))
 else
 bif (↑v4.length:Int) == (0:Int) then
 bif v0 == (4:Int) then
 ret (Bool.true)
 else
 ret ((↑v5.length:Int) == (0:Int))
 else
 ret (Bool.false)
 else
 ret (Bool.false)
 else
 ret (Bool.false)
theorem xi2e.u:∀ b,xi2e.un (xi2e.mk b)=b:=fun _ => by kernel_rfl
theorem xi2e.eq (v0 v1 v2 v3 v4 v5) {b} (h:xi2e.t some v0 v1 v2 v3 v4 v5=some b):xi2e v0 v1 v2 v3 v4 v5=some b:=eqF xi2e.u Tryz.f64 (callT_le E tab) rfl rfl rfl (xi2e.t (rR xi2e.mk) v0 v1 v2 v3 v4 v5) (by kernel_rfl) (by unfold xi2e.t; repeat' first | exact sR | exact sN | exact sL | apply sC | (apply sB; intro _)) h
def xi22.s4 (v0:List Int) (v1:Za) (v2:Zb) (v3:Int) (v4:Int):List Cell:=nn 2 (⟨(.box false),[.d .fro (.sl (.int .i64)) v0,.d .fro Ya v1],false,false,false,0,0⟩::nn 10 (vc (.d .fro Yb v2)::vc (iL v3)::vc (iL v4)::nn 18 ([])))
def xi22.q4:=fun v0 v1 v2 v3 v4 => loopAtL E (callT E tab) 34 Tryz.f34 2 [.r,.r,.l,.r,.b] (xi22.s4 v0 v1 v2 v3 v4)
def xi22.l4:=fun v0 v1 v2 v3 v4 => tOf xi22.mk (xi22.q4 v0 v1 v2 v3 v4)
def xi22.t {γ:Type} (ret:(Bool)→Option γ) (lp4:(List Int)→Za→Zb→Int→Int→Option γ) (v0:List Int) (v1:Za) (v2:Zb):Option γ :=
 bif (↑v2.length:Int) != (↑v0.length:Int) then
 ret (Bool.false)
 else
 lp4 (v0) (v1) (v2) ((↑v2.length:Int)) ((0:Int))
def xi22.t4 {γ:Type} (ret:(Bool)→Option γ) (lp4:(List Int)→Za→Zb→Int→Int→Option γ) (v0:List Int) (v1:Za) (v2:Zb) (v3:Int) (v4:Int):Option γ :=
 bif decide (v4<v3) then
 bif decide ((0:Int)≤v4) then
 bif decide (v4.toNat<v2.length) then
 (xi2c ((v2.getD v4.toNat ((0:Int),[])).fst) ((v2.getD v4.toNat ((0:Int),[])).snd)).bind fun (r0:Bool) =>
 bif !r0 then
 ret (Bool.false)
 else
 bif decide ((0:Int)≤v4) then
 bif decide (v4.toNat<v0.length) then
 bif (v2.getD v4.toNat ((0:Int),[])).fst != v0.getD v4.toNat (0:Int) then
 ret (Bool.false)
 else
 lp4 (v0) (v1) (v2) (v3) (IntKind.i64.wrap (v4+(1:Int)))
 else
 none
 else
 none
 else
 none
 else
 none
 else
 ret (Bool.true)
theorem xi22.u:∀ b,xi22.un (xi22.mk b)=b:=fun _ => by kernel_rfl
theorem xi22.eq (v0 v1 v2) {b} (h:xi22.t some xi22.l4 v0 v1 v2=some b):xi22 v0 v1 v2=some b:=eqF xi22.u Tryz.f34 (callT_le E tab) rfl rfl rfl (xi22.t (rR xi22.mk) xi22.q4 v0 v1 v2) (by kernel_rfl) (by unfold xi22.t; repeat' first | exact sR | exact sN | exact sL | apply sC | (apply sB; intro _)) h
theorem xi22.eq4 (v0 v1 v2 v3 v4) {b} (h:xi22.t4 some xi22.l4 v0 v1 v2 v3 v4=some b):xi22.l4 v0 v1 v2 v3 v4=some b:=eqL xi22.u (xi22.t4 (rR xi22.mk) xi22.q4 v0 v1 v2 v3 v4) (by kernel_rfl) (by unfold xi22.t4; repeat' first | exact sR | exact sN | exact sL | apply sC | (apply sB; intro _)) h
def xi2c.s4 (v0:Int) (v1:Zd) (v2:Zd) (v3:Int) (v4:Int):List Cell:=nn 1 (⟨(.box false),[iL v0,.d .fro Yd v1],false,false,false,0,0⟩::nn 14 (vc (.d .fro Yd v2)::vc (iL v3)::vc (iL v4)::nn 39 ([])))
def xi2c.q4:=fun v0 v1 v2 v3 v4 => loopAtL E (callT E tab) 36 Tryz.f36 1 [.r,.r,.l,.r,.b] (xi2c.s4 v0 v1 v2 v3 v4)
def xi2c.l4:=fun v0 v1 v2 v3 v4 => tOf xi2c.mk (xi2c.q4 v0 v1 v2 v3 v4)
def xi2c.t {γ:Type} (ret:(Bool)→Option γ) (lp4:Int→Zd→Zd→Int→Int→Option γ) (v0:Int) (v1:Zd):Option γ :=
 (xi2f (v0)).bind fun (r0:Bool) =>
 bif !r0 then
 ret (Bool.false)
 else
 bif decide ((↑v1.length:Int) > (60:Int)) then
 ret (Bool.false)
 else
 lp4 (v0) (v1) (v1) ((↑v1.length:Int)) ((0:Int))
def xi2c.t4 {γ:Type} (ret:(Bool)→Option γ) (lp4:Int→Zd→Zd→Int→Int→Option γ) (v0:Int) (v1:Zd) (v2:Zd) (v3:Int) (v4:Int):Option γ :=
 bif decide (v4<v3) then
 bif decide ((0:Int)≤v4) then
 bif decide (v4.toNat<v2.length) then
 (xi36 ((v2.getD v4.toNat ([],(0:Int))).fst) (v0)).bind fun (r1:Bool) =>
 bif !r1 then
 ret (Bool.false)
 else
 (xi2p ((v2.getD v4.toNat ([],(0:Int))).snd)).bind fun (r2:Bool) =>
 bif !r2 then
 ret (Bool.false)
 else
 bif (v2.getD v4.toNat ([],(0:Int))).snd == (0:Int) then
 ret (Bool.false)
 else
 bif decide (v4 > (0:Int)) then
 bif decide ((0:Int)≤IntKind.i64.wrap (v4 - (1:Int))) then
 bif decide ((IntKind.i64.wrap (v4 - (1:Int))).toNat<v1.length) then
 (xi1v ((v1.getD (IntKind.i64.wrap (v4 - (1:Int))).toNat ([],(0:Int))).fst) ((v2.getD v4.toNat ([],(0:Int))).fst)).bind fun (r3:Int) =>
 bif decide (r3 ≥ (0:Int)) then
 ret (Bool.false)
 else
 lp4 (v0) (v1) (v2) (v3) (IntKind.i64.wrap (v4+(1:Int)))
 else
 none
 else
 none
 else
 lp4 (v0) (v1) (v2) (v3) (IntKind.i64.wrap (v4+(1:Int)))
 else
 none
 else
 none
 else
 ret (Bool.true)
theorem xi2c.u:∀ b,xi2c.un (xi2c.mk b)=b:=fun _ => by kernel_rfl
theorem xi2c.eq (v0 v1) {b} (h:xi2c.t some xi2c.l4 v0 v1=some b):xi2c v0 v1=some b:=eqF xi2c.u Tryz.f36 (callT_le E tab) rfl rfl rfl (xi2c.t (rR xi2c.mk) xi2c.q4 v0 v1) (by kernel_rfl) (by unfold xi2c.t; repeat' first | exact sR | exact sN | exact sL | apply sC | (apply sB; intro _)) h
theorem xi2c.eq4 (v0 v1 v2 v3 v4) {b} (h:xi2c.t4 some xi2c.l4 v0 v1 v2 v3 v4=some b):xi2c.l4 v0 v1 v2 v3 v4=some b:=eqL xi2c.u (xi2c.t4 (rR xi2c.mk) xi2c.q4 v0 v1 v2 v3 v4) (by kernel_rfl) (by unfold xi2c.t4; repeat' first | exact sR | exact sN | exact sL | apply sC | (apply sB; intro _)) h
def xi36.t {γ:Type} (ret:(Bool)→Option γ) (v0:List Int) (v1:Int):Option γ :=
 (xi31 (v0)).bind fun (r0:Bool) =>
 bif r0 then
 ret ((↑v0.length:Int) == v1)
 else
 ret (Bool.false)
theorem xi36.u:∀ b,xi36.un (xi36.mk b)=b:=fun _ => by kernel_rfl
theorem xi36.eq (v0 v1) {b} (h:xi36.t some v0 v1=some b):xi36 v0 v1=some b:=eqF xi36.u Tryz.f68 (callT_le E tab) rfl rfl rfl (xi36.t (rR xi36.mk) v0 v1) (by kernel_rfl) (by unfold xi36.t; repeat' first | exact sR | exact sN | exact sL | apply sC | (apply sB; intro _)) h
def xi31.t {γ:Type} (ret:(Bool)→Option γ) (v0:List Int):Option γ :=
 bif decide ((↑v0.length:Int)≤(6:Int)) then
 (xi13 (v0)).bind fun (r0:Bool) =>
 ret (r0)
 else
 ret (Bool.false)
theorem xi31.u:∀ b,xi31.un (xi31.mk b)=b:=fun _ => by kernel_rfl
theorem xi31.eq (v0) {b} (h:xi31.t some v0=some b):xi31 v0=some b:=eqF xi31.u Tryz.f116 (callT_le E tab) rfl rfl rfl (xi31.t (rR xi31.mk) v0) (by kernel_rfl) (by unfold xi31.t; repeat' first | exact sR | exact sN | exact sL | apply sC | (apply sB; intro _)) h
def xi13.t {γ:Type} (ret:(Bool)→Option γ) (v0:List Int):Option γ :=
 (xs0c (v0)).bind fun (r0:Bool) =>
 ret (!r0)
theorem xi13.u:∀ b,xi13.un (xi13.mk b)=b:=fun _ => by kernel_rfl
theorem xi13.eq (v0) {b} (h:xi13.t some v0=some b):xi13 v0=some b:=eqF xi13.u Tryz.f61 (callT_le E tab) rfl rfl rfl (xi13.t (rR xi13.mk) v0) (by kernel_rfl) (by unfold xi13.t; repeat' first | exact sR | exact sN | exact sL | apply sC | (apply sB; intro _)) h
def xs0c.t {γ:Type} (ret:(Bool)→Option γ) (v0:List Int):Option γ :=
 (xs0g (v0)).bind fun (r0:Int) =>
 ret (decide (r0 ≥ (0:Int)))
theorem xs0c.u:∀ b,xs0c.un (xs0c.mk b)=b:=fun _ => by kernel_rfl
theorem xs0c.eq (v0) {b} (h:xs0c.t some v0=some b):xs0c v0=some b:=eqF xs0c.u Tryz.f103 (callT_le E tab) rfl rfl rfl (xs0c.t (rR xs0c.mk) v0) (by kernel_rfl) (by unfold xs0c.t; repeat' first | exact sR | exact sN | exact sL | apply sC | (apply sB; intro _)) h
def xs0g.s2 (v0:List Int) (v1:Int) (v2:Int):List Cell:=vc (.d .fro (.sl (.int .i64)) v0)::vc (.fn 104 [.rp [.fn 136 []] 0])::nn 5 (vc (iL v1)::vc (iL v2)::nn 10 ([]))
def xs0g.q2:=fun v0 v1 v2 => loopAtL E (callT E tab) 132 Tryz.f132 2 [.r,.l,.r,.b] (xs0g.s2 v0 v1 v2)
def xs0g.l2:=fun v0 v1 v2 => tOf xs0g.mk (xs0g.q2 v0 v1 v2)
def xs0g.t {γ:Type} (ret:(Int)→Option γ) (lp2:(List Int)→Int→Int→Option γ) (v0:List Int):Option γ :=
 lp2 (v0) ((↑v0.length:Int)) ((0:Int))
def xs0g.t2 {γ:Type} (ret:(Int)→Option γ) (lp2:(List Int)→Int→Int→Option γ) (v0:List Int) (v1:Int) (v2:Int):Option γ :=
 bif decide (v2<v1) then
 bif decide ((0:Int)≤v2) then
 bif decide (v2.toNat<v0.length) then
 (xi11 (v0.getD v2.toNat (0:Int))).bind fun (r0:Bool) =>
 bif r0 then
 ret (v2)
 else
 lp2 (v0) (v1) (IntKind.i64.wrap (v2+(1:Int)))
 else
 none
 else
 none
 else
 ret ((-1:Int))
theorem xs0g.u:∀ b,xs0g.un (xs0g.mk b)=b:=fun _ => by kernel_rfl
theorem xs0g.eq (v0) {b} (h:xs0g.t some xs0g.l2 v0=some b):xs0g v0=some b:=eqF xs0g.u Tryz.f132 (callT_le E tab) rfl rfl rfl (xs0g.t (rR xs0g.mk) xs0g.q2 v0) (by kernel_rfl) (by unfold xs0g.t; repeat' first | exact sR | exact sN | exact sL | apply sC | (apply sB; intro _)) h
theorem xs0g.eq2 (v0 v1 v2) {b} (h:xs0g.t2 some xs0g.l2 v0 v1 v2=some b):xs0g.l2 v0 v1 v2=some b:=eqL xs0g.u (xs0g.t2 (rR xs0g.mk) xs0g.q2 v0 v1 v2) (by kernel_rfl) (by unfold xs0g.t2; repeat' first | exact sR | exact sN | exact sL | apply sC | (apply sB; intro _)) h
def xi11.t {γ:Type} (ret:(Bool)→Option γ) (v0:Int):Option γ :=
 (xi3p (v0)).bind fun (r0:Bool) =>
 ret (!r0)
theorem xi11.u:∀ b,xi11.un (xi11.mk b)=b:=fun _ => by kernel_rfl
theorem xi11.eq (v0) {b} (h:xi11.t some v0=some b):xi11 v0=some b:=eqF xi11.u Tryz.f104 (callT_le E tab) rfl rfl rfl (xi11.t (rR xi11.mk) v0) (by kernel_rfl) (by unfold xi11.t; repeat' first | exact sR | exact sN | exact sL | apply sC | (apply sB; intro _)) h
def xi2p.t {γ:Type} (ret:(Bool)→Option γ) (v0:Int):Option γ :=
 (xi3s (v0) ((-1000000:Int)) ((1000000:Int))).bind fun (r0:Bool) =>
 ret (r0)
theorem xi2p.u:∀ b,xi2p.un (xi2p.mk b)=b:=fun _ => by kernel_rfl
theorem xi2p.eq (v0) {b} (h:xi2p.t some v0=some b):xi2p v0=some b:=eqF xi2p.u Tryz.f69 (callT_le E tab) rfl rfl rfl (xi2p.t (rR xi2p.mk) v0) (by kernel_rfl) (by unfold xi2p.t; repeat' first | exact sR | exact sN | exact sL | apply sC | (apply sB; intro _)) h
def xi1v.t {γ:Type} (ret:(Int)→Option γ) (v0:List Int) (v1:List Int):Option γ :=
 (xs17 (v0) (v1)).bind fun (r0:Int) =>
 ret (r0)
theorem xi1v.u:∀ b,xi1v.un (xi1v.mk b)=b:=fun _ => by kernel_rfl
theorem xi1v.eq (v0 v1) {b} (h:xi1v.t some v0 v1=some b):xi1v v0 v1=some b:=eqF xi1v.u Tryz.f70 (callT_le E tab) rfl rfl rfl (xi1v.t (rR xi1v.mk) v0 v1) (by kernel_rfl) (by unfold xi1v.t; repeat' first | exact sR | exact sN | exact sL | apply sC | (apply sB; intro _)) h
def xs17.s2 (v0:List Int) (v1:List Int) (v2:List Int) (v3:Int) (v4:Int):List Cell:=vc (.d .fro (.sl (.int .i64)) v0)::vc (.d .fro (.sl (.int .i64)) v1)::nn 7 (vc (.d .fro (.sl (.int .i64)) v2)::vc (iL v3)::vc (iL v4)::nn 24 ([]))
def xs17.q2:=fun v0 v1 v2 v3 v4 => loopAtL E (callT E tab) 117 Tryz.f117 2 [.r,.l,.r,.b] (xs17.s2 v0 v1 v2 v3 v4)
def xs17.l2:=fun v0 v1 v2 v3 v4 => tOf xs17.mk (xs17.q2 v0 v1 v2 v3 v4)
def xs17.t {γ:Type} (ret:(Int)→Option γ) (lp2:(List Int)→(List Int)→(List Int)→Int→Int→Option γ) (v0:List Int) (v1:List Int):Option γ :=
 lp2 (v0) (v1) (v0) ((↑v0.length:Int)) ((0:Int))
def xs17.t2 {γ:Type} (ret:(Int)→Option γ) (lp2:(List Int)→(List Int)→(List Int)→Int→Int→Option γ) (v0:List Int) (v1:List Int) (v2:List Int) (v3:Int) (v4:Int):Option γ :=
 bif decide (v4<v3) then
 bif decide ((0:Int)≤v4) then
 bif decide (v4.toNat<v2.length) then
 bif decide (v4 ≥ (↑v1.length:Int)) then
 ret ((1:Int))
 else
 bif decide ((0:Int)≤v4) then
 bif decide (v4.toNat<v1.length) then
 (xc1z (v2.getD v4.toNat (0:Int)) (v1.getD v4.toNat (0:Int))).bind fun (r0:Int) =>
 bif r0 != (0:Int) then
 ret (r0)
 else
 lp2 (v0) (v1) (v2) (v3) (IntKind.i64.wrap (v4+(1:Int)))
 else
 none
 else
 none
 else
 none
 else
 none
 else
 bif decide ((↑v0.length:Int)<(↑v1.length:Int)) then
 ret ((-1:Int))
 else
 ret ((0:Int))
theorem xs17.u:∀ b,xs17.un (xs17.mk b)=b:=fun _ => by kernel_rfl
theorem xs17.eq (v0 v1) {b} (h:xs17.t some xs17.l2 v0 v1=some b):xs17 v0 v1=some b:=eqF xs17.u Tryz.f117 (callT_le E tab) rfl rfl rfl (xs17.t (rR xs17.mk) xs17.q2 v0 v1) (by kernel_rfl) (by unfold xs17.t; repeat' first | exact sR | exact sN | exact sL | apply sC | (apply sB; intro _)) h
theorem xs17.eq2 (v0 v1 v2 v3 v4) {b} (h:xs17.t2 some xs17.l2 v0 v1 v2 v3 v4=some b):xs17.l2 v0 v1 v2 v3 v4=some b:=eqL xs17.u (xs17.t2 (rR xs17.mk) xs17.q2 v0 v1 v2 v3 v4) (by kernel_rfl) (by unfold xs17.t2; repeat' first | exact sR | exact sN | exact sL | apply sC | (apply sB; intro _)) h
def xc1z.t {γ:Type} (ret:(Int)→Option γ) (v0:Int) (v1:Int):Option γ :=
 (xc2n (v0)).bind fun (r0:Bool) =>
 (xc2n (v1)).bind fun (r1:Bool) =>
 bif r0 then
 bif r1 then
 ret ((0:Int))
 else
 ret ((-1:Int))
 else
 bif r1 then
 ret ((1:Int))
 else
 bif decide (v0<v1) then
 ret ((-1:Int))
 else
 bif decide (v0 > v1) then
 ret ((1:Int))
 else
 ret ((0:Int))
theorem xc1z.u:∀ b,xc1z.un (xc1z.mk b)=b:=fun _ => by kernel_rfl
theorem xc1z.eq (v0 v1) {b} (h:xc1z.t some v0 v1=some b):xc1z v0 v1=some b:=eqF xc1z.u Tryz.f147 (callT_le E tab) rfl rfl rfl (xc1z.t (rR xc1z.mk) v0 v1) (by kernel_rfl) (by unfold xc1z.t; repeat' first | exact sR | exact sN | exact sL | apply sC | (apply sB; intro _)) h
def xc2n.t {γ:Type} (ret:(Bool)→Option γ) (v0:Int):Option γ :=
 ret (v0 != v0)
theorem xc2n.u:∀ b,xc2n.un (xc2n.mk b)=b:=fun _ => by kernel_rfl
theorem xc2n.eq (v0) {b} (h:xc2n.t some v0=some b):xc2n v0=some b:=eqF xc2n.u Tryz.f161 (callT_le E tab) rfl rfl rfl (xc2n.t (rR xc2n.mk) v0) (by kernel_rfl) (by unfold xc2n.t; repeat' first | exact sR | exact sN | exact sL | apply sC | (apply sB; intro _)) h
def xi32.t {γ:Type} (ret:(Int × Zd)→Option γ) (v0:Int) (v1:Int) (v2:Int) (v3:Ze) (v4:List Int) (v5:Zg) (v6:Zb) (v7:Zb):Option γ :=
 bif v0 == (4:Int) then
 bif decide ((0:Int)≤v1) then
 bif decide (v1.toNat<v7.length) then
 bif decide ((0:Int)≤v2) then
 bif decide (v2.toNat<v7.length) then
 (xi21 ((v7.getD v1.toNat ((0:Int),[])).fst) ((v7.getD v1.toNat ((0:Int),[])).snd) ((v7.getD v2.toNat ((0:Int),[])).fst) ((v7.getD v2.toNat ((0:Int),[])).snd) (v5)).bind fun (r0:Int × Zd) =>
 ret (r0.fst,r0.snd)
 else
 none
 else
 none
 else
 none
 else
 none
 else
 bif v0 == (7:Int) then
 bif decide ((0:Int)≤v1) then
 bif decide (v1.toNat<v7.length) then
 (xi1d ((v7.getD v1.toNat ((0:Int),[])).fst) ((v7.getD v1.toNat ((0:Int),[])).snd)).bind fun (r1:Int × Zd) =>
 ret (r1.fst,r1.snd)
 else
 none
 else
 none
 else
 (xi1t (v0) (v1) (v2) (v3) (v4) (v5) (v6) (v7)).bind fun (r2:Int × Zd) =>
 ret (r2.fst,r2.snd)
theorem xi32.u:∀ b,xi32.un (xi32.mk b)=b:=fun _ => by kernel_rfl
theorem xi32.eq (v0 v1 v2 v3 v4 v5 v6 v7) {b} (h:xi32.t some v0 v1 v2 v3 v4 v5 v6 v7=some b):xi32 v0 v1 v2 v3 v4 v5 v6 v7=some b:=eqF xi32.u Tryz.f35 (callT_le E tab) rfl rfl rfl (xi32.t (rR xi32.mk) v0 v1 v2 v3 v4 v5 v6 v7) (by kernel_rfl) (by unfold xi32.t; repeat' first | exact sR | exact sN | exact sL | apply sC | (apply sB; intro _)) h
def xi21.s6 (v0:Zg) (v1:Int) (v2:Zd) (v3:Int) (v4:Zd) (v5:Int) (v6:Zd) (v7:Zd) (v8:List Int) (v9:Int) (v10:Zd) (v11:Int) (v12:Int) (v13:Zd) (v14:Int) (v15:Int):List Cell:=nn 2 (vc (.d .fro Ye v0)::⟨(.box false),[iL v1,.d .fro Yd v2],false,false,false,0,0⟩::⟨(.box false),[iL v3,.d .fro Yd v4],false,false,false,0,0⟩::nn 1 (⟨(.box false),[iL v5,.d .deep Yd v6],false,false,false,0,0⟩::vc (.d .deep Yd v7)::nn 1 (⟨(.box false),[.d .fro (.sl (.int .i64)) v8,iL v9],false,false,false,0,0⟩::nn 5 (vc (.d .fro Yd v10)::vc (iL v11)::vc (iL v12)::nn 4 (vc (.d .fro Yd v13)::vc (iL v14)::vc (iL v15)::nn 34 ([]))))))
def xi21.q6:=fun v0 v1 v2 v3 v4 v5 v6 v7 v8 v9 v10 v11 v12 v13 v14 v15 => loopAtL E (callT E tab) 65 Tryz.f65 3 [.r,.r,.l,.r,.b,.o,.r,.r,.l,.b,.r,.r,.b] (xi21.s6 v0 v1 v2 v3 v4 v5 v6 v7 v8 v9 v10 v11 v12 v13 v14 v15)
def xi21.l6:=fun v0 v1 v2 v3 v4 v5 v6 v7 v8 v9 v10 v11 v12 v13 v14 v15 => tOf xi21.mk (xi21.q6 v0 v1 v2 v3 v4 v5 v6 v7 v8 v9 v10 v11 v12 v13 v14 v15)
def xi21.s3 (v0:Zg) (v1:Int) (v2:Zd) (v3:Int) (v4:Zd) (v5:Int) (v6:Zd) (v7:Zd) (v8:Zd) (v9:Int) (v10:Int):List Cell:=nn 2 (vc (.d .fro Ye v0)::⟨(.box false),[iL v1,.d .fro Yd v2],false,false,false,0,0⟩::⟨(.box false),[iL v3,.d .fro Yd v4],false,false,false,0,0⟩::nn 1 (⟨(.box false),[iL v5,.d .deep Yd v6],false,false,false,0,0⟩::vc (.d .deep Yd v7)::nn 7 (vc (.d .fro Yd v8)::vc (iL v9)::vc (iL v10)::nn 41 ([]))))
def xi21.q3:=fun v0 v1 v2 v3 v4 v5 v6 v7 v8 v9 v10 => loopAtL E (callT E tab) 65 Tryz.f65 3 [.r,.r,.l,.r,.b] (xi21.s3 v0 v1 v2 v3 v4 v5 v6 v7 v8 v9 v10)
def xi21.l3:=fun v0 v1 v2 v3 v4 v5 v6 v7 v8 v9 v10 => tOf xi21.mk (xi21.q3 v0 v1 v2 v3 v4 v5 v6 v7 v8 v9 v10)
def xi21.t {γ:Type} (ret:(Int × Zd)→Option γ) (lp3:Zg→Int→Zd→Int→Zd→Int→Zd→Zd→Zd→Int→Int→Option γ) (v0:Int) (v1:Zd) (v2:Int) (v3:Zd) (v4:Zg):Option γ :=
 lp3 (v4) (v0) (v1) (v2) (v3) ((0:Int)) ([]) ([]) (v1) ((↑v1.length:Int)) ((0:Int))
def xi21.t6 {γ:Type} (ret:(Int × Zd)→Option γ) (lp6:Zg→Int→Zd→Int→Zd→Int→Zd→Zd→(List Int)→Int→Zd→Int→Int→Zd→Int→Int→Option γ) (lp3:Zg→Int→Zd→Int→Zd→Int→Zd→Zd→Zd→Int→Int→Option γ) (v0:Zg) (v1:Int) (v2:Zd) (v3:Int) (v4:Zd) (v5:Int) (v6:Zd) (v7:Zd) (v8:List Int) (v9:Int) (v10:Zd) (v11:Int) (v12:Int) (v13:Zd) (v14:Int) (v15:Int):Option γ :=
 bif decide (v15<v14) then
 bif decide ((0:Int)≤v15) then
 bif decide (v15.toNat<v13.length) then
 (xi3q (v8) ((v13.getD v15.toNat ([],(0:Int))).fst) (v0)).bind fun (r0:(List Int) × Bool) =>
 bif r0.snd then
 bif decide   (v7.length+[(r0.fst,IntKind.i64.wrap (v9 * (v13.getD v15.toNat ([],(0:Int))).snd))].length≤    (4294967296:Nat)) then
 lp6 (v0) (v1) (v2) (v3) (v4) (v5) (v6) (v7 ++ [(r0.fst,IntKind.i64.wrap (v9 * (v13.getD v15.toNat ([],(0:Int))).snd))]) (v8) (v9) (v10) (v11) (v12) (v13) (v14) (IntKind.i64.wrap (v15+(1:Int)))
 else
 none
 else
 lp6 (v0) (v1) (v2) (v3) (v4) (v5) (v6) (v7) (v8) (v9) (v10) (v11) (v12) (v13) (v14) (IntKind.i64.wrap (v15+(1:Int)))
 else
 none
 else
 none
 else
 lp3 (v0) (v1) (v2) (v3) (v4) (v5) (v6) (v7) (v10) (v11) (IntKind.i64.wrap (v12+(1:Int)))
def xi21.t3 {γ:Type} (ret:(Int × Zd)→Option γ) (lp6:Zg→Int→Zd→Int→Zd→Int→Zd→Zd→(List Int)→Int→Zd→Int→Int→Zd→Int→Int→Option γ) (v0:Zg) (v1:Int) (v2:Zd) (v3:Int) (v4:Zd) (v5:Int) (v6:Zd) (v7:Zd) (v8:Zd) (v9:Int) (v10:Int):Option γ :=
 bif decide (v10<v9) then
 bif decide ((0:Int)≤v10) then
 bif decide (v10.toNat<v8.length) then
 lp6 (v0) (v1) (v2) (v3) (v4) (v5) (v6) (v7) ((v8.getD v10.toNat ([],(0:Int))).fst) ((v8.getD v10.toNat ([],(0:Int))).snd) (v8) (v9) (v10) (v4) ((↑v4.length:Int)) ((0:Int))
 else
 none
 else
 none
 else
 (xi1i (v1) (v3) (v0)).bind fun (r1:Int) =>
 (xi3r (r1) ([v7])).bind fun (r2:Int × Zd) =>
 ret (r2.fst,r2.snd)
theorem xi21.u:∀ b,xi21.un (xi21.mk b)=b:=fun _ => by kernel_rfl
theorem xi21.eq (v0 v1 v2 v3 v4) {b} (h:xi21.t some xi21.l3 v0 v1 v2 v3 v4=some b):xi21 v0 v1 v2 v3 v4=some b:=eqF xi21.u Tryz.f65 (callT_le E tab) rfl rfl rfl (xi21.t (rR xi21.mk) xi21.q3 v0 v1 v2 v3 v4) (by kernel_rfl) (by unfold xi21.t; repeat' first | exact sR | exact sN | exact sL | apply sC | (apply sB; intro _)) h
theorem xi21.eq6 (v0 v1 v2 v3 v4 v5 v6 v7 v8 v9 v10 v11 v12 v13 v14 v15) {b} (h:xi21.t6 some xi21.l6 xi21.l3 v0 v1 v2 v3 v4 v5 v6 v7 v8 v9 v10 v11 v12 v13 v14 v15=some b):xi21.l6 v0 v1 v2 v3 v4 v5 v6 v7 v8 v9 v10 v11 v12 v13 v14 v15=some b:=eqL xi21.u (xi21.t6 (rR xi21.mk) xi21.q6 xi21.q3 v0 v1 v2 v3 v4 v5 v6 v7 v8 v9 v10 v11 v12 v13 v14 v15) (by kernel_rfl) (by unfold xi21.t6; repeat' first | exact sR | exact sN | exact sL | apply sC | (apply sB; intro _)) h
theorem xi21.eq3 (v0 v1 v2 v3 v4 v5 v6 v7 v8 v9 v10) {b} (h:xi21.t3 some xi21.l6 v0 v1 v2 v3 v4 v5 v6 v7 v8 v9 v10=some b):xi21.l3 v0 v1 v2 v3 v4 v5 v6 v7 v8 v9 v10=some b:=eqL xi21.u (xi21.t3 (rR xi21.mk) xi21.q6 v0 v1 v2 v3 v4 v5 v6 v7 v8 v9 v10) (by kernel_rfl) (by unfold xi21.t3; repeat' first | exact sR | exact sN | exact sL | apply sC | (apply sB; intro _)) h
end
end GoV
