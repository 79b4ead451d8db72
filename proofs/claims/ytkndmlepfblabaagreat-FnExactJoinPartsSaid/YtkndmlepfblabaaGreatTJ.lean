/- A part of the proof of FnExactJoinParts: an interpreter of the model over plain data, its soundness, and what it makes of the functions that the statement reaches. Conditions: none beyond what the given statement itself says. -/
import Derived.Test.YtkndmlepfblabaaGreatTI
set_option linter.unusedVariables false
set_option linter.unusedSimpArgs false
set_option linter.unnecessarySimpa false
set_option linter.unusedSectionVars false
/- The functions of the program, each told by what it answers in the end (printed by wip/tools/emit.py). -/
/-! Names of functions here: xs00 = slices_ContainsFunc_impl_Weighted_impl_Weighted_impl_areAll_impl_Weighted_1_impl_isOnce_1, xs01 = slices_IndexFunc_impl_Weighted_impl_Weighted_impl_areAll_impl_Weighted_1_impl_isOnce_1, xs02 = slices_SortStableFunc_impl_Weighted_impl_Weighted_impl_summed_1_056, xs03 = slices_ContainsFunc_int_int_impl_areAll_int_1_impl_joined_1, xs04 = slices_insertionSortCmpFunc_impl_Weighted_impl_summed_1_c6e, xs05 = slices_ContainsFunc_int_int_impl_areAll_int_1_impl_isCell, xs06 = slices_IndexFunc_int_int_impl_areAll_int_1_impl_joined_1, xs07 = slices_swapRangeCmpFunc_impl_Weighted_impl_summed_1_70b, xs08 = slices_IndexFunc_int_int_impl_areAll_int_1_impl_isCell, xs09 = slices_symMergeCmpFunc_impl_Weighted_impl_summed_1_70b, xs0a = slices_rotateCmpFunc_impl_Weighted_impl_summed_1_70b, xs0b = slices_stableCmpFunc_impl_Weighted_impl_summed_1_6af, xs0c = slices_ContainsFunc_int_int_impl_unpaired_1, xs0d = slices_Grow_impl_Weighted_impl_Weighted_1b9, xi0e = impl_areAll_impl_Weighted_1_impl_isOnce_1, xs0f = slices_Concat_impl_Weighted_impl_Weighted, xs0g = slices_IndexFunc_int_int_impl_unpaired_1, xi0h = impl_areAll_impl_Weighted_impl_isOnce_1, xi0i = impl_areAll_int_1_impl_joined_1, xi0j = impl_areAll_int_1_impl_isCell, xi0k = impl_areAll_int_impl_joined_1, xi0l = impl_areAll_int_impl_isCell, xs0m = slices_Grow_int_int_c0f, xl0n = laws_markWeightedS_d97, xs0o = slices_Compare_int_int, xl0p = laws_FnExactJoinParts, xs0q = slices_Concat_int_int, xi0r = impl_Table_projected, xs0s = slices_Clone_int_int, xs0t = slices_Index_int_int, xi0u = impl_goodOrNone_467, xl0v = laws_markTableS_3ec, xi0w = impl_joinedColumns, xl0x = laws_heldWeightedS, xl0y = laws_markIntSS_1f6, xl0z = laws_markTable_d7a, xl10 = laws_markIntS_83f, xi11 = impl_compareRows, xl12 = laws_eqWeightedS, xl13 = laws_szWeightedS, xl14 = laws_toWeightedS, xc15 = cmp_Compare_int, xi16 = impl_Row_picked, xi17 = impl_Table_join, xi18 = impl_unpaired_1, xl19 = laws_eqWeighted, xl1a = laws_szWeighted, xl1b = laws_toWeighted, xi1c = impl_GoodParts, xi1d = impl_GoodTable, xi1e = impl_JoinParts, xi1f = impl_areRising, xi1g = impl_isColumns, xl1h = laws_heldTable, xs1i = spec_GoodParts, xs1j = spec_GoodTable, xs1k = spec_JoinParts, xs1l = spec_l1Compare, xc1m = cmp_isNaN_int, xi1n = impl_isOnce_1, xi1o = impl_isWeight, xi1p = impl_joined_1, xi1q = impl_summed_1, xi1r = impl_unpaired, xl1s = laws_eqTableS, xl1t = laws_heldIntS, xl1u = laws_szTableS, xl1v = laws_toTableS, xs1w = spec_l2OwnRow, xs1x = spec_l2Weight, xi1y = impl_GoodRow, xi1z = impl_Row_own, xi20 = impl_isPlace, xi21 = impl_isRowOf, xi22 = impl_pairsOf, xl23 = laws_eqIntSS, xl24 = laws_eqTable, xl25 = laws_szIntSS, xl26 = laws_szTable, xl27 = laws_toIntSS, xl28 = laws_toTable, xs29 = spec_GoodRow, xs2a = spec_l8Plain, xi2b = impl_isCell, xi2c = impl_isOnce, xi2d = impl_isPart, xi2e = impl_joined, xi2f = impl_summed, xi2g = impl_within, xl2h = laws_eqIntS, xl2i = laws_szIntS, xl2j = laws_toIntS, xs2k = spec_l1Some, xs2l = spec_l2Tell, xs2m = spec_l8Fits, xi2n = impl_setOf, xi2o = impl_whole, xl2p = laws_eqRow, xl2q = laws_szRow, xl2r = laws_toRow, xs2s = spec_l1Has, xs2t = spec_l2Put, xs2u = spec_l7Put, xs2v = spec_l1In -/
namespace GoV
abbrev Zb:=List (Int × List (List Int × Int))
abbrev Zd:=List (List Int × Int)
abbrev Zg:=List (List Int)
abbrev Ya:Ty:=.sl (.pair (.int .i64) (.sl (.pair (.sl (.int .i64)) (.int .i64))))
abbrev Yb:Ty:=.sl (.pair (.sl (.int .i64)) (.int .i64))
abbrev Yc:Ty:=.sl (.sl (.int .i64))
open Go Go.Proofs
set_option maxRecDepth 100000
noncomputable section

def xl0p.c (v0:Zb) (v1:Zg) (v2:Int):List Cell:=vc (.d .fro Ya v0)::vc (.d .fro Yc v1)::vc (iL v2)::[]
def xl0p.mk (b:Bool):R:=(⟨.one,[bL b]⟩,nn 3 ([]))
def xl0p.un (r:R):Bool:=((leafR r 0).dat .bool)
def xl0p (v0:Zb) (v1:Zg) (v2:Int):Option (Bool):=tOf xl0p.mk (vlim E 3 (xl0p.c v0 v1 v2))
def xl1u.c (v0:Zb) (v1:Int):List Cell:=vc (.d .fro Ya v0)::vc (iL v1)::[]
def xl1u.mk (b:Int):R:=(⟨.one,[iL b]⟩,nn 2 ([]))
def xl1u.un (r:R):Int:=((leafR r 0).dat (.int .i64))
def xl1u (v0:Zb) (v1:Int):Option (Int):=tOf xl1u.mk (vlim E 4 (xl1u.c v0 v1))
def xl26.c (v0:Int) (v1:Zd) (v2:Int):List Cell:=ac [iL v0,.d .fro Yb v1]::vc (iL v2)::[]
def xl26.mk (b:Int):R:=(⟨.one,[iL b]⟩,nn 2 ([]))
def xl26.un (r:R):Int:=((leafR r 0).dat (.int .i64))
def xl26 (v0:Int) (v1:Zd) (v2:Int):Option (Int):=tOf xl26.mk (vlim E 17 (xl26.c v0 v1 v2))
def xl13.c (v0:Zd) (v1:Int):List Cell:=vc (.d .fro Yb v0)::vc (iL v1)::[]
def xl13.mk (b:Int):R:=(⟨.one,[iL b]⟩,nn 2 ([]))
def xl13.un (r:R):Int:=((leafR r 0).dat (.int .i64))
def xl13 (v0:Zd) (v1:Int):Option (Int):=tOf xl13.mk (vlim E 41 (xl13.c v0 v1))
def xl1a.c (v0:List Int) (v1:Int) (v2:Int):List Cell:=ac [.d .fro (.sl (.int .i64)) v0,iL v1]::vc (iL v2)::[]
def xl1a.mk (b:Int):R:=(⟨.one,[iL b]⟩,nn 2 ([]))
def xl1a.un (r:R):Int:=((leafR r 0).dat (.int .i64))
def xl1a (v0:List Int) (v1:Int) (v2:Int):Option (Int):=tOf xl1a.mk (vlim E 65 (xl1a.c v0 v1 v2))
def xl2q.c (v0:List Int) (v1:Int):List Cell:=ac [.d .fro (.sl (.int .i64)) v0]::vc (iL v1)::[]
def xl2q.mk (b:Int):R:=(⟨.one,[iL b]⟩,nn 2 ([]))
def xl2q.un (r:R):Int:=((leafR r 0).dat (.int .i64))
def xl2q (v0:List Int) (v1:Int):Option (Int):=tOf xl2q.mk (vlim E 84 (xl2q.c v0 v1))
def xl2i.c (v0:List Int) (v1:Int):List Cell:=vc (.d .fro (.sl (.int .i64)) v0)::vc (iL v1)::[]
def xl2i.mk (b:Int):R:=(⟨.one,[iL b]⟩,nn 2 ([]))
def xl2i.un (r:R):Int:=((leafR r 0).dat (.int .i64))
def xl2i (v0:List Int) (v1:Int):Option (Int):=tOf xl2i.mk (vlim E 18 (xl2i.c v0 v1))
def xl25.c (v0:Zg) (v1:Int):List Cell:=vc (.d .fro Yc v0)::vc (iL v1)::[]
def xl25.mk (b:Int):R:=(⟨.one,[iL b]⟩,nn 2 ([]))
def xl25.un (r:R):Int:=((leafR r 0).dat (.int .i64))
def xl25 (v0:Zg) (v1:Int):Option (Int):=tOf xl25.mk (vlim E 5 (xl25.c v0 v1))
def xl1v.c (v0:Zb):List Cell:=vc (.d .fro Ya v0)::[]
def xl1v.mk (b:Zb):R:=(⟨.one,[.d .deep Ya b]⟩,nn 1 ([]))
def xl1v.un (r:R):Zb:=((leafR r 0).dat Ya)
def xl1v (v0:Zb):Option (Zb):=tOf xl1v.mk (vlim E 7 (xl1v.c v0))
def xl28.c (v0:Int) (v1:Zd):List Cell:=ac [iL v0,.d .fro Yb v1]::[]
def xl28.mk (b:Int × Zd):R:=(⟨.agg,[iL b.1,.d .deep Yb b.2]⟩,nn 1 ([]))
def xl28.un (r:R):Int × Zd:=((leafR r 0).dat (.int .i64),(leafR r 1).dat Yb)
def xl28 (v0:Int) (v1:Zd):Option (Int × Zd):=tOf xl28.mk (vlim E 25 (xl28.c v0 v1))
def xl14.c (v0:Zd):List Cell:=vc (.d .fro Yb v0)::[]
def xl14.mk (b:Zd):R:=(⟨.one,[.d .deep Yb b]⟩,nn 1 ([]))
def xl14.un (r:R):Zd:=((leafR r 0).dat Yb)
def xl14 (v0:Zd):Option (Zd):=tOf xl14.mk (vlim E 49 (xl14.c v0))
def xl1b.c (v0:List Int) (v1:Int):List Cell:=ac [.d .fro (.sl (.int .i64)) v0,iL v1]::[]
def xl1b.mk (b:(List Int) × Int):R:=(⟨.agg,[.d .deep (.sl (.int .i64)) b.1,iL b.2]⟩,nn 1 ([]))
def xl1b.un (r:R):(List Int) × Int:=((leafR r 0).dat (.sl (.int .i64)),(leafR r 1).dat (.int .i64))
def xl1b (v0:List Int) (v1:Int):Option ((List Int) × Int):=tOf xl1b.mk (vlim E 67 (xl1b.c v0 v1))
def xl2r.c (v0:List Int):List Cell:=ac [.d .fro (.sl (.int .i64)) v0]::[]
def xl2r.mk (b:(List Int)):R:=(⟨.agg,[.d .deep (.sl (.int .i64)) b]⟩,nn 1 ([]))
def xl2r.un (r:R):(List Int):=((leafR r 0).dat (.sl (.int .i64)))
def xl2r (v0:List Int):Option ((List Int)):=tOf xl2r.mk (vlim E 85 (xl2r.c v0))
def xl2j.c (v0:List Int):List Cell:=vc (.d .fro (.sl (.int .i64)) v0)::[]
def xl2j.mk (b:(List Int)):R:=(⟨.one,[.d .deep (.sl (.int .i64)) b]⟩,nn 1 ([]))
def xl2j.un (r:R):(List Int):=((leafR r 0).dat (.sl (.int .i64)))
def xl2j (v0:List Int):Option ((List Int)):=tOf xl2j.mk (vlim E 26 (xl2j.c v0))
def xl27.c (v0:Zg):List Cell:=vc (.d .fro Yc v0)::[]
def xl27.mk (b:Zg):R:=(⟨.one,[.d .deep Yc b]⟩,nn 1 ([]))
def xl27.un (r:R):Zg:=((leafR r 0).dat Yc)
def xl27 (v0:Zg):Option (Zg):=tOf xl27.mk (vlim E 8 (xl27.c v0))
def xs1k.c (v0:Zb) (v1:Zg) (v2:Int):List Cell:=vc (.d .fro Ya v0)::vc (.d .fro Yc v1)::vc (iL v2)::[]
def xs1k.mk (b:Int × Zd × Bool):R:=(⟨(.tup [some 2,none]),[iL b.1,.d .deep Yb b.2.1,bL b.2.2]⟩,nn 3 ([]))
def xs1k.un (r:R):Int × Zd × Bool:=((leafR r 0).dat (.int .i64),(leafR r 1).dat Yb,(leafR r 2).dat .bool)
def xs1k (v0:Zb) (v1:Zg) (v2:Int):Option (Int × Zd × Bool):=tOf xs1k.mk (vlim E 6 (xs1k.c v0 v1 v2))
def xs1i.c (v0:Zg) (v1:Int):List Cell:=vc (.d .fro Yc v0)::vc (iL v1)::[]
def xs1i.mk (b:Bool):R:=(⟨.one,[bL b]⟩,nn 2 ([]))
def xs1i.un (r:R):Bool:=((leafR r 0).dat .bool)
def xs1i (v0:Zg) (v1:Int):Option (Bool):=tOf xs1i.mk (vlim E 19 (xs1i.c v0 v1))
def xs2k.c (v0:List Int) (v1:Int):List Cell:=vc (.d .fro (.sl (.int .i64)) v0)::vc (iL v1)::[]
def xs2k.mk (b:Bool):R:=(⟨.one,[bL b]⟩,nn 2 ([]))
def xs2k.un (r:R):Bool:=((leafR r 0).dat .bool)
def xs2k (v0:List Int) (v1:Int):Option (Bool):=tOf xs2k.mk (vlim E 42 (xs2k.c v0 v1))
def xs2u.c (v0:List Int) (v1:Int):List Cell:=vc (.d .fro (.sl (.int .i64)) v0)::vc (iL v1)::[]
def xs2u.mk (b:(List Int)):R:=(⟨.one,[.d .fro (.sl (.int .i64)) b]⟩,nn 2 ([]))
def xs2u.un (r:R):(List Int):=((leafR r 0).dat (.sl (.int .i64)))
def xs2u (v0:List Int) (v1:Int):Option ((List Int)):=tOf xs2u.mk (vlim E 43 (xs2u.c v0 v1))
def xs2s.c (v0:List Int) (v1:Int):List Cell:=vc (.d .fro (.sl (.int .i64)) v0)::vc (iL v1)::[]
def xs2s.mk (b:Bool):R:=(⟨.one,[bL b]⟩,nn 2 ([]))
def xs2s.un (r:R):Bool:=((leafR r 0).dat .bool)
def xs2s (v0:List Int) (v1:Int):Option (Bool):=tOf xs2s.mk (vlim E 66 (xs2s.c v0 v1))
def xs2v.c (v0:Int) (v1:Int) (v2:Int):List Cell:=vc (iL v0)::vc (iL v1)::vc (iL v2)::[]
def xs2v.mk (b:Bool):R:=(⟨.one,[bL b]⟩,nn 3 ([]))
def xs2v.un (r:R):Bool:=((leafR r 0).dat .bool)
def xs2v (v0:Int) (v1:Int) (v2:Int):Option (Bool):=tOf xs2v.mk (vlim E 44 (xs2v.c v0 v1 v2))
def xs1j.c (v0:Int) (v1:Zd):List Cell:=ac [iL v0,.d .fro Yb v1]::[]
def xs1j.mk (b:Bool):R:=(⟨.one,[bL b]⟩,nn 1 ([]))
def xs1j.un (r:R):Bool:=((leafR r 0).dat .bool)
def xs1j (v0:Int) (v1:Zd):Option (Bool):=tOf xs1j.mk (vlim E 20 (xs1j.c v0 v1))
def xs29.c (v0:List Int):List Cell:=ac [.d .fro (.sl (.int .i64)) v0]::[]
def xs29.mk (b:Bool):R:=(⟨.one,[bL b]⟩,nn 1 ([]))
def xs29.un (r:R):Bool:=((leafR r 0).dat .bool)
def xs29 (v0:List Int):Option (Bool):=tOf xs29.mk (vlim E 45 (xs29.c v0))
def xs1x.c (v0:Int):List Cell:=vc (iL v0)::[]
def xs1x.mk (b:Bool):R:=(⟨.one,[bL b]⟩,nn 1 ([]))
def xs1x.un (r:R):Bool:=((leafR r 0).dat .bool)
def xs1x (v0:Int):Option (Bool):=tOf xs1x.mk (vlim E 46 (xs1x.c v0))
def xs1l.c (v0:List Int) (v1:List Int):List Cell:=ac [.d .fro (.sl (.int .i64)) v0]::ac [.d .fro (.sl (.int .i64)) v1]::[]
def xs1l.mk (b:Int):R:=(⟨.one,[iL b]⟩,nn 2 ([]))
def xs1l.un (r:R):Int:=((leafR r 0).dat (.int .i64))
def xs1l (v0:List Int) (v1:List Int):Option (Int):=tOf xs1l.mk (vlim E 47 (xs1l.c v0 v1))
def xs2a.c (v0:Int) (v1:Zd):List Cell:=ac [iL v0,.d .fro Yb v1]::[]
def xs2a.mk (b:Bool):R:=(⟨.one,[bL b]⟩,nn 1 ([]))
def xs2a.un (r:R):Bool:=((leafR r 0).dat .bool)
def xs2a (v0:Int) (v1:Zd):Option (Bool):=tOf xs2a.mk (vlim E 21 (xs2a.c v0 v1))
def xs2m.c (v0:List Int) (v1:List Int) (v2:List Int):List Cell:=ac [.d .fro (.sl (.int .i64)) v0]::vc (.d .fro (.sl (.int .i64)) v1)::ac [.d .fro (.sl (.int .i64)) v2]::[]
def xs2m.mk (b:(List Int) × Bool):R:=(⟨(.tup [some 1,none]),[.d .deep (.sl (.int .i64)) b.1,bL b.2]⟩,nn 3 ([]))
def xs2m.un (r:R):(List Int) × Bool:=((leafR r 0).dat (.sl (.int .i64)),(leafR r 1).dat .bool)
def xs2m (v0:List Int) (v1:List Int) (v2:List Int):Option ((List Int) × Bool):=tOf xs2m.mk (vlim E 22 (xs2m.c v0 v1 v2))
def xs1w.c (v0:List Int):List Cell:=ac [.d .fro (.sl (.int .i64)) v0]::[]
def xs1w.mk (b:(List Int)):R:=(⟨.agg,[.d .deep (.sl (.int .i64)) b]⟩,nn 1 ([]))
def xs1w.un (r:R):(List Int):=((leafR r 0).dat (.sl (.int .i64)))
def xs1w (v0:List Int):Option ((List Int)):=tOf xs1w.mk (vlim E 48 (xs1w.c v0))
def xs2t.c (v0:Zd) (v1:List Int) (v2:Int):List Cell:=vc (.d .fro Yb v0)::ac [.d .fro (.sl (.int .i64)) v1]::vc (iL v2)::[]
def xs2t.mk (b:Zd):R:=(⟨.one,[.d .sha Yb b]⟩,nn 3 ([]))
def xs2t.un (r:R):Zd:=((leafR r 0).dat Yb)
def xs2t (v0:Zd) (v1:List Int) (v2:Int):Option (Zd):=tOf xs2t.mk (vlim E 23 (xs2t.c v0 v1 v2))
def xs2l.c (v0:Int) (v1:Zd):List Cell:=vc (iL v0)::vc (.d .fro Yb v1)::[]
def xs2l.mk (b:Int × Zd × Bool):R:=(⟨(.tup [some 2,none]),[iL b.1,.d .deep Yb b.2.1,bL b.2.2]⟩,nn 2 ([]))
def xs2l.un (r:R):Int × Zd × Bool:=((leafR r 0).dat (.int .i64),(leafR r 1).dat Yb,(leafR r 2).dat .bool)
def xs2l (v0:Int) (v1:Zd):Option (Int × Zd × Bool):=tOf xs2l.mk (vlim E 24 (xs2l.c v0 v1))
def xi1e.c (v0:Zb) (v1:Zg) (v2:Int):List Cell:=vc (.d .fro Ya v0)::vc (.d .fro Yc v1)::vc (iL v2)::[]
def xi1e.mk (b:Int × Zd × Bool):R:=(⟨(.tup [some 2,none]),[iL b.1,.d .deep Yb b.2.1,bL b.2.2]⟩,nn 3 ([]))
def xi1e.un (r:R):Int × Zd × Bool:=((leafR r 0).dat (.int .i64),(leafR r 1).dat Yb,(leafR r 2).dat .bool)
def xi1e (v0:Zb) (v1:Zg) (v2:Int):Option (Int × Zd × Bool):=tOf xi1e.mk (vlim E 9 (xi1e.c v0 v1 v2))
def xi1c.c (v0:Zg) (v1:Int):List Cell:=vc (.d .fro Yc v0)::vc (iL v1)::[]
def xi1c.mk (b:Bool):R:=(⟨.one,[bL b]⟩,nn 2 ([]))
def xi1c.un (r:R):Bool:=((leafR r 0).dat .bool)
def xi1c (v0:Zg) (v1:Int):Option (Bool):=tOf xi1c.mk (vlim E 27 (xi1c.c v0 v1))
def xi2g.c (v0:Int) (v1:Int) (v2:Int):List Cell:=vc (iL v0)::vc (iL v1)::vc (iL v2)::[]
def xi2g.mk (b:Bool):R:=(⟨.one,[bL b]⟩,nn 3 ([]))
def xi2g.un (r:R):Bool:=((leafR r 0).dat .bool)
def xi2g (v0:Int) (v1:Int) (v2:Int):Option (Bool):=tOf xi2g.mk (vlim E 50 (xi2g.c v0 v1 v2))
def xi2d.c (v0:List Int) (v1:Int):List Cell:=vc (.d .fro (.sl (.int .i64)) v0)::vc (iL v1)::[]
def xi2d.mk (b:Bool):R:=(⟨.one,[bL b]⟩,nn 2 ([]))
def xi2d.un (r:R):Bool:=((leafR r 0).dat .bool)
def xi2d (v0:List Int) (v1:Int):Option (Bool):=tOf xi2d.mk (vlim E 51 (xi2d.c v0 v1))
def xi1f.c (v0:List Int) (v1:Int):List Cell:=vc (.d .fro (.sl (.int .i64)) v0)::vc (iL v1)::[]
def xi1f.mk (b:Bool):R:=(⟨.one,[bL b]⟩,nn 2 ([]))
def xi1f.un (r:R):Bool:=((leafR r 0).dat .bool)
def xi1f (v0:List Int) (v1:Int):Option (Bool):=tOf xi1f.mk (vlim E 68 (xi1f.c v0 v1))
def xi20.c (v0:Int) (v1:Int):List Cell:=vc (iL v0)::vc (iL v1)::[]
def xi20.mk (b:Bool):R:=(⟨.one,[bL b]⟩,nn 2 ([]))
def xi20.un (r:R):Bool:=((leafR r 0).dat .bool)
def xi20 (v0:Int) (v1:Int):Option (Bool):=tOf xi20.mk (vlim E 86 (xi20.c v0 v1))
def xi2n.c (v0:List Int):List Cell:=vc (.d .fro (.sl (.int .i64)) v0)::[]
def xi2n.mk (b:Int):R:=(⟨.one,[iL b]⟩,nn 1 ([]))
def xi2n.un (r:R):Int:=((leafR r 0).dat (.int .i64))
def xi2n (v0:List Int):Option (Int):=tOf xi2n.mk (vlim E 52 (xi2n.c v0))
def xi2o.c (v0:Int):List Cell:=vc (iL v0)::[]
def xi2o.mk (b:Int):R:=(⟨.one,[iL b]⟩,nn 1 ([]))
def xi2o.un (r:R):Int:=((leafR r 0).dat (.int .i64))
def xi2o (v0:Int):Option (Int):=tOf xi2o.mk (vlim E 53 (xi2o.c v0))
def xi2c.c (v0:Int) (v1:Zd):List Cell:=ac [iL v0,.d .fro Yb v1]::[]
def xi2c.mk (b:Bool):R:=(⟨.one,[bL b]⟩,nn 1 ([]))
def xi2c.un (r:R):Bool:=((leafR r 0).dat .bool)
def xi2c (v0:Int) (v1:Zd):Option (Bool):=tOf xi2c.mk (vlim E 28 (xi2c.c v0 v1))
def xi1d.c (v0:Int) (v1:Zd):List Cell:=ac [iL v0,.d .fro Yb v1]::[]
def xi1d.mk (b:Bool):R:=(⟨.one,[bL b]⟩,nn 1 ([]))
def xi1d.un (r:R):Bool:=((leafR r 0).dat .bool)
def xi1d (v0:Int) (v1:Zd):Option (Bool):=tOf xi1d.mk (vlim E 54 (xi1d.c v0 v1))
def xi1g.c (v0:Int):List Cell:=vc (iL v0)::[]
def xi1g.mk (b:Bool):R:=(⟨.one,[bL b]⟩,nn 1 ([]))
def xi1g.un (r:R):Bool:=((leafR r 0).dat .bool)
def xi1g (v0:Int):Option (Bool):=tOf xi1g.mk (vlim E 69 (xi1g.c v0))
def xi21.c (v0:List Int) (v1:Int):List Cell:=ac [.d .fro (.sl (.int .i64)) v0]::vc (iL v1)::[]
def xi21.mk (b:Bool):R:=(⟨.one,[bL b]⟩,nn 2 ([]))
def xi21.un (r:R):Bool:=((leafR r 0).dat .bool)
def xi21 (v0:List Int) (v1:Int):Option (Bool):=tOf xi21.mk (vlim E 70 (xi21.c v0 v1))
def xi1y.c (v0:List Int):List Cell:=ac [.d .fro (.sl (.int .i64)) v0]::[]
def xi1y.mk (b:Bool):R:=(⟨.one,[bL b]⟩,nn 1 ([]))
def xi1y.un (r:R):Bool:=((leafR r 0).dat .bool)
def xi1y (v0:List Int):Option (Bool):=tOf xi1y.mk (vlim E 87 (xi1y.c v0))
def xi0l.c (v0:List Int):List Cell:=vc (.d .fro (.sl (.int .i64)) v0)::vc (.fn 95 [])::[]
def xi0l.mk (b:Bool):R:=(⟨.one,[bL b]⟩,nn 2 ([]))
def xi0l.un (r:R):Bool:=((leafR r 0).dat .bool)
def xi0l (v0:List Int):Option (Bool):=tOf xi0l.mk (vlim E 94 (xi0l.c v0))
def xs05.c (v0:List Int):List Cell:=vc (.d .fro (.sl (.int .i64)) v0)::vc (.fn 100 [.rp [.fn 95 []] 0])::[]
def xs05.mk (b:Bool):R:=(⟨.one,[bL b]⟩,nn 2 ([]))
def xs05.un (r:R):Bool:=((leafR r 0).dat .bool)
def xs05 (v0:List Int):Option (Bool):=tOf xs05.mk (vlim E 99 (xs05.c v0))
def xs08.c (v0:List Int):List Cell:=vc (.d .fro (.sl (.int .i64)) v0)::vc (.fn 100 [.rp [.fn 95 []] 0])::[]
def xs08.mk (b:Int):R:=(⟨.one,[iL b]⟩,nn 2 ([]))
def xs08.un (r:R):Int:=((leafR r 0).dat (.int .i64))
def xs08 (v0:List Int):Option (Int):=tOf xs08.mk (vlim E 103 (xs08.c v0))
def xi0j.c (v0:Int):List Cell:=vc (iL v0)::vc (.rp [.fn 95 []] 0)::[]
def xi0j.mk (b:Bool):R:=(⟨.one,[bL b]⟩,nn 2 ([]))
def xi0j.un (r:R):Bool:=((leafR r 0).dat .bool)
def xi0j (v0:Int):Option (Bool):=tOf xi0j.mk (vlim E 100 (xi0j.c v0))
def xi2b.c (v0:Int):List Cell:=vc (iL v0)::[]
def xi2b.mk (b:Bool):R:=(⟨.one,[bL b]⟩,nn 1 ([]))
def xi2b.un (r:R):Bool:=((leafR r 0).dat .bool)
def xi2b (v0:Int):Option (Bool):=tOf xi2b.mk (vlim E 95 (xi2b.c v0))
def xi1o.c (v0:Int):List Cell:=vc (iL v0)::[]
def xi1o.mk (b:Bool):R:=(⟨.one,[bL b]⟩,nn 1 ([]))
def xi1o.un (r:R):Bool:=((leafR r 0).dat .bool)
def xi1o (v0:Int):Option (Bool):=tOf xi1o.mk (vlim E 71 (xi1o.c v0))
def xi11.c (v0:List Int) (v1:List Int):List Cell:=ac [.d .fro (.sl (.int .i64)) v0]::ac [.d .fro (.sl (.int .i64)) v1]::[]
def xi11.mk (b:Int):R:=(⟨.one,[iL b]⟩,nn 2 ([]))
def xi11.un (r:R):Int:=((leafR r 0).dat (.int .i64))
def xi11 (v0:List Int) (v1:List Int):Option (Int):=tOf xi11.mk (vlim E 72 (xi11.c v0 v1))
def xs0o.c (v0:List Int) (v1:List Int):List Cell:=vc (.d .fro (.sl (.int .i64)) v0)::vc (.d .fro (.sl (.int .i64)) v1)::[]
def xs0o.mk (b:Int):R:=(⟨.one,[iL b]⟩,nn 2 ([]))
def xs0o.un (r:R):Int:=((leafR r 0).dat (.int .i64))
def xs0o (v0:List Int) (v1:List Int):Option (Int):=tOf xs0o.mk (vlim E 88 (xs0o.c v0 v1))
def xc15.c (v0:Int) (v1:Int):List Cell:=vc (iL v0)::vc (iL v1)::[]
def xc15.mk (b:Int):R:=(⟨.one,[iL b]⟩,nn 2 ([]))
def xc15.un (r:R):Int:=((leafR r 0).dat (.int .i64))
def xc15 (v0:Int) (v1:Int):Option (Int):=tOf xc15.mk (vlim E 96 (xc15.c v0 v1))
def xc1m.c (v0:Int):List Cell:=vc (iL v0)::[]
def xc1m.mk (b:Bool):R:=(⟨.one,[bL b]⟩,nn 1 ([]))
def xc1m.un (r:R):Bool:=((leafR r 0).dat .bool)
def xc1m (v0:Int):Option (Bool):=tOf xc1m.mk (vlim E 101 (xc1m.c v0))
def xi0h.c (v0:Zd):List Cell:=vc (.d .fro Yb v0)::vc (.fn 56 [])::[]
def xi0h.mk (b:Bool):R:=(⟨.one,[bL b]⟩,nn 2 ([]))
def xi0h.un (r:R):Bool:=((leafR r 0).dat .bool)
def xi0h (v0:Zd):Option (Bool):=tOf xi0h.mk (vlim E 55 (xi0h.c v0))
def xs00.c (v0:Zd):List Cell:=vc (.d .fro Yb v0)::vc (.fn 74 [.rp [.fn 56 []] 0])::[]
def xs00.mk (b:Bool):R:=(⟨.one,[bL b]⟩,nn 2 ([]))
def xs00.un (r:R):Bool:=((leafR r 0).dat .bool)
def xs00 (v0:Zd):Option (Bool):=tOf xs00.mk (vlim E 73 (xs00.c v0))
def xs01.c (v0:Zd):List Cell:=vc (.d .fro Yb v0)::vc (.fn 74 [.rp [.fn 56 []] 0])::[]
def xs01.mk (b:Int):R:=(⟨.one,[iL b]⟩,nn 2 ([]))
def xs01.un (r:R):Int:=((leafR r 0).dat (.int .i64))
def xs01 (v0:Zd):Option (Int):=tOf xs01.mk (vlim E 89 (xs01.c v0))
def xi0e.c (v0:List Int) (v1:Int):List Cell:=ac [.d .fro (.sl (.int .i64)) v0,iL v1]::vc (.rp [.fn 56 []] 0)::[]
def xi0e.mk (b:Bool):R:=(⟨.one,[bL b]⟩,nn 2 ([]))
def xi0e.un (r:R):Bool:=((leafR r 0).dat .bool)
def xi0e (v0:List Int) (v1:Int):Option (Bool):=tOf xi0e.mk (vlim E 74 (xi0e.c v0 v1))
def xi1n.c (v0:List Int) (v1:Int):List Cell:=ac [.d .fro (.sl (.int .i64)) v0,iL v1]::[]
def xi1n.mk (b:Bool):R:=(⟨.one,[bL b]⟩,nn 1 ([]))
def xi1n.un (r:R):Bool:=((leafR r 0).dat .bool)
def xi1n (v0:List Int) (v1:Int):Option (Bool):=tOf xi1n.mk (vlim E 56 (xi1n.c v0 v1))
def xi22.c (v0:List Int) (v1:List Int):List Cell:=vc (.d .fro (.sl (.int .i64)) v0)::vc (.d .fro (.sl (.int .i64)) v1)::[]
def xi22.mk (b:Zg):R:=(⟨.one,[.d .deep Yc b]⟩,nn 2 ([]))
def xi22.un (r:R):Zg:=((leafR r 0).dat Yc)
def xi22 (v0:List Int) (v1:List Int):Option (Zg):=tOf xi22.mk (vlim E 29 (xi22.c v0 v1))
def xs0t.c (v0:List Int) (v1:Int):List Cell:=vc (.d .fro (.sl (.int .i64)) v0)::vc (iL v1)::[]
def xs0t.mk (b:Int):R:=(⟨.one,[iL b]⟩,nn 2 ([]))
def xs0t.un (r:R):Int:=((leafR r 0).dat (.int .i64))
def xs0t (v0:List Int) (v1:Int):Option (Int):=tOf xs0t.mk (vlim E 33 (xs0t.c v0 v1))
def xi17.c (v0:Int) (v1:Zd) (v2:Int) (v3:Zd) (v4:Zg):List Cell:=ac [iL v0,.d .fro Yb v1]::ac [iL v2,.d .fro Yb v3]::vc (.d .fro Yc v4)::[]
def xi17.mk (b:Int × Zd):R:=(⟨.agg,[iL b.1,.d .deep Yb b.2]⟩,nn 3 ([]))
def xi17.un (r:R):Int × Zd:=((leafR r 0).dat (.int .i64),(leafR r 1).dat Yb)
def xi17 (v0:Int) (v1:Zd) (v2:Int) (v3:Zd) (v4:Zg):Option (Int × Zd):=tOf xi17.mk (vlim E 30 (xi17.c v0 v1 v2 v3 v4))
def xi2e.c (v0:List Int) (v1:List Int) (v2:Zg):List Cell:=ac [.d .fro (.sl (.int .i64)) v0]::ac [.d .fro (.sl (.int .i64)) v1]::vc (.d .fro Yc v2)::[]
def xi2e.mk (b:(List Int) × Bool):R:=(⟨(.tup [some 1,none]),[.d .deep (.sl (.int .i64)) b.1,bL b.2]⟩,nn 3 ([]))
def xi2e.un (r:R):(List Int) × Bool:=((leafR r 0).dat (.sl (.int .i64)),(leafR r 1).dat .bool)
def xi2e (v0:List Int) (v1:List Int) (v2:Zg):Option ((List Int) × Bool):=tOf xi2e.mk (vlim E 57 (xi2e.c v0 v1 v2))
def xi0k.c (v0:Zg) (v1:List Int) (v2:List Int):List Cell:=vc (.d .fro Yc v0)::vc (.fn 76 [.rp [.d .fro (.sl (.int .i64)) v1] 0,.rp [.d .fro (.sl (.int .i64)) v2] 0])::[]
def xi0k.mk (b:Bool):R:=(⟨.one,[bL b]⟩,nn 2 ([]))
def xi0k.un (r:R):Bool:=((leafR r 0).dat .bool)
def xi0k (v0:Zg) (v1:List Int) (v2:List Int):Option (Bool):=tOf xi0k.mk (vlim E 75 (xi0k.c v0 v1 v2))
def xs03.c (v0:Zg) (v1:List Int) (v2:List Int):List Cell:=vc (.d .fro Yc v0)::vc (.fn 90 [.rp [.fn 76 [.rp [.d .fro (.sl (.int .i64)) v1] 0,.rp [.d .fro (.sl (.int .i64)) v2] 0]] 0])::[]
def xs03.mk (b:Bool):R:=(⟨.one,[bL b]⟩,nn 2 ([]))
def xs03.un (r:R):Bool:=((leafR r 0).dat .bool)
def xs03 (v0:Zg) (v1:List Int) (v2:List Int):Option (Bool):=tOf xs03.mk (vlim E 60 (xs03.c v0 v1 v2))
def xs06.c (v0:Zg) (v1:List Int) (v2:List Int):List Cell:=vc (.d .fro Yc v0)::vc (.fn 90 [.rp [.fn 76 [.rp [.d .fro (.sl (.int .i64)) v1] 0,.rp [.d .fro (.sl (.int .i64)) v2] 0]] 0])::[]
def xs06.mk (b:Int):R:=(⟨.one,[iL b]⟩,nn 2 ([]))
def xs06.un (r:R):Int:=((leafR r 0).dat (.int .i64))
def xs06 (v0:Zg) (v1:List Int) (v2:List Int):Option (Int):=tOf xs06.mk (vlim E 82 (xs06.c v0 v1 v2))
def xi0i.c (v0:List Int) (v1:List Int) (v2:List Int):List Cell:=vc (.d .fro (.sl (.int .i64)) v0)::vc (.rp [.fn 76 [.rp [.d .fro (.sl (.int .i64)) v1] 0,.rp [.d .fro (.sl (.int .i64)) v2] 0]] 0)::[]
def xi0i.mk (b:Bool):R:=(⟨.one,[bL b]⟩,nn 2 ([]))
def xi0i.un (r:R):Bool:=((leafR r 0).dat .bool)
def xi0i (v0:List Int) (v1:List Int) (v2:List Int):Option (Bool):=tOf xi0i.mk (vlim E 90 (xi0i.c v0 v1 v2))
def xi1p.c (v0:List Int) (v1:List Int) (v2:List Int):List Cell:=vc (.d .fro (.sl (.int .i64)) v0)::vc (.rp [.d .fro (.sl (.int .i64)) v1] 0)::vc (.rp [.d .fro (.sl (.int .i64)) v2] 0)::[]
def xi1p.mk (b:Bool):R:=(⟨.one,[bL b]⟩,nn 3 ([]))
def xi1p.un (r:R):Bool:=((leafR r 0).dat .bool)
def xi1p (v0:List Int) (v1:List Int) (v2:List Int):Option (Bool):=tOf xi1p.mk (vlim E 76 (xi1p.c v0 v1 v2))
def xi1r.c (v0:Int) (v1:Zg):List Cell:=vc (iL v0)::vc (.d .fro Yc v1)::[]
def xi1r.mk (b:(List Int)):R:=(⟨.one,[.d .deep (.sl (.int .i64)) b]⟩,nn 2 ([]))
def xi1r.un (r:R):(List Int):=((leafR r 0).dat (.sl (.int .i64)))
def xi1r (v0:Int) (v1:Zg):Option ((List Int)):=tOf xi1r.mk (vlim E 31 (xi1r.c v0 v1))
def xs0c.c (v0:Zg) (v1:Int):List Cell:=vc (.d .fro Yc v0)::vc (.fn 61 [.rp [iL v1] 0])::[]
def xs0c.mk (b:Bool):R:=(⟨.one,[bL b]⟩,nn 2 ([]))
def xs0c.un (r:R):Bool:=((leafR r 0).dat .bool)
def xs0c (v0:Zg) (v1:Int):Option (Bool):=tOf xs0c.mk (vlim E 60 (xs0c.c v0 v1))
def xs0g.c (v0:Zg) (v1:Int):List Cell:=vc (.d .fro Yc v0)::vc (.fn 61 [.rp [iL v1] 0])::[]
def xs0g.mk (b:Int):R:=(⟨.one,[iL b]⟩,nn 2 ([]))
def xs0g.un (r:R):Int:=((leafR r 0).dat (.int .i64))
def xs0g (v0:Zg) (v1:Int):Option (Int):=tOf xs0g.mk (vlim E 82 (xs0g.c v0 v1))
def xi18.c (v0:List Int) (v1:Int):List Cell:=vc (.d .fro (.sl (.int .i64)) v0)::vc (.rp [iL v1] 0)::[]
def xi18.mk (b:Bool):R:=(⟨.one,[bL b]⟩,nn 2 ([]))
def xi18.un (r:R):Bool:=((leafR r 0).dat .bool)
def xi18 (v0:List Int) (v1:Int):Option (Bool):=tOf xi18.mk (vlim E 61 (xi18.c v0 v1))
def xi16.c (v0:List Int) (v1:List Int):List Cell:=ac [.d .fro (.sl (.int .i64)) v0]::vc (.d .fro (.sl (.int .i64)) v1)::[]
def xi16.mk (b:(List Int)):R:=(⟨.agg,[.d .deep (.sl (.int .i64)) b]⟩,nn 2 ([]))
def xi16.un (r:R):(List Int):=((leafR r 0).dat (.sl (.int .i64)))
def xi16 (v0:List Int) (v1:List Int):Option ((List Int)):=tOf xi16.mk (vlim E 62 (xi16.c v0 v1))
def xs0q.c (v0:Zg):List Cell:=vc (.d .fro Yc v0)::[]
def xs0q.mk (b:(List Int)):R:=(⟨.one,[.d .deep (.sl (.int .i64)) b]⟩,nn 1 ([]))
def xs0q.un (r:R):(List Int):=((leafR r 0).dat (.sl (.int .i64)))
def xs0q (v0:Zg):Option ((List Int)):=tOf xs0q.mk (vlim E 77 (xs0q.c v0))
def xs0m.c (v0:Int):List Cell:=vc (.nil (.int .i64))::vc (iL v0)::[]
def xs0m.mk (b:(List Int)):R:=(⟨.one,[.d .deep (.sl (.int .i64)) b]⟩,nn 2 ([]))
def xs0m.un (r:R):(List Int):=((leafR r 0).dat (.sl (.int .i64)))
def xs0m (v0:Int):Option ((List Int)):=tOf xs0m.mk (vlim E 91 (xs0m.c v0))
def xi0w.c (v0:Int) (v1:Int) (v2:Zg):List Cell:=vc (iL v0)::vc (iL v1)::vc (.d .fro Yc v2)::[]
def xi0w.mk (b:Int):R:=(⟨.one,[iL b]⟩,nn 3 ([]))
def xi0w.un (r:R):Int:=((leafR r 0).dat (.int .i64))
def xi0w (v0:Int) (v1:Int) (v2:Zg):Option (Int):=tOf xi0w.mk (vlim E 59 (xi0w.c v0 v1 v2))
def xi2f.c (v0:Int) (v1:List Zd):List Cell:=vc (iL v0)::vc (.d .fro (.sl Yb) v1)::[]
def xi2f.mk (b:Int × Zd):R:=(⟨.agg,[iL b.1,.d .deep Yb b.2]⟩,nn 2 ([]))
def xi2f.un (r:R):Int × Zd:=((leafR r 0).dat (.int .i64),(leafR r 1).dat Yb)
def xi2f (v0:Int) (v1:List Zd):Option (Int × Zd):=tOf xi2f.mk (vlim E 58 (xi2f.c v0 v1))
def xs0f.c (v0:List Zd):List Cell:=vc (.d .fro (.sl Yb) v0)::[]
def xs0f.mk (b:Zd):R:=(⟨.one,[.d .sha Yb b]⟩,nn 1 ([]))
def xs0f.un (r:R):Zd:=((leafR r 0).dat Yb)
def xs0f (v0:List Zd):Option (Zd):=tOf xs0f.mk (vlim E 78 (xs0f.c v0))
def xs0d.c (v0:Int):List Cell:=vc (.nil (.pair (.sl (.int .i64)) (.int .i64)))::vc (iL v0)::[]
def xs0d.mk (b:Zd):R:=(⟨.one,[.d .deep Yb b]⟩,nn 2 ([]))
def xs0d.un (r:R):Zd:=((leafR r 0).dat Yb)
def xs0d (v0:Int):Option (Zd):=tOf xs0d.mk (vlim E 92 (xs0d.c v0))
def xs02.c (v0:Zd):List Cell:=⟨(.val .one),[.d .sha Yb v0],true,false,false,0,0⟩::vc (.fn 80 [])::[]
def xs02.mk (b:Zd):R:=(⟨(.tup []),[]⟩,⟨(.val .one),[.d .sha Yb b],true,false,false,0,0⟩::nn 1 ([]))
def xs02.un (r:R):Zd:=((leafF r 0 0).dat Yb)
def xs02 (v0:Zd):Option (Zd):=tOf xs02.mk (vlim E 79 (xs02.c v0))
def xs0b.c (v0:Zd) (v1:Int):List Cell:=⟨(.val .one),[.d .sha Yb v0],true,false,false,0,0⟩::vc (iL v1)::vc (.fn 80 [])::[]
def xs0b.mk (b:Zd):R:=(⟨(.tup []),[]⟩,⟨(.val .one),[.d .sha Yb b],true,false,false,0,0⟩::nn 2 ([]))
def xs0b.un (r:R):Zd:=((leafF r 0 0).dat Yb)
def xs0b (v0:Zd) (v1:Int):Option (Zd):=tOf xs0b.mk (vlim E 93 (xs0b.c v0 v1))
def xs04.c (v0:Zd) (v1:Int) (v2:Int):List Cell:=⟨(.val .one),[.d .sha Yb v0],true,false,false,0,0⟩::vc (iL v1)::vc (iL v2)::vc (.fn 80 [])::[]
def xs04.mk (b:Zd):R:=(⟨(.tup []),[]⟩,⟨(.val .one),[.d .sha Yb b],true,false,false,0,0⟩::nn 3 ([]))
def xs04.un (r:R):Zd:=((leafF r 0 0).dat Yb)
def xs04 (v0:Zd) (v1:Int) (v2:Int):Option (Zd):=tOf xs04.mk (vlim E 97 (xs04.c v0 v1 v2))
def xi1q.c (v0:List Int) (v1:Int) (v2:List Int) (v3:Int):List Cell:=ac [.d .fro (.sl (.int .i64)) v0,iL v1]::ac [.d .fro (.sl (.int .i64)) v2,iL v3]::[]
def xi1q.mk (b:Int):R:=(⟨.one,[iL b]⟩,nn 2 ([]))
def xi1q.un (r:R):Int:=((leafR r 0).dat (.int .i64))
def xi1q (v0:List Int) (v1:Int) (v2:List Int) (v3:Int):Option (Int):=tOf xi1q.mk (vlim E 80 (xi1q.c v0 v1 v2 v3))
def xs09.c (v0:Zd) (v1:Int) (v2:Int) (v3:Int):List Cell:=⟨(.val .one),[.d .sha Yb v0],true,false,false,0,0⟩::vc (iL v1)::vc (iL v2)::vc (iL v3)::vc (.fn 80 [])::[]
def xs09.mk (b:Zd):R:=(⟨(.tup []),[]⟩,⟨(.val .one),[.d .sha Yb b],true,false,false,0,0⟩::nn 4 ([]))
def xs09.un (r:R):Zd:=((leafF r 0 0).dat Yb)
def xs09 (v0:Zd) (v1:Int) (v2:Int) (v3:Int):Option (Zd):=tOf xs09.mk (vlim E 98 (xs09.c v0 v1 v2 v3))
def xs0a.c (v0:Zd) (v1:Int) (v2:Int) (v3:Int):List Cell:=⟨(.val .one),[.d .sha Yb v0],true,false,false,0,0⟩::vc (iL v1)::vc (iL v2)::vc (iL v3)::vc (.fn 80 [])::[]
def xs0a.mk (b:Zd):R:=(⟨(.tup []),[]⟩,⟨(.val .one),[.d .sha Yb b],true,false,false,0,0⟩::nn 4 ([]))
def xs0a.un (r:R):Zd:=((leafF r 0 0).dat Yb)
def xs0a (v0:Zd) (v1:Int) (v2:Int) (v3:Int):Option (Zd):=tOf xs0a.mk (vlim E 102 (xs0a.c v0 v1 v2 v3))
def xs07.c (v0:Zd) (v1:Int) (v2:Int) (v3:Int):List Cell:=⟨(.val .one),[.d .sha Yb v0],true,false,false,0,0⟩::vc (iL v1)::vc (iL v2)::vc (iL v3)::vc (.fn 80 [])::[]
def xs07.mk (b:Zd):R:=(⟨(.tup []),[]⟩,⟨(.val .one),[.d .sha Yb b],true,false,false,0,0⟩::nn 4 ([]))
def xs07.un (r:R):Zd:=((leafF r 0 0).dat Yb)
def xs07 (v0:Zd) (v1:Int) (v2:Int) (v3:Int):Option (Zd):=tOf xs07.mk (vlim E 104 (xs07.c v0 v1 v2 v3))
def xi1z.c (v0:List Int):List Cell:=ac [.d .fro (.sl (.int .i64)) v0]::[]
def xi1z.mk (b:(List Int)):R:=(⟨.agg,[.d .deep (.sl (.int .i64)) b]⟩,nn 1 ([]))
def xi1z.un (r:R):(List Int):=((leafR r 0).dat (.sl (.int .i64)))
def xi1z (v0:List Int):Option ((List Int)):=tOf xi1z.mk (vlim E 81 (xi1z.c v0))
def xs0s.c (v0:List Int):List Cell:=vc (.d .fro (.sl (.int .i64)) v0)::[]
def xs0s.mk (b:(List Int)):R:=(⟨.one,[.d .deep (.sl (.int .i64)) b]⟩,nn 1 ([]))
def xs0s.un (r:R):(List Int):=((leafR r 0).dat (.sl (.int .i64)))
def xs0s (v0:List Int):Option ((List Int)):=tOf xs0s.mk (vlim E 32 (xs0s.c v0))
def xi0r.c (v0:Int) (v1:Zd) (v2:List Int):List Cell:=ac [iL v0,.d .fro Yb v1]::vc (.d .fro (.sl (.int .i64)) v2)::[]
def xi0r.mk (b:Int × Zd):R:=(⟨.agg,[iL b.1,.d .deep Yb b.2]⟩,nn 2 ([]))
def xi0r.un (r:R):Int × Zd:=((leafR r 0).dat (.int .i64),(leafR r 1).dat Yb)
def xi0r (v0:Int) (v1:Zd) (v2:List Int):Option (Int × Zd):=tOf xi0r.mk (vlim E 35 (xi0r.c v0 v1 v2))
def xi0u.c (v0:Int) (v1:Zd):List Cell:=ac [iL v0,.d .deep Yb v1]::[]
def xi0u.mk (b:Int × Zd × Bool):R:=(⟨(.tup [some 2,none]),[iL b.1,.d .deep Yb b.2.1,bL b.2.2]⟩,nn 1 ([]))
def xi0u.un (r:R):Int × Zd × Bool:=((leafR r 0).dat (.int .i64),(leafR r 1).dat Yb,(leafR r 2).dat .bool)
def xi0u (v0:Int) (v1:Zd):Option (Int × Zd × Bool):=tOf xi0u.mk (vlim E 34 (xi0u.c v0 v1))
def xl24.c (v0:Int) (v1:Zd) (v2:Int) (v3:Zd):List Cell:=ac [iL v0,.d .fro Yb v1]::ac [iL v2,.d .fro Yb v3]::[]
def xl24.mk (b:Bool):R:=(⟨.one,[bL b]⟩,nn 2 ([]))
def xl24.un (r:R):Bool:=((leafR r 0).dat .bool)
def xl24 (v0:Int) (v1:Zd) (v2:Int) (v3:Zd):Option (Bool):=tOf xl24.mk (vlim E 10 (xl24.c v0 v1 v2 v3))
def xl12.c (v0:Zd) (v1:Zd):List Cell:=vc (.d .fro Yb v0)::vc (.d .fro Yb v1)::[]
def xl12.mk (b:Bool):R:=(⟨.one,[bL b]⟩,nn 2 ([]))
def xl12.un (r:R):Bool:=((leafR r 0).dat .bool)
def xl12 (v0:Zd) (v1:Zd):Option (Bool):=tOf xl12.mk (vlim E 36 (xl12.c v0 v1))
def xl19.c (v0:List Int) (v1:Int) (v2:List Int) (v3:Int):List Cell:=ac [.d .fro (.sl (.int .i64)) v0,iL v1]::ac [.d .fro (.sl (.int .i64)) v2,iL v3]::[]
def xl19.mk (b:Bool):R:=(⟨.one,[bL b]⟩,nn 2 ([]))
def xl19.un (r:R):Bool:=((leafR r 0).dat .bool)
def xl19 (v0:List Int) (v1:Int) (v2:List Int) (v3:Int):Option (Bool):=tOf xl19.mk (vlim E 63 (xl19.c v0 v1 v2 v3))
def xl2p.c (v0:List Int) (v1:List Int):List Cell:=ac [.d .fro (.sl (.int .i64)) v0]::ac [.d .fro (.sl (.int .i64)) v1]::[]
def xl2p.mk (b:Bool):R:=(⟨.one,[bL b]⟩,nn 2 ([]))
def xl2p.un (r:R):Bool:=((leafR r 0).dat .bool)
def xl2p (v0:List Int) (v1:List Int):Option (Bool):=tOf xl2p.mk (vlim E 83 (xl2p.c v0 v1))
def xl2h.c (v0:List Int) (v1:List Int):List Cell:=vc (.d .fro (.sl (.int .i64)) v0)::vc (.d .fro (.sl (.int .i64)) v1)::[]
def xl2h.mk (b:Bool):R:=(⟨.one,[bL b]⟩,nn 2 ([]))
def xl2h.un (r:R):Bool:=((leafR r 0).dat .bool)
def xl2h (v0:List Int) (v1:List Int):Option (Bool):=tOf xl2h.mk (vlim E 37 (xl2h.c v0 v1))
def xl1s.c (v0:Zb) (v1:Zb):List Cell:=vc (.d .fro Ya v0)::vc (.d .fro Ya v1)::[]
def xl1s.mk (b:Bool):R:=(⟨.one,[bL b]⟩,nn 2 ([]))
def xl1s.un (r:R):Bool:=((leafR r 0).dat .bool)
def xl1s (v0:Zb) (v1:Zb):Option (Bool):=tOf xl1s.mk (vlim E 11 (xl1s.c v0 v1))
def xl23.c (v0:Zg) (v1:Zg):List Cell:=vc (.d .fro Yc v0)::vc (.d .fro Yc v1)::[]
def xl23.mk (b:Bool):R:=(⟨.one,[bL b]⟩,nn 2 ([]))
def xl23.un (r:R):Bool:=((leafR r 0).dat .bool)
def xl23 (v0:Zg) (v1:Zg):Option (Bool):=tOf xl23.mk (vlim E 12 (xl23.c v0 v1))
def xl0v.c (v0:Zb) (v1:Int):List Cell:=⟨(.val .one),[.d .deep Ya v0],true,false,false,0,0⟩::vc (iL v1)::[]
def xl0v.mk (b:Int × Zb):R:=(⟨.one,[iL b.1]⟩,⟨(.val .one),[.d .deep Ya b.2],true,false,false,0,0⟩::nn 1 ([]))
def xl0v.un (r:R):Int × Zb:=((leafR r 0).dat (.int .i64),(leafF r 0 0).dat Ya)
def xl0v (v0:Zb) (v1:Int):Option (Int × Zb):=tOf xl0v.mk (vlim E 13 (xl0v.c v0 v1))
def xl0n.c (v0:Zd) (v1:Int):List Cell:=⟨(.val .one),[.d .deep Yb v0],true,false,false,0,0⟩::vc (iL v1)::[]
def xl0n.mk (b:Int × Zd):R:=(⟨.one,[iL b.1]⟩,⟨(.val .one),[.d .deep Yb b.2],true,false,false,0,0⟩::nn 1 ([]))
def xl0n.un (r:R):Int × Zd:=((leafR r 0).dat (.int .i64),(leafF r 0 0).dat Yb)
def xl0n (v0:Zd) (v1:Int):Option (Int × Zd):=tOf xl0n.mk (vlim E 38 (xl0n.c v0 v1))
def xl10.c (v0:List Int) (v1:Int):List Cell:=⟨(.val .one),[.d .deep (.sl (.int .i64)) v0],true,false,false,0,0⟩::vc (iL v1)::[]
def xl10.mk (b:Int × (List Int)):R:=(⟨.one,[iL b.1]⟩,⟨(.val .one),[.d .deep (.sl (.int .i64)) b.2],true,false,false,0,0⟩::nn 1 ([]))
def xl10.un (r:R):Int × (List Int):=((leafR r 0).dat (.int .i64),(leafF r 0 0).dat (.sl (.int .i64)))
def xl10 (v0:List Int) (v1:Int):Option (Int × (List Int)):=tOf xl10.mk (vlim E 39 (xl10.c v0 v1))
def xl0y.c (v0:Zg) (v1:Int):List Cell:=⟨(.val .one),[.d .deep Yc v0],true,false,false,0,0⟩::vc (iL v1)::[]
def xl0y.mk (b:Int × Zg):R:=(⟨.one,[iL b.1]⟩,⟨(.val .one),[.d .deep Yc b.2],true,false,false,0,0⟩::nn 1 ([]))
def xl0y.un (r:R):Int × Zg:=((leafR r 0).dat (.int .i64),(leafF r 0 0).dat Yc)
def xl0y (v0:Zg) (v1:Int):Option (Int × Zg):=tOf xl0y.mk (vlim E 14 (xl0y.c v0 v1))
def xl0z.c (v0:Int) (v1:Zd) (v2:Int):List Cell:=⟨(.val .agg),[iL v0,.d .deep Yb v1],true,false,false,0,0⟩::vc (iL v2)::[]
def xl0z.mk (b:Int × Int × Zd):R:=(⟨.one,[iL b.1]⟩,⟨(.val .agg),[iL b.2.1,.d .deep Yb b.2.2],true,false,false,0,0⟩::nn 1 ([]))
def xl0z.un (r:R):Int × Int × Zd:=((leafR r 0).dat (.int .i64),(leafF r 0 0).dat (.int .i64),(leafF r 0 1).dat Yb)
def xl0z (v0:Int) (v1:Zd) (v2:Int):Option (Int × Int × Zd):=tOf xl0z.mk (vlim E 15 (xl0z.c v0 v1 v2))
def xl1h.c (v0:Int) (v1:Zd) (v2:Int):List Cell:=ac [iL v0,.d .fro Yb v1]::vc (iL v2)::[]
def xl1h.mk (b:Int):R:=(⟨.one,[iL b]⟩,nn 2 ([]))
def xl1h.un (r:R):Int:=((leafR r 0).dat (.int .i64))
def xl1h (v0:Int) (v1:Zd) (v2:Int):Option (Int):=tOf xl1h.mk (vlim E 16 (xl1h.c v0 v1 v2))
def xl0x.c (v0:Zd) (v1:Int):List Cell:=vc (.d .fro Yb v0)::vc (iL v1)::[]
def xl0x.mk (b:Int):R:=(⟨.one,[iL b]⟩,nn 2 ([]))
def xl0x.un (r:R):Int:=((leafR r 0).dat (.int .i64))
def xl0x (v0:Zd) (v1:Int):Option (Int):=tOf xl0x.mk (vlim E 40 (xl0x.c v0 v1))
def xl1t.c (v0:List Int) (v1:Int):List Cell:=vc (.d .fro (.sl (.int .i64)) v0)::vc (iL v1)::[]
def xl1t.mk (b:Int):R:=(⟨.one,[iL b]⟩,nn 2 ([]))
def xl1t.un (r:R):Int:=((leafR r 0).dat (.int .i64))
def xl1t (v0:List Int) (v1:Int):Option (Int):=tOf xl1t.mk (vlim E 64 (xl1t.c v0 v1))
def tabT : List (Nat × List (List Cell × Tb)) := [
 (3,[(xl0p.c [] [] 0,.one (Bool) xl0p.mk)]),
 (4,[(xl1u.c [] 0,.one (Int) xl1u.mk)]),
 (5,[(xl25.c [] 0,.one (Int) xl25.mk)]),
 (6,[(xs1k.c [] [] 0,.one (Int × Zd × Bool) xs1k.mk)]),
 (7,[(xl1v.c [],.one (Zb) xl1v.mk)]),
 (8,[(xl27.c [],.one (Zg) xl27.mk)]),
 (9,[(xi1e.c [] [] 0,.one (Int × Zd × Bool) xi1e.mk)]),
 (10,[(xl24.c 0 [] 0 [],.one (Bool) xl24.mk)]),
 (11,[(xl1s.c [] [],.one (Bool) xl1s.mk)]),
 (12,[(xl23.c [] [],.one (Bool) xl23.mk)]),
 (13,[(xl0v.c [] 0,.one (Int × Zb) xl0v.mk)]),
 (14,[(xl0y.c [] 0,.one (Int × Zg) xl0y.mk)]),
 (15,[(xl0z.c 0 [] 0,.one (Int × Int × Zd) xl0z.mk)]),
 (16,[(xl1h.c 0 [] 0,.one (Int) xl1h.mk)]),
 (17,[(xl26.c 0 [] 0,.one (Int) xl26.mk)]),
 (18,[(xl2i.c [] 0,.one (Int) xl2i.mk)]),
 (19,[(xs1i.c [] 0,.one (Bool) xs1i.mk)]),
 (20,[(xs1j.c 0 [],.one (Bool) xs1j.mk)]),
 (21,[(xs2a.c 0 [],.one (Bool) xs2a.mk)]),
 (22,[(xs2m.c [] [] [],.one ((List Int) × Bool) xs2m.mk)]),
 (23,[(xs2t.c [] [] 0,.one (Zd) xs2t.mk)]),
 (24,[(xs2l.c 0 [],.one (Int × Zd × Bool) xs2l.mk)]),
 (25,[(xl28.c 0 [],.one (Int × Zd) xl28.mk)]),
 (26,[(xl2j.c [],.one ((List Int)) xl2j.mk)]),
 (27,[(xi1c.c [] 0,.one (Bool) xi1c.mk)]),
 (28,[(xi2c.c 0 [],.one (Bool) xi2c.mk)]),
 (29,[(xi22.c [] [],.one (Zg) xi22.mk)]),
 (30,[(xi17.c 0 [] 0 [] [],.one (Int × Zd) xi17.mk)]),
 (31,[(xi1r.c 0 [],.one ((List Int)) xi1r.mk)]),
 (32,[(xs0s.c [],.one ((List Int)) xs0s.mk)]),
 (33,[(xs0t.c [] 0,.one (Int) xs0t.mk)]),
 (34,[(xi0u.c 0 [],.one (Int × Zd × Bool) xi0u.mk)]),
 (35,[(xi0r.c 0 [] [],.one (Int × Zd) xi0r.mk)]),
 (36,[(xl12.c [] [],.one (Bool) xl12.mk)]),
 (37,[(xl2h.c [] [],.one (Bool) xl2h.mk)]),
 (38,[(xl0n.c [] 0,.one (Int × Zd) xl0n.mk)]),
 (39,[(xl10.c [] 0,.one (Int × (List Int)) xl10.mk)]),
 (40,[(xl0x.c [] 0,.one (Int) xl0x.mk)]),
 (41,[(xl13.c [] 0,.one (Int) xl13.mk)]),
 (42,[(xs2k.c [] 0,.one (Bool) xs2k.mk)]),
 (43,[(xs2u.c [] 0,.one ((List Int)) xs2u.mk)]),
 (44,[(xs2v.c 0 0 0,.one (Bool) xs2v.mk)]),
 (45,[(xs29.c [],.one (Bool) xs29.mk)]),
 (46,[(xs1x.c 0,.one (Bool) xs1x.mk)]),
 (47,[(xs1l.c [] [],.one (Int) xs1l.mk)]),
 (48,[(xs1w.c [],.one ((List Int)) xs1w.mk)]),
 (49,[(xl14.c [],.one (Zd) xl14.mk)]),
 (50,[(xi2g.c 0 0 0,.one (Bool) xi2g.mk)]),
 (51,[(xi2d.c [] 0,.one (Bool) xi2d.mk)]),
 (52,[(xi2n.c [],.one (Int) xi2n.mk)]),
 (53,[(xi2o.c 0,.one (Int) xi2o.mk)]),
 (54,[(xi1d.c 0 [],.one (Bool) xi1d.mk)]),
 (55,[(xi0h.c [],.one (Bool) xi0h.mk)]),
 (56,[(xi1n.c [] 0,.one (Bool) xi1n.mk)]),
 (57,[(xi2e.c [] [] [],.one ((List Int) × Bool) xi2e.mk)]),
 (58,[(xi2f.c 0 [],.one (Int × Zd) xi2f.mk)]),
 (59,[(xi0w.c 0 0 [],.one (Int) xi0w.mk)]),
 (60,[(xs03.c [] [] [],.one (Bool) xs03.mk),(xs0c.c [] 0,.one (Bool) xs0c.mk)]),
 (61,[(xi18.c [] 0,.one (Bool) xi18.mk)]),
 (62,[(xi16.c [] [],.one ((List Int)) xi16.mk)]),
 (63,[(xl19.c [] 0 [] 0,.one (Bool) xl19.mk)]),
 (64,[(xl1t.c [] 0,.one (Int) xl1t.mk)]),
 (65,[(xl1a.c [] 0 0,.one (Int) xl1a.mk)]),
 (66,[(xs2s.c [] 0,.one (Bool) xs2s.mk)]),
 (67,[(xl1b.c [] 0,.one ((List Int) × Int) xl1b.mk)]),
 (68,[(xi1f.c [] 0,.one (Bool) xi1f.mk)]),
 (69,[(xi1g.c 0,.one (Bool) xi1g.mk)]),
 (70,[(xi21.c [] 0,.one (Bool) xi21.mk)]),
 (71,[(xi1o.c 0,.one (Bool) xi1o.mk)]),
 (72,[(xi11.c [] [],.one (Int) xi11.mk)]),
 (73,[(xs00.c [],.one (Bool) xs00.mk)]),
 (74,[(xi0e.c [] 0,.one (Bool) xi0e.mk)]),
 (75,[(xi0k.c [] [] [],.one (Bool) xi0k.mk)]),
 (76,[(xi1p.c [] [] [],.one (Bool) xi1p.mk)]),
 (77,[(xs0q.c [],.one ((List Int)) xs0q.mk)]),
 (78,[(xs0f.c [],.one (Zd) xs0f.mk)]),
 (79,[(xs02.c [],.one (Zd) xs02.mk)]),
 (80,[(xi1q.c [] 0 [] 0,.one (Int) xi1q.mk)]),
 (81,[(xi1z.c [],.one ((List Int)) xi1z.mk)]),
 (82,[(xs06.c [] [] [],.one (Int) xs06.mk),(xs0g.c [] 0,.one (Int) xs0g.mk)]),
 (83,[(xl2p.c [] [],.one (Bool) xl2p.mk)]),
 (84,[(xl2q.c [] 0,.one (Int) xl2q.mk)]),
 (85,[(xl2r.c [],.one ((List Int)) xl2r.mk)]),
 (86,[(xi20.c 0 0,.one (Bool) xi20.mk)]),
 (87,[(xi1y.c [],.one (Bool) xi1y.mk)]),
 (88,[(xs0o.c [] [],.one (Int) xs0o.mk)]),
 (89,[(xs01.c [],.one (Int) xs01.mk)]),
 (90,[(xi0i.c [] [] [],.one (Bool) xi0i.mk)]),
 (91,[(xs0m.c 0,.one ((List Int)) xs0m.mk)]),
 (92,[(xs0d.c 0,.one (Zd) xs0d.mk)]),
 (93,[(xs0b.c [] 0,.one (Zd) xs0b.mk)]),
 (94,[(xi0l.c [],.one (Bool) xi0l.mk)]),
 (95,[(xi2b.c 0,.one (Bool) xi2b.mk)]),
 (96,[(xc15.c 0 0,.one (Int) xc15.mk)]),
 (97,[(xs04.c [] 0 0,.one (Zd) xs04.mk)]),
 (98,[(xs09.c [] 0 0 0,.one (Zd) xs09.mk)]),
 (99,[(xs05.c [],.one (Bool) xs05.mk)]),
 (100,[(xi0j.c 0,.one (Bool) xi0j.mk)]),
 (101,[(xc1m.c 0,.one (Bool) xc1m.mk)]),
 (102,[(xs0a.c [] 0 0 0,.one (Zd) xs0a.mk)]),
 (103,[(xs08.c [],.one (Int) xs08.mk)]),
 (104,[(xs07.c [] 0 0 0,.one (Zd) xs07.mk)])]
def tab:FuncId→List Cell→Tb:=fun g cs => match assoc tabT g with | some l => pickT l cs | none => .no
end
end GoV

/- Equations of the program's functions (printed by wip/tools/emit.py). -/
namespace GoV
open Go Go.Proofs
set_option maxRecDepth 100000
noncomputable section

def xl0p.t {γ:Type} (ret:(Bool)→Option γ) (v0:Zb) (v1:Zg) (v2:Int):Option γ :=
 (xl1u (v0) ((1048576:Int))).bind fun (r0:Int) =>
 bif decide (r0<(0:Int)) then
 ret (Bool.true)
 else
 (xl25 (v1) (r0)).bind fun (r1:Int) =>
 bif decide (r1<(0:Int)) then
 ret (Bool.true)
 else
 (xl1v (v0)).bind fun (r2:Zb) =>
 (xl27 (v1)).bind fun (r3:Zg) =>
 (xs1k (r2) (r3) (v2)).bind fun (r4:Int × Zd × Bool) =>
 (xl1v (v0)).bind fun (r5:Zb) =>
 (xl27 (v1)).bind fun (r6:Zg) =>
 (xi1e (r5) (r6) (v2)).bind fun (r7:Int × Zd × Bool) =>
 (xl24 (r7.fst) (r7.snd.fst) (r4.fst) (r4.snd.fst)).bind fun (r8:Bool) =>
 bif !r8 then
 ret (Bool.false)
 else
 bif !r7.snd.snd == r4.snd.snd then
 ret (Bool.false)
 else
 (xl1v (v0)).bind fun (r9:Zb) =>
 (xl1s (r5) (r9)).bind fun (r10:Bool) =>
 bif !r10 then
 ret (Bool.false)
 else
 (xl27 (v1)).bind fun (r11:Zg) =>
 (xl23 (r6) (r11)).bind fun (r12:Bool) =>
 bif !r12 then
 ret (Bool.false)
 else
 (xl0v (r5) ((1:Int))).bind fun (r13:Int × Zb) =>
 (xl0y (r6) (r13.fst)).bind fun (r14:Int × Zg) =>
 bif decide (r14.fst<(0:Int)) then
 ret (Bool.false)
 else
 (xl24 (r7.fst) (r7.snd.fst) (r4.fst) (r4.snd.fst)).bind fun (r15:Bool) =>
 bif !r15 then
 ret (Bool.false)
 else
 bif !r7.snd.snd == r4.snd.snd then
 ret (Bool.false)
 else
 (xl0z (r7.fst) (r7.snd.fst) ((1:Int))).bind fun (r16:Int × Int × Zd) =>
 (xl1h (r7.fst) (r16.snd.snd) ((1:Int))).bind fun (r17:Int) =>
 bif decide (r17<(0:Int)) then
 ret (Bool.false)
 else
 bif r17 != r16.fst then
 ret (Bool.false)
 else
 (xl1v (v0)).bind fun (r18:Zb) =>
 (xl27 (v1)).bind fun (r19:Zg) =>
 (xi1e (r18) (r19) (v2)).bind fun (r20:Int × Zd × Bool) =>
 (xl24 (r20.fst) (r20.snd.fst) (r4.fst) (r4.snd.fst)).bind fun (r21:Bool) =>
 bif !r21 then
 ret (Bool.false)
 else
 bif !r20.snd.snd == r4.snd.snd then
 ret (Bool.false)
 else
 (xl1h (r7.fst) (r16.snd.snd) ((1:Int))).bind fun (r22:Int) =>
 bif decide (r22<(0:Int)) then
 ret (Bool.false)
 else
 bif r22 != r16.fst then
 ret (Bool.false)
 else
 ret (Bool.true)
theorem xl0p.u:∀ b,xl0p.un (xl0p.mk b)=b:=fun _ => by kernel_rfl
theorem xl0p.eq (v0 v1 v2) {b} (h:xl0p.t some v0 v1 v2=some b):xl0p v0 v1 v2=some b:=eqF xl0p.u Tryz.f3 (callT_le E tab) rfl rfl rfl (xl0p.t (rR xl0p.mk) v0 v1 v2) (by kernel_rfl) (by unfold xl0p.t; repeat' first | exact sR | exact sN | exact sL | apply sC | (apply sB; intro _)) h
def xl1u.s5 (v0:Zb) (v1:Int) (v2:Int):List Cell:=vc (.d .fro Ya v0)::vc (iL v1)::nn 3 (vc (iL v2)::nn 21 ([]))
def xl1u.q5:=fun v0 v1 v2 => loopAtL E (callT E tab) 4 Tryz.f4 2 [.r,.r,.r,.l,.r,.b] (xl1u.s5 v0 v1 v2)
def xl1u.l5:=fun v0 v1 v2 => tOf xl1u.mk (xl1u.q5 v0 v1 v2)
def xl1u.t {γ:Type} (ret:(Int)→Option γ) (lp5:Zb→Int→Int→Option γ) (v0:Zb) (v1:Int):Option γ :=
 bif decide (IntKind.i64.wrap (v1 - (↑v0.length:Int))<(0:Int)) then
 ret ((-1:Int))
 else
 lp5 (v0) (IntKind.i64.wrap (v1 - (↑v0.length:Int))) ((0:Int))
def xl1u.t5 {γ:Type} (ret:(Int)→Option γ) (lp5:Zb→Int→Int→Option γ) (v0:Zb) (v1:Int) (v2:Int):Option γ :=
 bif decide (v2<(↑v0.length:Int)) then
 bif decide ((0:Int)≤v2) then
 bif decide (v2.toNat<v0.length) then
 (xl26 ((v0.getD v2.toNat ((0:Int),[])).fst) ((v0.getD v2.toNat ((0:Int),[])).snd) (v1)).bind fun (r0:Int) =>
 bif decide (r0<(0:Int)) then
 ret ((-1:Int))
 else
 lp5 (v0) (r0) (IntKind.i64.wrap (v2+(1:Int)))
 else
 none
 else
 none
 else
 ret (v1)
theorem xl1u.u:∀ b,xl1u.un (xl1u.mk b)=b:=fun _ => by kernel_rfl
theorem xl1u.eq (v0 v1) {b} (h:xl1u.t some xl1u.l5 v0 v1=some b):xl1u v0 v1=some b:=eqF xl1u.u Tryz.f4 (callT_le E tab) rfl rfl rfl (xl1u.t (rR xl1u.mk) xl1u.q5 v0 v1) (by kernel_rfl) (by unfold xl1u.t; repeat' first | exact sR | exact sN | exact sL | apply sC | (apply sB; intro _)) h
theorem xl1u.eq5 (v0 v1 v2) {b} (h:xl1u.t5 some xl1u.l5 v0 v1 v2=some b):xl1u.l5 v0 v1 v2=some b:=eqL xl1u.u (xl1u.t5 (rR xl1u.mk) xl1u.q5 v0 v1 v2) (by kernel_rfl) (by unfold xl1u.t5; repeat' first | exact sR | exact sN | exact sL | apply sC | (apply sB; intro _)) h
def xl26.t {γ:Type} (ret:(Int)→Option γ) (v0:Int) (v1:Zd) (v2:Int):Option γ :=
 (xl13 (v1) (v2)).bind fun (r0:Int) =>
 bif decide (r0<(0:Int)) then
 ret ((-1:Int))
 else
 ret (r0)
theorem xl26.u:∀ b,xl26.un (xl26.mk b)=b:=fun _ => by kernel_rfl
theorem xl26.eq (v0 v1 v2) {b} (h:xl26.t some v0 v1 v2=some b):xl26 v0 v1 v2=some b:=eqF xl26.u Tryz.f17 (callT_le E tab) rfl rfl rfl (xl26.t (rR xl26.mk) v0 v1 v2) (by kernel_rfl) (by unfold xl26.t; repeat' first | exact sR | exact sN | exact sL | apply sC | (apply sB; intro _)) h
def xl13.s5 (v0:Zd) (v1:Int) (v2:Int):List Cell:=vc (.d .fro Yb v0)::vc (iL v1)::nn 3 (vc (iL v2)::nn 21 ([]))
def xl13.q5:=fun v0 v1 v2 => loopAtL E (callT E tab) 41 Tryz.f41 2 [.r,.r,.r,.l,.r,.b] (xl13.s5 v0 v1 v2)
def xl13.l5:=fun v0 v1 v2 => tOf xl13.mk (xl13.q5 v0 v1 v2)
def xl13.t {γ:Type} (ret:(Int)→Option γ) (lp5:Zd→Int→Int→Option γ) (v0:Zd) (v1:Int):Option γ :=
 bif decide (IntKind.i64.wrap (v1 - (↑v0.length:Int))<(0:Int)) then
 ret ((-1:Int))
 else
 lp5 (v0) (IntKind.i64.wrap (v1 - (↑v0.length:Int))) ((0:Int))
def xl13.t5 {γ:Type} (ret:(Int)→Option γ) (lp5:Zd→Int→Int→Option γ) (v0:Zd) (v1:Int) (v2:Int):Option γ :=
 bif decide (v2<(↑v0.length:Int)) then
 bif decide ((0:Int)≤v2) then
 bif decide (v2.toNat<v0.length) then
 (xl1a ((v0.getD v2.toNat ([],(0:Int))).fst) ((v0.getD v2.toNat ([],(0:Int))).snd) (v1)).bind fun (r0:Int) =>
 bif decide (r0<(0:Int)) then
 ret ((-1:Int))
 else
 lp5 (v0) (r0) (IntKind.i64.wrap (v2+(1:Int)))
 else
 none
 else
 none
 else
 ret (v1)
theorem xl13.u:∀ b,xl13.un (xl13.mk b)=b:=fun _ => by kernel_rfl
theorem xl13.eq (v0 v1) {b} (h:xl13.t some xl13.l5 v0 v1=some b):xl13 v0 v1=some b:=eqF xl13.u Tryz.f41 (callT_le E tab) rfl rfl rfl (xl13.t (rR xl13.mk) xl13.q5 v0 v1) (by kernel_rfl) (by unfold xl13.t; repeat' first | exact sR | exact sN | exact sL | apply sC | (apply sB; intro _)) h
theorem xl13.eq5 (v0 v1 v2) {b} (h:xl13.t5 some xl13.l5 v0 v1 v2=some b):xl13.l5 v0 v1 v2=some b:=eqL xl13.u (xl13.t5 (rR xl13.mk) xl13.q5 v0 v1 v2) (by kernel_rfl) (by unfold xl13.t5; repeat' first | exact sR | exact sN | exact sL | apply sC | (apply sB; intro _)) h
def xl1a.t {γ:Type} (ret:(Int)→Option γ) (v0:List Int) (v1:Int) (v2:Int):Option γ :=
 (xl2q (v0) (v2)).bind fun (r0:Int) =>
 bif decide (r0<(0:Int)) then
 ret ((-1:Int))
 else
 ret (r0)
theorem xl1a.u:∀ b,xl1a.un (xl1a.mk b)=b:=fun _ => by kernel_rfl
theorem xl1a.eq (v0 v1 v2) {b} (h:xl1a.t some v0 v1 v2=some b):xl1a v0 v1 v2=some b:=eqF xl1a.u Tryz.f65 (callT_le E tab) rfl rfl rfl (xl1a.t (rR xl1a.mk) v0 v1 v2) (by kernel_rfl) (by unfold xl1a.t; repeat' first | exact sR | exact sN | exact sL | apply sC | (apply sB; intro _)) h
def xl2q.t {γ:Type} (ret:(Int)→Option γ) (v0:List Int) (v1:Int):Option γ :=
 (xl2i (v0) (v1)).bind fun (r0:Int) =>
 bif decide (r0<(0:Int)) then
 ret ((-1:Int))
 else
 ret (r0)
theorem xl2q.u:∀ b,xl2q.un (xl2q.mk b)=b:=fun _ => by kernel_rfl
theorem xl2q.eq (v0 v1) {b} (h:xl2q.t some v0 v1=some b):xl2q v0 v1=some b:=eqF xl2q.u Tryz.f84 (callT_le E tab) rfl rfl rfl (xl2q.t (rR xl2q.mk) v0 v1) (by kernel_rfl) (by unfold xl2q.t; repeat' first | exact sR | exact sN | exact sL | apply sC | (apply sB; intro _)) h
def xl2i.t {γ:Type} (ret:(Int)→Option γ) (v0:List Int) (v1:Int):Option γ :=
 bif decide (IntKind.i64.wrap (v1 - (↑v0.length:Int))<(0:Int)) then
 ret ((-1:Int))
 else
 ret (IntKind.i64.wrap (v1 - (↑v0.length:Int)))
theorem xl2i.u:∀ b,xl2i.un (xl2i.mk b)=b:=fun _ => by kernel_rfl
theorem xl2i.eq (v0 v1) {b} (h:xl2i.t some v0 v1=some b):xl2i v0 v1=some b:=eqF xl2i.u Tryz.f18 (callT_le E tab) rfl rfl rfl (xl2i.t (rR xl2i.mk) v0 v1) (by kernel_rfl) (by unfold xl2i.t; repeat' first | exact sR | exact sN | exact sL | apply sC | (apply sB; intro _)) h
def xl25.s5 (v0:Zg) (v1:Int) (v2:Int):List Cell:=vc (.d .fro Yc v0)::vc (iL v1)::nn 3 (vc (iL v2)::nn 21 ([]))
def xl25.q5:=fun v0 v1 v2 => loopAtL E (callT E tab) 5 Tryz.f5 2 [.r,.r,.r,.l,.r,.b] (xl25.s5 v0 v1 v2)
def xl25.l5:=fun v0 v1 v2 => tOf xl25.mk (xl25.q5 v0 v1 v2)
def xl25.t {γ:Type} (ret:(Int)→Option γ) (lp5:Zg→Int→Int→Option γ) (v0:Zg) (v1:Int):Option γ :=
 bif decide (IntKind.i64.wrap (v1 - (↑v0.length:Int))<(0:Int)) then
 ret ((-1:Int))
 else
 lp5 (v0) (IntKind.i64.wrap (v1 - (↑v0.length:Int))) ((0:Int))
def xl25.t5 {γ:Type} (ret:(Int)→Option γ) (lp5:Zg→Int→Int→Option γ) (v0:Zg) (v1:Int) (v2:Int):Option γ :=
 bif decide (v2<(↑v0.length:Int)) then
 bif decide ((0:Int)≤v2) then
 bif decide (v2.toNat<v0.length) then
 (xl2i (v0.getD v2.toNat []) (v1)).bind fun (r0:Int) =>
 bif decide (r0<(0:Int)) then
 ret ((-1:Int))
 else
 lp5 (v0) (r0) (IntKind.i64.wrap (v2+(1:Int)))
 else
 none
 else
 none
 else
 ret (v1)
theorem xl25.u:∀ b,xl25.un (xl25.mk b)=b:=fun _ => by kernel_rfl
theorem xl25.eq (v0 v1) {b} (h:xl25.t some xl25.l5 v0 v1=some b):xl25 v0 v1=some b:=eqF xl25.u Tryz.f5 (callT_le E tab) rfl rfl rfl (xl25.t (rR xl25.mk) xl25.q5 v0 v1) (by kernel_rfl) (by unfold xl25.t; repeat' first | exact sR | exact sN | exact sL | apply sC | (apply sB; intro _)) h
theorem xl25.eq5 (v0 v1 v2) {b} (h:xl25.t5 some xl25.l5 v0 v1 v2=some b):xl25.l5 v0 v1 v2=some b:=eqL xl25.u (xl25.t5 (rR xl25.mk) xl25.q5 v0 v1 v2) (by kernel_rfl) (by unfold xl25.t5; repeat' first | exact sR | exact sN | exact sL | apply sC | (apply sB; intro _)) h
def xl1v.s3 (v0:Zb) (v1:Zb) (v2:Int):List Cell:=vc (.d .fro Ya v0)::nn 2 (vc (.d .deep Ya v1)::vc (iL v2)::nn 18 ([]))
def xl1v.q3:=fun v0 v1 v2 => loopAtL E (callT E tab) 7 Tryz.f7 1 [.r,.r,.l,.r,.b] (xl1v.s3 v0 v1 v2)
def xl1v.l3:=fun v0 v1 v2 => tOf xl1v.mk (xl1v.q3 v0 v1 v2)
def xl1v.t {γ:Type} (ret:(Zb)→Option γ) (lp3:Zb→Zb→Int→Option γ) (v0:Zb):Option γ :=
 bif decide ((↑v0.length:Int)=(↑v0.length:Int)) then
 bif decide ((↑v0.length:Int)≤(↑(4294967296:Nat):Int)) then
 lp3 (v0) (List.replicate (↑v0.length:Int).toNat ((0:Int),[])) ((0:Int))
 else
 none
 else
 none
def xl1v.t3 {γ:Type} (ret:(Zb)→Option γ) (lp3:Zb→Zb→Int→Option γ) (v0:Zb) (v1:Zb) (v2:Int):Option γ :=
 bif decide (v2<(↑v0.length:Int)) then
 bif decide ((0:Int)≤v2) then
 bif decide (v2.toNat<v0.length) then
 (xl28 ((v0.getD v2.toNat ((0:Int),[])).fst) ((v0.getD v2.toNat ((0:Int),[])).snd)).bind fun (r0:Int × Zd) =>
 bif decide ((0:Int)≤v2) then
 bif decide (v2.toNat<v1.length) then
 bif decide (v2.toNat<v1.length) then
 lp3 (v0) (v1.set v2.toNat (r0.fst,r0.snd)) (IntKind.i64.wrap (v2+(1:Int)))
 else
 none
 else
 none
 else
 none
 else
 none
 else
 none
 else
 ret (v1)
theorem xl1v.u:∀ b,xl1v.un (xl1v.mk b)=b:=fun _ => by kernel_rfl
theorem xl1v.eq (v0) {b} (h:xl1v.t some xl1v.l3 v0=some b):xl1v v0=some b:=eqF xl1v.u Tryz.f7 (callT_le E tab) rfl rfl rfl (xl1v.t (rR xl1v.mk) xl1v.q3 v0) (by kernel_rfl) (by unfold xl1v.t; repeat' first | exact sR | exact sN | exact sL | apply sC | (apply sB; intro _)) h
theorem xl1v.eq3 (v0 v1 v2) {b} (h:xl1v.t3 some xl1v.l3 v0 v1 v2=some b):xl1v.l3 v0 v1 v2=some b:=eqL xl1v.u (xl1v.t3 (rR xl1v.mk) xl1v.q3 v0 v1 v2) (by kernel_rfl) (by unfold xl1v.t3; repeat' first | exact sR | exact sN | exact sL | apply sC | (apply sB; intro _)) h
def xl28.t {γ:Type} (ret:(Int × Zd)→Option γ) (v0:Int) (v1:Zd):Option γ :=
 (xl14 (v1)).bind fun (r0:Zd) =>
 ret (v0,r0)
theorem xl28.u:∀ b,xl28.un (xl28.mk b)=b:=fun _ => by kernel_rfl
theorem xl28.eq (v0 v1) {b} (h:xl28.t some v0 v1=some b):xl28 v0 v1=some b:=eqF xl28.u Tryz.f25 (callT_le E tab) rfl rfl rfl (xl28.t (rR xl28.mk) v0 v1) (by kernel_rfl) (by unfold xl28.t; repeat' first | exact sR | exact sN | exact sL | apply sC | (apply sB; intro _)) h
def xl14.s3 (v0:Zd) (v1:Zd) (v2:Int):List Cell:=vc (.d .fro Yb v0)::nn 2 (vc (.d .deep Yb v1)::vc (iL v2)::nn 18 ([]))
def xl14.q3:=fun v0 v1 v2 => loopAtL E (callT E tab) 49 Tryz.f49 1 [.r,.r,.l,.r,.b] (xl14.s3 v0 v1 v2)
def xl14.l3:=fun v0 v1 v2 => tOf xl14.mk (xl14.q3 v0 v1 v2)
def xl14.t {γ:Type} (ret:(Zd)→Option γ) (lp3:Zd→Zd→Int→Option γ) (v0:Zd):Option γ :=
 bif decide ((↑v0.length:Int)=(↑v0.length:Int)) then
 bif decide ((↑v0.length:Int)≤(↑(4294967296:Nat):Int)) then
 lp3 (v0) (List.replicate (↑v0.length:Int).toNat ([],(0:Int))) ((0:Int))
 else
 none
 else
 none
def xl14.t3 {γ:Type} (ret:(Zd)→Option γ) (lp3:Zd→Zd→Int→Option γ) (v0:Zd) (v1:Zd) (v2:Int):Option γ :=
 bif decide (v2<(↑v0.length:Int)) then
 bif decide ((0:Int)≤v2) then
 bif decide (v2.toNat<v0.length) then
 (xl1b ((v0.getD v2.toNat ([],(0:Int))).fst) ((v0.getD v2.toNat ([],(0:Int))).snd)).bind fun (r0:(List Int) × Int) =>
 bif decide ((0:Int)≤v2) then
 bif decide (v2.toNat<v1.length) then
 bif decide (v2.toNat<v1.length) then
 lp3 (v0) (v1.set v2.toNat (r0.fst,r0.snd)) (IntKind.i64.wrap (v2+(1:Int)))
 else
 none
 else
 none
 else
 none
 else
 none
 else
 none
 else
 ret (v1)
theorem xl14.u:∀ b,xl14.un (xl14.mk b)=b:=fun _ => by kernel_rfl
theorem xl14.eq (v0) {b} (h:xl14.t some xl14.l3 v0=some b):xl14 v0=some b:=eqF xl14.u Tryz.f49 (callT_le E tab) rfl rfl rfl (xl14.t (rR xl14.mk) xl14.q3 v0) (by kernel_rfl) (by unfold xl14.t; repeat' first | exact sR | exact sN | exact sL | apply sC | (apply sB; intro _)) h
theorem xl14.eq3 (v0 v1 v2) {b} (h:xl14.t3 some xl14.l3 v0 v1 v2=some b):xl14.l3 v0 v1 v2=some b:=eqL xl14.u (xl14.t3 (rR xl14.mk) xl14.q3 v0 v1 v2) (by kernel_rfl) (by unfold xl14.t3; repeat' first | exact sR | exact sN | exact sL | apply sC | (apply sB; intro _)) h
def xl1b.t {γ:Type} (ret:((List Int) × Int)→Option γ) (v0:List Int) (v1:Int):Option γ :=
 (xl2r (v0)).bind fun (r0:(List Int)) =>
 ret (r0,v1)
theorem xl1b.u:∀ b,xl1b.un (xl1b.mk b)=b:=fun _ => by kernel_rfl
theorem xl1b.eq (v0 v1) {b} (h:xl1b.t some v0 v1=some b):xl1b v0 v1=some b:=eqF xl1b.u Tryz.f67 (callT_le E tab) rfl rfl rfl (xl1b.t (rR xl1b.mk) v0 v1) (by kernel_rfl) (by unfold xl1b.t; repeat' first | exact sR | exact sN | exact sL | apply sC | (apply sB; intro _)) h
def xl2r.t {γ:Type} (ret:((List Int))→Option γ) (v0:List Int):Option γ :=
 (xl2j (v0)).bind fun (r0:(List Int)) =>
 ret (r0)
theorem xl2r.u:∀ b,xl2r.un (xl2r.mk b)=b:=fun _ => by kernel_rfl
theorem xl2r.eq (v0) {b} (h:xl2r.t some v0=some b):xl2r v0=some b:=eqF xl2r.u Tryz.f85 (callT_le E tab) rfl rfl rfl (xl2r.t (rR xl2r.mk) v0) (by kernel_rfl) (by unfold xl2r.t; repeat' first | exact sR | exact sN | exact sL | apply sC | (apply sB; intro _)) h
def xl2j.s3 (v0:List Int) (v1:List Int) (v2:Int):List Cell:=vc (.d .fro (.sl (.int .i64)) v0)::nn 2 (vc (.d .deep (.sl (.int .i64)) v1)::vc (iL v2)::nn 17 ([]))
def xl2j.q3:=fun v0 v1 v2 => loopAtL E (callT E tab) 26 Tryz.f26 1 [.r,.r,.l,.r,.b] (xl2j.s3 v0 v1 v2)
def xl2j.l3:=fun v0 v1 v2 => tOf xl2j.mk (xl2j.q3 v0 v1 v2)
def xl2j.t {γ:Type} (ret:((List Int))→Option γ) (lp3:(List Int)→(List Int)→Int→Option γ) (v0:List Int):Option γ :=
 bif decide ((↑v0.length:Int)=(↑v0.length:Int)) then
 bif decide ((↑v0.length:Int)≤(↑(4294967296:Nat):Int)) then
 lp3 (v0) (List.replicate (↑v0.length:Int).toNat (0:Int)) ((0:Int))
 else
 none
 else
 none
def xl2j.t3 {γ:Type} (ret:((List Int))→Option γ) (lp3:(List Int)→(List Int)→Int→Option γ) (v0:List Int) (v1:List Int) (v2:Int):Option γ :=
 bif decide (v2<(↑v0.length:Int)) then
 bif decide ((0:Int)≤v2) then
 bif decide (v2.toNat<v0.length) then
 bif decide ((0:Int)≤v2) then
 bif decide (v2.toNat<v1.length) then
 bif decide (v2.toNat<v1.length) then
 lp3 (v0) (v1.set v2.toNat (v0.getD v2.toNat (0:Int))) (IntKind.i64.wrap (v2+(1:Int)))
 else
 none
 else
 none
 else
 none
 else
 none
 else
 none
 else
 ret (v1)
theorem xl2j.u:∀ b,xl2j.un (xl2j.mk b)=b:=fun _ => by kernel_rfl
theorem xl2j.eq (v0) {b} (h:xl2j.t some xl2j.l3 v0=some b):xl2j v0=some b:=eqF xl2j.u Tryz.f26 (callT_le E tab) rfl rfl rfl (xl2j.t (rR xl2j.mk) xl2j.q3 v0) (by kernel_rfl) (by unfold xl2j.t; repeat' first | exact sR | exact sN | exact sL | apply sC | (apply sB; intro _)) h
theorem xl2j.eq3 (v0 v1 v2) {b} (h:xl2j.t3 some xl2j.l3 v0 v1 v2=some b):xl2j.l3 v0 v1 v2=some b:=eqL xl2j.u (xl2j.t3 (rR xl2j.mk) xl2j.q3 v0 v1 v2) (by kernel_rfl) (by unfold xl2j.t3; repeat' first | exact sR | exact sN | exact sL | apply sC | (apply sB; intro _)) h
def xl27.s3 (v0:Zg) (v1:Zg) (v2:Int):List Cell:=vc (.d .fro Yc v0)::nn 2 (vc (.d .deep Yc v1)::vc (iL v2)::nn 18 ([]))
def xl27.q3:=fun v0 v1 v2 => loopAtL E (callT E tab) 8 Tryz.f8 1 [.r,.r,.l,.r,.b] (xl27.s3 v0 v1 v2)
def xl27.l3:=fun v0 v1 v2 => tOf xl27.mk (xl27.q3 v0 v1 v2)
def xl27.t {γ:Type} (ret:(Zg)→Option γ) (lp3:Zg→Zg→Int→Option γ) (v0:Zg):Option γ :=
 bif decide ((↑v0.length:Int)=(↑v0.length:Int)) then
 bif decide ((↑v0.length:Int)≤(↑(4294967296:Nat):Int)) then
 lp3 (v0) (List.replicate (↑v0.length:Int).toNat []) ((0:Int))
 else
 none
 else
 none
def xl27.t3 {γ:Type} (ret:(Zg)→Option γ) (lp3:Zg→Zg→Int→Option γ) (v0:Zg) (v1:Zg) (v2:Int):Option γ :=
 bif decide (v2<(↑v0.length:Int)) then
 bif decide ((0:Int)≤v2) then
 bif decide (v2.toNat<v0.length) then
 (xl2j (v0.getD v2.toNat [])).bind fun (r0:(List Int)) =>
 bif decide ((0:Int)≤v2) then
 bif decide (v2.toNat<v1.length) then
 bif decide (v2.toNat<v1.length) then
 lp3 (v0) (v1.set v2.toNat r0) (IntKind.i64.wrap (v2+(1:Int)))
 else
 none
 else
 none
 else
 none
 else
 none
 else
 none
 else
 ret (v1)
theorem xl27.u:∀ b,xl27.un (xl27.mk b)=b:=fun _ => by kernel_rfl
theorem xl27.eq (v0) {b} (h:xl27.t some xl27.l3 v0=some b):xl27 v0=some b:=eqF xl27.u Tryz.f8 (callT_le E tab) rfl rfl rfl (xl27.t (rR xl27.mk) xl27.q3 v0) (by kernel_rfl) (by unfold xl27.t; repeat' first | exact sR | exact sN | exact sL | apply sC | (apply sB; intro _)) h
theorem xl27.eq3 (v0 v1 v2) {b} (h:xl27.t3 some xl27.l3 v0 v1 v2=some b):xl27.l3 v0 v1 v2=some b:=eqL xl27.u (xl27.t3 (rR xl27.mk) xl27.q3 v0 v1 v2) (by kernel_rfl) (by unfold xl27.t3; repeat' first | exact sR | exact sN | exact sL | apply sC | (apply sB; intro _)) h
def xs1k.s23 (v0:Zg) (v1:Int) (v2:Int) (v3:Zd) (v4:Zd) (v5:Int) (v6:Int) (v7:Zd) (v8:Zd) (v9:List Int) (v10:Int) (v11:Zb) (v12:Int) (v13:Int) (v14:Int) (v15:Int) (v16:Zd) (v17:Int) (v18:Int):List Cell:=nn 1 (vc (.d .fro Yc v0)::vc (iL v1)::nn 3 (⟨(.box false),[iL v2,.d .deep Yb v3],false,false,false,0,0⟩::nn 3 (vc (.d .sha Yb v4)::nn 2 (vc (iL v5)::⟨(.box false),[iL v6,.d .fro Yb v7],false,false,false,0,0⟩::vc (.d .sha Yb v8)::nn 1 (⟨(.box false),[.d .fro (.sl (.int .i64)) v9,iL v10],false,false,false,0,0⟩::nn 57 (vc (.d .fro Ya v11)::vc (iL v12)::vc (iL v13)::nn 4 (vc (.lent ⟨10,0,none⟩ none)::vc (iL v14)::vc (iL v15)::nn 4 (vc (.d .fro Yb v16)::vc (iL v17)::vc (iL v18)::nn 32 ([])))))))))
def xs1k.q23:=fun v0 v1 v2 v3 v4 v5 v6 v7 v8 v9 v10 v11 v12 v13 v14 v15 v16 v17 v18 => loopAtL E (callT E tab) 6 Tryz.f6 3 [.r,.r,.r,.r,.r,.r,.l,.r,.b,.o,.r,.r,.l,.b,.r,.r,.l,.r,.b,.o,.r,.r,.l,.b,.r,.r,.b] (xs1k.s23 v0 v1 v2 v3 v4 v5 v6 v7 v8 v9 v10 v11 v12 v13 v14 v15 v16 v17 v18)
def xs1k.l23:=fun v0 v1 v2 v3 v4 v5 v6 v7 v8 v9 v10 v11 v12 v13 v14 v15 v16 v17 v18 => tOf xs1k.mk (xs1k.q23 v0 v1 v2 v3 v4 v5 v6 v7 v8 v9 v10 v11 v12 v13 v14 v15 v16 v17 v18)
def xs1k.s20 (v0:Zg) (v1:Int) (v2:Int) (v3:Zd) (v4:Zd) (v5:Int) (v6:Int) (v7:Zd) (v8:Zd) (v9:Zb) (v10:Int) (v11:Int) (v12:Int) (v13:Int):List Cell:=nn 1 (vc (.d .fro Yc v0)::vc (iL v1)::nn 3 (⟨(.box false),[iL v2,.d .deep Yb v3],false,false,false,0,0⟩::nn 3 (vc (.d .sha Yb v4)::nn 2 (vc (iL v5)::⟨(.box false),[iL v6,.d .fro Yb v7],false,false,false,0,0⟩::vc (.d .sha Yb v8)::nn 59 (vc (.d .fro Ya v9)::vc (iL v10)::vc (iL v11)::nn 4 (vc (.lent ⟨10,0,none⟩ none)::vc (iL v12)::vc (iL v13)::nn 39 ([])))))))
def xs1k.q20:=fun v0 v1 v2 v3 v4 v5 v6 v7 v8 v9 v10 v11 v12 v13 => loopAtL E (callT E tab) 6 Tryz.f6 3 [.r,.r,.r,.r,.r,.r,.l,.r,.b,.o,.r,.r,.l,.b,.r,.r,.l,.r,.b] (xs1k.s20 v0 v1 v2 v3 v4 v5 v6 v7 v8 v9 v10 v11 v12 v13)
def xs1k.l20:=fun v0 v1 v2 v3 v4 v5 v6 v7 v8 v9 v10 v11 v12 v13 => tOf xs1k.mk (xs1k.q20 v0 v1 v2 v3 v4 v5 v6 v7 v8 v9 v10 v11 v12 v13)
def xs1k.s16 (v0:Zg) (v1:Int) (v2:Int) (v3:Zd) (v4:Zd) (v5:Zb) (v6:Int) (v7:Int):List Cell:=nn 1 (vc (.d .fro Yc v0)::vc (iL v1)::nn 3 (⟨(.box false),[iL v2,.d .deep Yb v3],false,false,false,0,0⟩::nn 3 (vc (.d .sha Yb v4)::nn 64 (vc (.d .fro Ya v5)::vc (iL v6)::vc (iL v7)::nn 46 ([])))))
def xs1k.q16:=fun v0 v1 v2 v3 v4 v5 v6 v7 => loopAtL E (callT E tab) 6 Tryz.f6 3 [.r,.r,.r,.r,.r,.r,.l,.r,.b] (xs1k.s16 v0 v1 v2 v3 v4 v5 v6 v7)
def xs1k.l16:=fun v0 v1 v2 v3 v4 v5 v6 v7 => tOf xs1k.mk (xs1k.q16 v0 v1 v2 v3 v4 v5 v6 v7)
def xs1k.s10 (v0:Zb) (v1:Zg) (v2:Int) (v3:Int) (v4:Zd) (v5:Zd) (v6:Zb) (v7:Int) (v8:Int):List Cell:=vc (.d .fro Ya v0)::vc (.d .fro Yc v1)::vc (iL v2)::nn 3 (⟨(.box false),[iL v3,.d .deep Yb v4],false,false,false,0,0⟩::nn 3 (vc (.d .deep Yb v5)::nn 37 (vc (.d .fro Ya v6)::vc (iL v7)::vc (iL v8)::nn 73 ([]))))
def xs1k.q10:=fun v0 v1 v2 v3 v4 v5 v6 v7 v8 => loopAtL E (callT E tab) 6 Tryz.f6 3 [.r,.r,.r,.r,.r,.l,.r,.b] (xs1k.s10 v0 v1 v2 v3 v4 v5 v6 v7 v8)
def xs1k.l10:=fun v0 v1 v2 v3 v4 v5 v6 v7 v8 => tOf xs1k.mk (xs1k.q10 v0 v1 v2 v3 v4 v5 v6 v7 v8)
def xs1k.s5 (v0:Zb) (v1:Zg) (v2:Int) (v3:Int) (v4:Zd) (v5:List Int) (v6:Int):List Cell:=vc (.d .fro Ya v0)::vc (.d .fro Yc v1)::vc (iL v2)::nn 3 (⟨(.box false),[iL v3,.d .deep Yb v4],false,false,false,0,0⟩::nn 1 (⟨(.box false),[.d .deep (.sl (.int .i64)) v5],false,false,false,0,0⟩::vc (iL v6)::nn 114 ([])))
def xs1k.q5:=fun v0 v1 v2 v3 v4 v5 v6 => loopAtL E (callT E tab) 6 Tryz.f6 3 [.r,.r,.r,.l,.r,.b] (xs1k.s5 v0 v1 v2 v3 v4 v5 v6)
def xs1k.l5:=fun v0 v1 v2 v3 v4 v5 v6 => tOf xs1k.mk (xs1k.q5 v0 v1 v2 v3 v4 v5 v6)
def xs1k.t {γ:Type} (ret:(Int × Zd × Bool)→Option γ) (lp5:Zb→Zg→Int→Int→Zd→(List Int)→Int→Option γ) (v0:Zb) (v1:Zg) (v2:Int):Option γ :=
 (xs1i (v1) (v2)).bind fun (r0:Bool) =>
 bif !r0 then
 ret ((0:Int),[],Bool.false)
 else
 bif (↑v0.length:Int) != (↑v1.length:Int) then
 ret ((0:Int),[],Bool.false)
 else
 lp5 (v0) (v1) (v2) ((0:Int)) ([]) ([]) ((0:Int))
def xs1k.t23 {γ:Type} (ret:(Int × Zd × Bool)→Option γ) (lp23:Zg→Int→Int→Zd→Zd→Int→Int→Zd→Zd→(List Int)→Int→Zb→Int→Int→Int→Int→Zd→Int→Int→Option γ) (lp20:Zg→Int→Int→Zd→Zd→Int→Int→Zd→Zd→Zb→Int→Int→Int→Int→Option γ) (v0:Zg) (v1:Int) (v2:Int) (v3:Zd) (v4:Zd) (v5:Int) (v6:Int) (v7:Zd) (v8:Zd) (v9:List Int) (v10:Int) (v11:Zb) (v12:Int) (v13:Int) (v14:Int) (v15:Int) (v16:Zd) (v17:Int) (v18:Int):Option γ :=
 bif decide (v18<v17) then
 bif decide ((0:Int)≤v18) then
 bif decide (v18.toNat<v16.length) then
 bif decide ((0:Int)≤v5) then
 bif decide (v5.toNat<v0.length) then
 (xs2m (v9) (v0.getD v5.toNat []) ((v16.getD v18.toNat ([],(0:Int))).fst)).bind fun (r3:(List Int) × Bool) =>
 bif r3.snd then
 (xs2t (v8) (r3.fst) ((1:Int))).bind fun (r4:Zd) =>
 lp23 (v0) (v1) (v2) (v3) (v4) (v5) (v6) (v7) (r4) (v9) (v10) (v11) (v12) (v13) (v14) (v15) (v16) (v17) (IntKind.i64.wrap (v18+(1:Int)))
 else
 lp23 (v0) (v1) (v2) (v3) (v4) (v5) (v6) (v7) (v8) (v9) (v10) (v11) (v12) (v13) (v14) (v15) (v16) (v17) (IntKind.i64.wrap (v18+(1:Int)))
 else
 none
 else
 none
 else
 none
 else
 none
 else
 lp20 (v0) (v1) (v2) (v3) (v4) (v5) (v6) (v7) (v8) (v11) (v12) (v13) (v14) (IntKind.i64.wrap (v15+(1:Int)))
def xs1k.t20 {γ:Type} (ret:(Int × Zd × Bool)→Option γ) (lp23:Zg→Int→Int→Zd→Zd→Int→Int→Zd→Zd→(List Int)→Int→Zb→Int→Int→Int→Int→Zd→Int→Int→Option γ) (lp16:Zg→Int→Int→Zd→Zd→Zb→Int→Int→Option γ) (v0:Zg) (v1:Int) (v2:Int) (v3:Zd) (v4:Zd) (v5:Int) (v6:Int) (v7:Zd) (v8:Zd) (v9:Zb) (v10:Int) (v11:Int) (v12:Int) (v13:Int):Option γ :=
 bif decide (v13<v12) then
 bif decide ((0:Int)≤v13) then
 bif decide (v13.toNat<v4.length) then
 bif decide (v13.toNat<v4.length) then
 lp23 (v0) (v1) (v2) (v3) (v4) (v5) (v6) (v7) (v8) ((v4.getD v13.toNat ([],(0:Int))).fst) ((v4.getD v13.toNat ([],(0:Int))).snd) (v9) (v10) (v11) (v12) (v13) (v7) ((↑v7.length:Int)) ((0:Int))
 else
 none
 else
 none
 else
 none
 else
 bif decide ((↑v8.length:Int) > (60:Int)) then
 ret ((0:Int),[],Bool.false)
 else
 lp16 (v0) (v1) (v2) (v3) (v8) (v9) (v10) (IntKind.i64.wrap (v11+(1:Int)))
def xs1k.t16 {γ:Type} (ret:(Int × Zd × Bool)→Option γ) (lp20:Zg→Int→Int→Zd→Zd→Int→Int→Zd→Zd→Zb→Int→Int→Int→Int→Option γ) (v0:Zg) (v1:Int) (v2:Int) (v3:Zd) (v4:Zd) (v5:Zb) (v6:Int) (v7:Int):Option γ :=
 bif decide (v7<v6) then
 bif decide ((0:Int)≤v7) then
 bif decide (v7.toNat<v5.length) then
 lp20 (v0) (v1) (v2) (v3) (v4) (v7) ((v5.getD v7.toNat ((0:Int),[])).fst) ((v5.getD v7.toNat ((0:Int),[])).snd) ([]) (v5) (v6) (v7) ((↑v4.length:Int)) ((0:Int))
 else
 none
 else
 none
 else
 (xs2l (v1) (v4)).bind fun (r5:Int × Zd × Bool) =>
 ret (r5.fst,r5.snd.fst,r5.snd.snd)
def xs1k.t10 {γ:Type} (ret:(Int × Zd × Bool)→Option γ) (lp16:Zg→Int→Int→Zd→Zd→Zb→Int→Int→Option γ) (lp10:Zb→Zg→Int→Int→Zd→Zd→Zb→Int→Int→Option γ) (v0:Zb) (v1:Zg) (v2:Int) (v3:Int) (v4:Zd) (v5:Zd) (v6:Zb) (v7:Int) (v8:Int):Option γ :=
 bif decide (v8<v7) then
 bif decide ((0:Int)≤v8) then
 bif decide (v8.toNat<v6.length) then
 (xs1j ((v6.getD v8.toNat ((0:Int),[])).fst) ((v6.getD v8.toNat ((0:Int),[])).snd)).bind fun (r1:Bool) =>
 bif !r1 then
 ret ((0:Int),[],Bool.false)
 else
 (xs2a ((v6.getD v8.toNat ((0:Int),[])).fst) ((v6.getD v8.toNat ((0:Int),[])).snd)).bind fun (r2:Bool) =>
 bif !r2 then
 ret ((0:Int),[],Bool.false)
 else
 bif decide ((0:Int)≤v8) then
 bif decide (v8.toNat<v1.length) then
 bif (v6.getD v8.toNat ((0:Int),[])).fst != (↑(v1.getD v8.toNat []).length:Int) then
 ret ((0:Int),[],Bool.false)
 else
 lp10 (v0) (v1) (v2) (v3) (v4) (v5) (v6) (v7) (IntKind.i64.wrap (v8+(1:Int)))
 else
 none
 else
 none
 else
 none
 else
 none
 else
 lp16 (v1) (v2) (v3) (v4) (v5) (v0) ((↑v0.length:Int)) ((0:Int))
def xs1k.t5 {γ:Type} (ret:(Int × Zd × Bool)→Option γ) (lp10:Zb→Zg→Int→Int→Zd→Zd→Zb→Int→Int→Option γ) (lp5:Zb→Zg→Int→Int→Zd→(List Int)→Int→Option γ) (v0:Zb) (v1:Zg) (v2:Int) (v3:Int) (v4:Zd) (v5:List Int) (v6:Int):Option γ :=
 bif decide (v6<v2) then
 bif decide (v5.length+[(100001:Int)].length≤(4294967296:Nat)) then
 lp5 (v0) (v1) (v2) (v3) (v4) (v5 ++ [(100001:Int)]) (IntKind.i64.wrap (v6+(1:Int)))
 else
 none
 else
 lp10 (v0) (v1) (v2) (v3) (v4) ([(v5,(1:Int))]) (v0) ((↑v0.length:Int)) ((0:Int))
theorem xs1k.u:∀ b,xs1k.un (xs1k.mk b)=b:=fun _ => by kernel_rfl
theorem xs1k.eq (v0 v1 v2) {b} (h:xs1k.t some xs1k.l5 v0 v1 v2=some b):xs1k v0 v1 v2=some b:=eqF xs1k.u Tryz.f6 (callT_le E tab) rfl rfl rfl (xs1k.t (rR xs1k.mk) xs1k.q5 v0 v1 v2) (by kernel_rfl) (by unfold xs1k.t; repeat' first | exact sR | exact sN | exact sL | apply sC | (apply sB; intro _)) h
theorem xs1k.eq23 (v0 v1 v2 v3 v4 v5 v6 v7 v8 v9 v10 v11 v12 v13 v14 v15 v16 v17 v18) {b} (h:xs1k.t23 some xs1k.l23 xs1k.l20 v0 v1 v2 v3 v4 v5 v6 v7 v8 v9 v10 v11 v12 v13 v14 v15 v16 v17 v18=some b):xs1k.l23 v0 v1 v2 v3 v4 v5 v6 v7 v8 v9 v10 v11 v12 v13 v14 v15 v16 v17 v18=some b:=eqL xs1k.u (xs1k.t23 (rR xs1k.mk) xs1k.q23 xs1k.q20 v0 v1 v2 v3 v4 v5 v6 v7 v8 v9 v10 v11 v12 v13 v14 v15 v16 v17 v18) (by kernel_rfl) (by unfold xs1k.t23; repeat' first | exact sR | exact sN | exact sL | apply sC | (apply sB; intro _)) h
theorem xs1k.eq20 (v0 v1 v2 v3 v4 v5 v6 v7 v8 v9 v10 v11 v12 v13) {b} (h:xs1k.t20 some xs1k.l23 xs1k.l16 v0 v1 v2 v3 v4 v5 v6 v7 v8 v9 v10 v11 v12 v13=some b):xs1k.l20 v0 v1 v2 v3 v4 v5 v6 v7 v8 v9 v10 v11 v12 v13=some b:=eqL xs1k.u (xs1k.t20 (rR xs1k.mk) xs1k.q23 xs1k.q16 v0 v1 v2 v3 v4 v5 v6 v7 v8 v9 v10 v11 v12 v13) (by kernel_rfl) (by unfold xs1k.t20; repeat' first | exact sR | exact sN | exact sL | apply sC | (apply sB; intro _)) h
theorem xs1k.eq16 (v0 v1 v2 v3 v4 v5 v6 v7) {b} (h:xs1k.t16 some xs1k.l20 v0 v1 v2 v3 v4 v5 v6 v7=some b):xs1k.l16 v0 v1 v2 v3 v4 v5 v6 v7=some b:=eqL xs1k.u (xs1k.t16 (rR xs1k.mk) xs1k.q20 v0 v1 v2 v3 v4 v5 v6 v7) (by kernel_rfl) (by unfold xs1k.t16; repeat' first | exact sR | exact sN | exact sL | apply sC | (apply sB; intro _)) h
theorem xs1k.eq10 (v0 v1 v2 v3 v4 v5 v6 v7 v8) {b} (h:xs1k.t10 some xs1k.l16 xs1k.l10 v0 v1 v2 v3 v4 v5 v6 v7 v8=some b):xs1k.l10 v0 v1 v2 v3 v4 v5 v6 v7 v8=some b:=eqL xs1k.u (xs1k.t10 (rR xs1k.mk) xs1k.q16 xs1k.q10 v0 v1 v2 v3 v4 v5 v6 v7 v8) (by kernel_rfl) (by unfold xs1k.t10; repeat' first | exact sR | exact sN | exact sL | apply sC | (apply sB; intro _)) h
theorem xs1k.eq5 (v0 v1 v2 v3 v4 v5 v6) {b} (h:xs1k.t5 some xs1k.l10 xs1k.l5 v0 v1 v2 v3 v4 v5 v6=some b):xs1k.l5 v0 v1 v2 v3 v4 v5 v6=some b:=eqL xs1k.u (xs1k.t5 (rR xs1k.mk) xs1k.q10 xs1k.q5 v0 v1 v2 v3 v4 v5 v6) (by kernel_rfl) (by unfold xs1k.t5; repeat' first | exact sR | exact sN | exact sL | apply sC | (apply sB; intro _)) h
def xs1i.s8 (v0:Zg) (v1:Int) (v2:List Int) (v3:Zg) (v4:Int) (v5:Int) (v6:List Int) (v7:Int) (v8:Int):List Cell:=vc (.d .fro Yc v0)::vc (iL v1)::nn 3 (vc (.d .fro (.sl (.int .i64)) v2)::nn 4 (vc (.d .fro Yc v3)::vc (iL v4)::vc (iL v5)::nn 12 (vc (.d .fro (.sl (.int .i64)) v6)::vc (iL v7)::vc (iL v8)::nn 21 ([]))))
def xs1i.q8:=fun v0 v1 v2 v3 v4 v5 v6 v7 v8 => loopAtL E (callT E tab) 19 Tryz.f19 2 [.r,.r,.l,.r,.b,.o,.r,.r,.l,.b,.r,.r,.r,.b] (xs1i.s8 v0 v1 v2 v3 v4 v5 v6 v7 v8)
def xs1i.l8:=fun v0 v1 v2 v3 v4 v5 v6 v7 v8 => tOf xs1i.mk (xs1i.q8 v0 v1 v2 v3 v4 v5 v6 v7 v8)
def xs1i.s3 (v0:Zg) (v1:Int) (v2:List Int) (v3:Zg) (v4:Int) (v5:Int):List Cell:=vc (.d .fro Yc v0)::vc (iL v1)::nn 3 (vc (.d .fro (.sl (.int .i64)) v2)::nn 4 (vc (.d .fro Yc v3)::vc (iL v4)::vc (iL v5)::nn 36 ([])))
def xs1i.q3:=fun v0 v1 v2 v3 v4 v5 => loopAtL E (callT E tab) 19 Tryz.f19 2 [.r,.r,.l,.r,.b] (xs1i.s3 v0 v1 v2 v3 v4 v5)
def xs1i.l3:=fun v0 v1 v2 v3 v4 v5 => tOf xs1i.mk (xs1i.q3 v0 v1 v2 v3 v4 v5)
def xs1i.t {γ:Type} (ret:(Bool)→Option γ) (lp3:Zg→Int→(List Int)→Zg→Int→Int→Option γ) (v0:Zg) (v1:Int):Option γ :=
 lp3 (v0) (v1) ([]) (v0) ((↑v0.length:Int)) ((0:Int))
def xs1i.t8 {γ:Type} (ret:(Bool)→Option γ) (lp8:Zg→Int→(List Int)→Zg→Int→Int→(List Int)→Int→Int→Option γ) (lp3:Zg→Int→(List Int)→Zg→Int→Int→Option γ) (v0:Zg) (v1:Int) (v2:List Int) (v3:Zg) (v4:Int) (v5:Int) (v6:List Int) (v7:Int) (v8:Int):Option γ :=
 bif decide (v8<v7) then
 bif decide ((0:Int)≤v8) then
 bif decide (v8.toNat<v6.length) then
 (xs2u (v2) (v6.getD v8.toNat (0:Int))).bind fun (r1:(List Int)) =>
 lp8 (v0) (v1) (r1) (v3) (v4) (v5) (v6) (v7) (IntKind.i64.wrap (v8+(1:Int)))
 else
 none
 else
 none
 else
 lp3 (v0) (v1) (v2) (v3) (v4) (IntKind.i64.wrap (v5+(1:Int)))
def xs1i.t3 {γ:Type} (ret:(Bool)→Option γ) (lp8:Zg→Int→(List Int)→Zg→Int→Int→(List Int)→Int→Int→Option γ) (v0:Zg) (v1:Int) (v2:List Int) (v3:Zg) (v4:Int) (v5:Int):Option γ :=
 bif decide (v5<v4) then
 bif decide ((0:Int)≤v5) then
 bif decide (v5.toNat<v3.length) then
 (xs2k (v3.getD v5.toNat []) (v1)).bind fun (r0:Bool) =>
 bif !r0 then
 ret (Bool.false)
 else
 bif (↑(v3.getD v5.toNat []).length:Int) == (0:Int) then
 ret (Bool.false)
 else
 lp8 (v0) (v1) (v2) (v3) (v4) (v5) (v3.getD v5.toNat []) ((↑(v3.getD v5.toNat []).length:Int)) ((0:Int))
 else
 none
 else
 none
 else
 (xs2v (v1) ((1:Int)) ((6:Int))).bind fun (r2:Bool) =>
 bif r2 then
 (xs2v ((↑v0.length:Int)) ((1:Int)) ((8:Int))).bind fun (r3:Bool) =>
 bif r3 then
 ret ((↑v2.length:Int) == v1)
 else
 ret (Bool.false)
 else
 ret (Bool.false)
theorem xs1i.u:∀ b,xs1i.un (xs1i.mk b)=b:=fun _ => by kernel_rfl
theorem xs1i.eq (v0 v1) {b} (h:xs1i.t some xs1i.l3 v0 v1=some b):xs1i v0 v1=some b:=eqF xs1i.u Tryz.f19 (callT_le E tab) rfl rfl rfl (xs1i.t (rR xs1i.mk) xs1i.q3 v0 v1) (by kernel_rfl) (by unfold xs1i.t; repeat' first | exact sR | exact sN | exact sL | apply sC | (apply sB; intro _)) h
theorem xs1i.eq8 (v0 v1 v2 v3 v4 v5 v6 v7 v8) {b} (h:xs1i.t8 some xs1i.l8 xs1i.l3 v0 v1 v2 v3 v4 v5 v6 v7 v8=some b):xs1i.l8 v0 v1 v2 v3 v4 v5 v6 v7 v8=some b:=eqL xs1i.u (xs1i.t8 (rR xs1i.mk) xs1i.q8 xs1i.q3 v0 v1 v2 v3 v4 v5 v6 v7 v8) (by kernel_rfl) (by unfold xs1i.t8; repeat' first | exact sR | exact sN | exact sL | apply sC | (apply sB; intro _)) h
theorem xs1i.eq3 (v0 v1 v2 v3 v4 v5) {b} (h:xs1i.t3 some xs1i.l8 v0 v1 v2 v3 v4 v5=some b):xs1i.l3 v0 v1 v2 v3 v4 v5=some b:=eqL xs1i.u (xs1i.t3 (rR xs1i.mk) xs1i.q8 v0 v1 v2 v3 v4 v5) (by kernel_rfl) (by unfold xs1i.t3; repeat' first | exact sR | exact sN | exact sL | apply sC | (apply sB; intro _)) h
def xs2k.s2 (v0:List Int) (v1:Int) (v2:List Int) (v3:Int) (v4:Int):List Cell:=vc (.d .fro (.sl (.int .i64)) v0)::vc (iL v1)::nn 5 (vc (.d .fro (.sl (.int .i64)) v2)::vc (iL v3)::vc (iL v4)::nn 25 ([]))
def xs2k.q2:=fun v0 v1 v2 v3 v4 => loopAtL E (callT E tab) 42 Tryz.f42 2 [.r,.l,.r,.b] (xs2k.s2 v0 v1 v2 v3 v4)
def xs2k.l2:=fun v0 v1 v2 v3 v4 => tOf xs2k.mk (xs2k.q2 v0 v1 v2 v3 v4)
def xs2k.t {γ:Type} (ret:(Bool)→Option γ) (lp2:(List Int)→Int→(List Int)→Int→Int→Option γ) (v0:List Int) (v1:Int):Option γ :=
 lp2 (v0) (v1) (v0) ((↑v0.length:Int)) ((0:Int))
def xs2k.t2 {γ:Type} (ret:(Bool)→Option γ) (lp2:(List Int)→Int→(List Int)→Int→Int→Option γ) (v0:List Int) (v1:Int) (v2:List Int) (v3:Int) (v4:Int):Option γ :=
 bif decide (v4<v3) then
 bif decide ((0:Int)≤v4) then
 bif decide (v4.toNat<v2.length) then
 bif decide (v2.getD v4.toNat (0:Int)<(0:Int)) then
 ret (Bool.false)
 else
 bif decide (v2.getD v4.toNat (0:Int) ≥ v1) then
 ret (Bool.false)
 else
 bif decide (v4 > (0:Int)) then
 bif decide ((0:Int)≤IntKind.i64.wrap (v4 - (1:Int))) then
 bif decide ((IntKind.i64.wrap (v4 - (1:Int))).toNat<v0.length) then
 bif decide (v0.getD (IntKind.i64.wrap (v4 - (1:Int))).toNat (0:Int) ≥ v2.getD v4.toNat (0:Int)) then
 ret (Bool.false)
 else
 lp2 (v0) (v1) (v2) (v3) (IntKind.i64.wrap (v4+(1:Int)))
 else
 none
 else
 none
 else
 lp2 (v0) (v1) (v2) (v3) (IntKind.i64.wrap (v4+(1:Int)))
 else
 none
 else
 none
 else
 ret (Bool.true)
theorem xs2k.u:∀ b,xs2k.un (xs2k.mk b)=b:=fun _ => by kernel_rfl
theorem xs2k.eq (v0 v1) {b} (h:xs2k.t some xs2k.l2 v0 v1=some b):xs2k v0 v1=some b:=eqF xs2k.u Tryz.f42 (callT_le E tab) rfl rfl rfl (xs2k.t (rR xs2k.mk) xs2k.q2 v0 v1) (by kernel_rfl) (by unfold xs2k.t; repeat' first | exact sR | exact sN | exact sL | apply sC | (apply sB; intro _)) h
theorem xs2k.eq2 (v0 v1 v2 v3 v4) {b} (h:xs2k.t2 some xs2k.l2 v0 v1 v2 v3 v4=some b):xs2k.l2 v0 v1 v2 v3 v4=some b:=eqL xs2k.u (xs2k.t2 (rR xs2k.mk) xs2k.q2 v0 v1 v2 v3 v4) (by kernel_rfl) (by unfold xs2k.t2; repeat' first | exact sR | exact sN | exact sL | apply sC | (apply sB; intro _)) h
def xs2u.s4 (v0:List Int) (v1:Int) (v2:Int):List Cell:=vc (.d .fro (.sl (.int .i64)) v0)::vc (iL v1)::nn 3 (vc (iL v2)::nn 33 ([]))
def xs2u.q4:=fun v0 v1 v2 => loopAtL E (callT E tab) 43 Tryz.f43 2 [.r,.r,.r,.l,.b] (xs2u.s4 v0 v1 v2)
def xs2u.l4:=fun v0 v1 v2 => tOf xs2u.mk (xs2u.q4 v0 v1 v2)
def xs2u.t {γ:Type} (ret:((List Int))→Option γ) (lp4:(List Int)→Int→Int→Option γ) (v0:List Int) (v1:Int):Option γ :=
 (xs2s (v0) (v1)).bind fun (r0:Bool) =>
 bif r0 then
 ret (v0)
 else
 lp4 (v0) (v1) ((0:Int))
def xs2u.t4 {γ:Type} (ret:((List Int))→Option γ) (lp4:(List Int)→Int→Int→Option γ) (v0:List Int) (v1:Int) (v2:Int):Option γ :=
 bif decide (v2<(↑v0.length:Int)) then
 bif decide ((0:Int)≤v2) then
 bif decide (v2.toNat<v0.length) then
 bif decide (v0.getD v2.toNat (0:Int)<v1) then
 lp4 (v0) (v1) (IntKind.i64.wrap (v2+(1:Int)))
 else
 bif decide (Option.none.getD (0:Int)≤v2) then
 bif decide (v2≤(↑v0.length:Int)) then
 bif decide   ((List.take (v2 - Option.none.getD (0:Int)).toNat (List.drop (Option.none.getD (0:Int)).toNat v0)).length≤    (4294967296:Nat)) then
 bif decide   ((List.take (v2 - Option.none.getD (0:Int)).toNat (List.drop (Option.none.getD (0:Int)).toNat v0)).length+      [v1].length≤    (4294967296:Nat)) then
 bif decide ((0:Int)≤(Option.some v2).getD (0:Int)) then
 bif decide ((Option.some v2).getD (0:Int)≤(↑v0.length:Int)) then
 bif decide   ((List.take (v2 - Option.none.getD (0:Int)).toNat (List.drop (Option.none.getD (0:Int)).toNat v0) ++           [v1]).length+      (List.drop ((Option.some v2).getD (0:Int)).toNat v0).length≤    (4294967296:Nat)) then
 ret (List.take (v2 - Option.none.getD (0:Int)).toNat (List.drop (Option.none.getD (0:Int)).toNat v0) ++ [v1] ++   List.drop ((Option.some v2).getD (0:Int)).toNat v0)
 else
 none
 else
 none
 else
 none
 else
 none
 else
 none
 else
 none
 else
 none
 else
 none
 else
 none
 else
 bif decide (Option.none.getD (0:Int)≤v2) then
 bif decide (v2≤(↑v0.length:Int)) then
 bif decide   ((List.take (v2 - Option.none.getD (0:Int)).toNat (List.drop (Option.none.getD (0:Int)).toNat v0)).length≤    (4294967296:Nat)) then
 bif decide   ((List.take (v2 - Option.none.getD (0:Int)).toNat (List.drop (Option.none.getD (0:Int)).toNat v0)).length+      [v1].length≤    (4294967296:Nat)) then
 bif decide ((0:Int)≤(Option.some v2).getD (0:Int)) then
 bif decide ((Option.some v2).getD (0:Int)≤(↑v0.length:Int)) then
 bif decide   ((List.take (v2 - Option.none.getD (0:Int)).toNat (List.drop (Option.none.getD (0:Int)).toNat v0) ++           [v1]).length+      (List.drop ((Option.some v2).getD (0:Int)).toNat v0).length≤    (4294967296:Nat)) then
 ret (List.take (v2 - Option.none.getD (0:Int)).toNat (List.drop (Option.none.getD (0:Int)).toNat v0) ++ [v1] ++   List.drop ((Option.some v2).getD (0:Int)).toNat v0)
 else
 none
 else
 none
 else
 none
 else
 none
 else
 none
 else
 none
 else
 none
theorem xs2u.u:∀ b,xs2u.un (xs2u.mk b)=b:=fun _ => by kernel_rfl
theorem xs2u.eq (v0 v1) {b} (h:xs2u.t some xs2u.l4 v0 v1=some b):xs2u v0 v1=some b:=eqF xs2u.u Tryz.f43 (callT_le E tab) rfl rfl rfl (xs2u.t (rR xs2u.mk) xs2u.q4 v0 v1) (by kernel_rfl) (by unfold xs2u.t; repeat' first | exact sR | exact sN | exact sL | apply sC | (apply sB; intro _)) h
theorem xs2u.eq4 (v0 v1 v2) {b} (h:xs2u.t4 some xs2u.l4 v0 v1 v2=some b):xs2u.l4 v0 v1 v2=some b:=eqL xs2u.u (xs2u.t4 (rR xs2u.mk) xs2u.q4 v0 v1 v2) (by kernel_rfl) (by unfold xs2u.t4; repeat' first | exact sR | exact sN | exact sL | apply sC | (apply sB; intro _)) h
def xs2s.s2 (v0:Int) (v1:List Int) (v2:Int) (v3:Int):List Cell:=nn 1 (vc (iL v0)::nn 5 (vc (.d .fro (.sl (.int .i64)) v1)::vc (iL v2)::vc (iL v3)::nn 7 ([])))
def xs2s.q2:=fun v0 v1 v2 v3 => loopAtL E (callT E tab) 66 Tryz.f66 2 [.r,.l,.r,.b] (xs2s.s2 v0 v1 v2 v3)
def xs2s.l2:=fun v0 v1 v2 v3 => tOf xs2s.mk (xs2s.q2 v0 v1 v2 v3)
def xs2s.t {γ:Type} (ret:(Bool)→Option γ) (lp2:Int→(List Int)→Int→Int→Option γ) (v0:List Int) (v1:Int):Option γ :=
 lp2 (v1) (v0) ((↑v0.length:Int)) ((0:Int))
def xs2s.t2 {γ:Type} (ret:(Bool)→Option γ) (lp2:Int→(List Int)→Int→Int→Option γ) (v0:Int) (v1:List Int) (v2:Int) (v3:Int):Option γ :=
 bif decide (v3<v2) then
 bif decide ((0:Int)≤v3) then
 bif decide (v3.toNat<v1.length) then
 bif v1.getD v3.toNat (0:Int) == v0 then
 ret (Bool.true)
 else
 lp2 (v0) (v1) (v2) (IntKind.i64.wrap (v3+(1:Int)))
 else
 none
 else
 none
 else
 ret (Bool.false)
theorem xs2s.u:∀ b,xs2s.un (xs2s.mk b)=b:=fun _ => by kernel_rfl
theorem xs2s.eq (v0 v1) {b} (h:xs2s.t some xs2s.l2 v0 v1=some b):xs2s v0 v1=some b:=eqF xs2s.u Tryz.f66 (callT_le E tab) rfl rfl rfl (xs2s.t (rR xs2s.mk) xs2s.q2 v0 v1) (by kernel_rfl) (by unfold xs2s.t; repeat' first | exact sR | exact sN | exact sL | apply sC | (apply sB; intro _)) h
theorem xs2s.eq2 (v0 v1 v2 v3) {b} (h:xs2s.t2 some xs2s.l2 v0 v1 v2 v3=some b):xs2s.l2 v0 v1 v2 v3=some b:=eqL xs2s.u (xs2s.t2 (rR xs2s.mk) xs2s.q2 v0 v1 v2 v3) (by kernel_rfl) (by unfold xs2s.t2; repeat' first | exact sR | exact sN | exact sL | apply sC | (apply sB; intro _)) h
end
end GoV

/- Equations of the program's functions (printed by wip/tools/emit.py). -/
namespace GoV
open Go Go.Proofs
set_option maxRecDepth 100000
noncomputable section

def xs2v.t {γ:Type} (ret:(Bool)→Option γ) (v0:Int) (v1:Int) (v2:Int):Option γ :=
 bif decide (v0 ≥ v1) then
 ret (decide (v0≤v2))
 else
 ret (Bool.false)
theorem xs2v.u:∀ b,xs2v.un (xs2v.mk b)=b:=fun _ => by kernel_rfl
theorem xs2v.eq (v0 v1 v2) {b} (h:xs2v.t some v0 v1 v2=some b):xs2v v0 v1 v2=some b:=eqF xs2v.u Tryz.f44 (callT_le E tab) rfl rfl rfl (xs2v.t (rR xs2v.mk) v0 v1 v2) (by kernel_rfl) (by unfold xs2v.t; repeat' first | exact sR | exact sN | exact sL | apply sC | (apply sB; intro _)) h
def xs1j.s2 (v0:Int) (v1:Zd) (v2:Zd) (v3:Int) (v4:Int):List Cell:=nn 1 (⟨(.box false),[iL v0,.d .fro Yb v1],false,false,false,0,0⟩::nn 4 (vc (.d .fro Yb v2)::vc (iL v3)::vc (iL v4)::nn 55 ([])))
def xs1j.q2:=fun v0 v1 v2 v3 v4 => loopAtL E (callT E tab) 20 Tryz.f20 1 [.r,.l,.r,.b] (xs1j.s2 v0 v1 v2 v3 v4)
def xs1j.l2:=fun v0 v1 v2 v3 v4 => tOf xs1j.mk (xs1j.q2 v0 v1 v2 v3 v4)
def xs1j.t {γ:Type} (ret:(Bool)→Option γ) (lp2:Int→Zd→Zd→Int→Int→Option γ) (v0:Int) (v1:Zd):Option γ :=
 lp2 (v0) (v1) (v1) ((↑v1.length:Int)) ((0:Int))
def xs1j.t2 {γ:Type} (ret:(Bool)→Option γ) (lp2:Int→Zd→Zd→Int→Int→Option γ) (v0:Int) (v1:Zd) (v2:Zd) (v3:Int) (v4:Int):Option γ :=
 bif decide (v4<v3) then
 bif decide ((0:Int)≤v4) then
 bif decide (v4.toNat<v2.length) then
 (xs29 ((v2.getD v4.toNat ([],(0:Int))).fst)).bind fun (r0:Bool) =>
 bif !r0 then
 ret (Bool.false)
 else
 bif (↑(v2.getD v4.toNat ([],(0:Int))).fst.length:Int) != v0 then
 ret (Bool.false)
 else
 (xs1x ((v2.getD v4.toNat ([],(0:Int))).snd)).bind fun (r1:Bool) =>
 bif !r1 then
 ret (Bool.false)
 else
 bif (v2.getD v4.toNat ([],(0:Int))).snd == (0:Int) then
 ret (Bool.false)
 else
 bif decide (v4 > (0:Int)) then
 bif decide ((0:Int)≤IntKind.i64.wrap (v4 - (1:Int))) then
 bif decide ((IntKind.i64.wrap (v4 - (1:Int))).toNat<v1.length) then
 (xs1l ((v1.getD (IntKind.i64.wrap (v4 - (1:Int))).toNat ([],(0:Int))).fst) ((v2.getD v4.toNat ([],(0:Int))).fst)).bind fun (r2:Int) =>
 bif decide (r2 ≥ (0:Int)) then
 ret (Bool.false)
 else
 lp2 (v0) (v1) (v2) (v3) (IntKind.i64.wrap (v4+(1:Int)))
 else
 none
 else
 none
 else
 lp2 (v0) (v1) (v2) (v3) (IntKind.i64.wrap (v4+(1:Int)))
 else
 none
 else
 none
 else
 (xs2v (v0) ((0:Int)) ((6:Int))).bind fun (r3:Bool) =>
 bif r3 then
 ret (decide ((↑v1.length:Int)≤(60:Int)))
 else
 ret (Bool.false)
theorem xs1j.u:∀ b,xs1j.un (xs1j.mk b)=b:=fun _ => by kernel_rfl
theorem xs1j.eq (v0 v1) {b} (h:xs1j.t some xs1j.l2 v0 v1=some b):xs1j v0 v1=some b:=eqF xs1j.u Tryz.f20 (callT_le E tab) rfl rfl rfl (xs1j.t (rR xs1j.mk) xs1j.q2 v0 v1) (by kernel_rfl) (by unfold xs1j.t; repeat' first | exact sR | exact sN | exact sL | apply sC | (apply sB; intro _)) h
theorem xs1j.eq2 (v0 v1 v2 v3 v4) {b} (h:xs1j.t2 some xs1j.l2 v0 v1 v2 v3 v4=some b):xs1j.l2 v0 v1 v2 v3 v4=some b:=eqL xs1j.u (xs1j.t2 (rR xs1j.mk) xs1j.q2 v0 v1 v2 v3 v4) (by kernel_rfl) (by unfold xs1j.t2; repeat' first | exact sR | exact sN | exact sL | apply sC | (apply sB; intro _)) h
def xs29.s2 (v0:List Int) (v1:List Int) (v2:Int) (v3:Int):List Cell:=nn 1 (⟨(.box false),[.d .fro (.sl (.int .i64)) v0],false,false,false,0,0⟩::nn 4 (vc (.d .fro (.sl (.int .i64)) v1)::vc (iL v2)::vc (iL v3)::nn 11 ([])))
def xs29.q2:=fun v0 v1 v2 v3 => loopAtL E (callT E tab) 45 Tryz.f45 1 [.r,.l,.r,.b] (xs29.s2 v0 v1 v2 v3)
def xs29.l2:=fun v0 v1 v2 v3 => tOf xs29.mk (xs29.q2 v0 v1 v2 v3)
def xs29.t {γ:Type} (ret:(Bool)→Option γ) (lp2:(List Int)→(List Int)→Int→Int→Option γ) (v0:List Int):Option γ :=
 lp2 (v0) (v0) ((↑v0.length:Int)) ((0:Int))
def xs29.t2 {γ:Type} (ret:(Bool)→Option γ) (lp2:(List Int)→(List Int)→Int→Int→Option γ) (v0:List Int) (v1:List Int) (v2:Int) (v3:Int):Option γ :=
 bif decide (v3<v2) then
 bif decide ((0:Int)≤v3) then
 bif decide (v3.toNat<v1.length) then
 (xs2v (v1.getD v3.toNat (0:Int)) ((-100000:Int)) ((100000:Int))).bind fun (r0:Bool) =>
 bif !r0 then
 ret (Bool.false)
 else
 lp2 (v0) (v1) (v2) (IntKind.i64.wrap (v3+(1:Int)))
 else
 none
 else
 none
 else
 ret (decide ((↑v0.length:Int)≤(6:Int)))
theorem xs29.u:∀ b,xs29.un (xs29.mk b)=b:=fun _ => by kernel_rfl
theorem xs29.eq (v0) {b} (h:xs29.t some xs29.l2 v0=some b):xs29 v0=some b:=eqF xs29.u Tryz.f45 (callT_le E tab) rfl rfl rfl (xs29.t (rR xs29.mk) xs29.q2 v0) (by kernel_rfl) (by unfold xs29.t; repeat' first | exact sR | exact sN | exact sL | apply sC | (apply sB; intro _)) h
theorem xs29.eq2 (v0 v1 v2 v3) {b} (h:xs29.t2 some xs29.l2 v0 v1 v2 v3=some b):xs29.l2 v0 v1 v2 v3=some b:=eqL xs29.u (xs29.t2 (rR xs29.mk) xs29.q2 v0 v1 v2 v3) (by kernel_rfl) (by unfold xs29.t2; repeat' first | exact sR | exact sN | exact sL | apply sC | (apply sB; intro _)) h
def xs1x.t {γ:Type} (ret:(Bool)→Option γ) (v0:Int):Option γ :=
 (xs2v (v0) ((-1000000:Int)) ((1000000:Int))).bind fun (r0:Bool) =>
 ret (r0)
theorem xs1x.u:∀ b,xs1x.un (xs1x.mk b)=b:=fun _ => by kernel_rfl
theorem xs1x.eq (v0) {b} (h:xs1x.t some v0=some b):xs1x v0=some b:=eqF xs1x.u Tryz.f46 (callT_le E tab) rfl rfl rfl (xs1x.t (rR xs1x.mk) v0) (by kernel_rfl) (by unfold xs1x.t; repeat' first | exact sR | exact sN | exact sL | apply sC | (apply sB; intro _)) h
def xs1l.s2 (v0:List Int) (v1:List Int) (v2:Int):List Cell:=nn 2 (⟨(.box false),[.d .fro (.sl (.int .i64)) v0],false,false,false,0,0⟩::⟨(.box false),[.d .fro (.sl (.int .i64)) v1],false,false,false,0,0⟩::nn 1 (vc (iL v2)::nn 52 ([])))
def xs1l.q2:=fun v0 v1 v2 => loopAtL E (callT E tab) 47 Tryz.f47 2 [.r,.l,.r,.b] (xs1l.s2 v0 v1 v2)
def xs1l.l2:=fun v0 v1 v2 => tOf xs1l.mk (xs1l.q2 v0 v1 v2)
def xs1l.t {γ:Type} (ret:(Int)→Option γ) (lp2:(List Int)→(List Int)→Int→Option γ) (v0:List Int) (v1:List Int):Option γ :=
 lp2 (v0) (v1) ((0:Int))
def xs1l.t2 {γ:Type} (ret:(Int)→Option γ) (lp2:(List Int)→(List Int)→Int→Option γ) (v0:List Int) (v1:List Int) (v2:Int):Option γ :=
 bif decide (v2<(↑v0.length:Int)) then
 bif decide (v2<(↑v1.length:Int)) then
 bif decide ((0:Int)≤v2) then
 bif decide (v2.toNat<v0.length) then
 bif decide ((0:Int)≤v2) then
 bif decide (v2.toNat<v1.length) then
 bif decide (v0.getD v2.toNat (0:Int)<v1.getD v2.toNat (0:Int)) then
 ret ((-1:Int))
 else
 bif decide ((0:Int)≤v2) then
 bif decide (v2.toNat<v0.length) then
 bif decide ((0:Int)≤v2) then
 bif decide (v2.toNat<v1.length) then
 bif decide (v0.getD v2.toNat (0:Int) > v1.getD v2.toNat (0:Int)) then
 ret ((1:Int))
 else
 lp2 (v0) (v1) (IntKind.i64.wrap (v2+(1:Int)))
 else
 none
 else
 none
 else
 none
 else
 none
 else
 none
 else
 none
 else
 none
 else
 none
 else
 bif decide ((↑v0.length:Int)<(↑v1.length:Int)) then
 ret ((-1:Int))
 else
 bif decide ((↑v0.length:Int) > (↑v1.length:Int)) then
 ret ((1:Int))
 else
 ret ((0:Int))
 else
 bif decide ((↑v0.length:Int)<(↑v1.length:Int)) then
 ret ((-1:Int))
 else
 bif decide ((↑v0.length:Int) > (↑v1.length:Int)) then
 ret ((1:Int))
 else
 ret ((0:Int))
theorem xs1l.u:∀ b,xs1l.un (xs1l.mk b)=b:=fun _ => by kernel_rfl
theorem xs1l.eq (v0 v1) {b} (h:xs1l.t some xs1l.l2 v0 v1=some b):xs1l v0 v1=some b:=eqF xs1l.u Tryz.f47 (callT_le E tab) rfl rfl rfl (xs1l.t (rR xs1l.mk) xs1l.q2 v0 v1) (by kernel_rfl) (by unfold xs1l.t; repeat' first | exact sR | exact sN | exact sL | apply sC | (apply sB; intro _)) h
theorem xs1l.eq2 (v0 v1 v2) {b} (h:xs1l.t2 some xs1l.l2 v0 v1 v2=some b):xs1l.l2 v0 v1 v2=some b:=eqL xs1l.u (xs1l.t2 (rR xs1l.mk) xs1l.q2 v0 v1 v2) (by kernel_rfl) (by unfold xs1l.t2; repeat' first | exact sR | exact sN | exact sL | apply sC | (apply sB; intro _)) h
def xs2a.s2 (v0:Zd) (v1:Int) (v2:Int):List Cell:=nn 6 (vc (.d .fro Yb v0)::vc (iL v1)::vc (iL v2)::nn 7 ([]))
def xs2a.q2:=fun v0 v1 v2 => loopAtL E (callT E tab) 21 Tryz.f21 1 [.r,.l,.r,.b] (xs2a.s2 v0 v1 v2)
def xs2a.l2:=fun v0 v1 v2 => tOf xs2a.mk (xs2a.q2 v0 v1 v2)
def xs2a.t {γ:Type} (ret:(Bool)→Option γ) (lp2:Zd→Int→Int→Option γ) (v0:Int) (v1:Zd):Option γ :=
 lp2 (v1) ((↑v1.length:Int)) ((0:Int))
def xs2a.t2 {γ:Type} (ret:(Bool)→Option γ) (lp2:Zd→Int→Int→Option γ) (v0:Zd) (v1:Int) (v2:Int):Option γ :=
 bif decide (v2<v1) then
 bif decide ((0:Int)≤v2) then
 bif decide (v2.toNat<v0.length) then
 bif (v0.getD v2.toNat ([],(0:Int))).snd != (1:Int) then
 ret (Bool.false)
 else
 lp2 (v0) (v1) (IntKind.i64.wrap (v2+(1:Int)))
 else
 none
 else
 none
 else
 ret (Bool.true)
theorem xs2a.u:∀ b,xs2a.un (xs2a.mk b)=b:=fun _ => by kernel_rfl
theorem xs2a.eq (v0 v1) {b} (h:xs2a.t some xs2a.l2 v0 v1=some b):xs2a v0 v1=some b:=eqF xs2a.u Tryz.f21 (callT_le E tab) rfl rfl rfl (xs2a.t (rR xs2a.mk) xs2a.q2 v0 v1) (by kernel_rfl) (by unfold xs2a.t; repeat' first | exact sR | exact sN | exact sL | apply sC | (apply sB; intro _)) h
theorem xs2a.eq2 (v0 v1 v2) {b} (h:xs2a.t2 some xs2a.l2 v0 v1 v2=some b):xs2a.l2 v0 v1 v2=some b:=eqL xs2a.u (xs2a.t2 (rR xs2a.mk) xs2a.q2 v0 v1 v2) (by kernel_rfl) (by unfold xs2a.t2; repeat' first | exact sR | exact sN | exact sL | apply sC | (apply sB; intro _)) h
def xs2m.s3 (v0:List Int) (v1:List Int) (v2:List Int) (v3:List Int) (v4:Int) (v5:Int):List Cell:=nn 5 (⟨(.box false),[.d .fro (.sl (.int .i64)) v0],false,false,false,0,0⟩::⟨(.box false),[.d .deep (.sl (.int .i64)) v1],false,false,false,0,0⟩::nn 1 (⟨(.box false),[.d .deep (.sl (.int .i64)) v2],false,false,false,0,0⟩::nn 4 (vc (.d .fro (.sl (.int .i64)) v3)::vc (iL v4)::vc (iL v5)::nn 35 ([]))))
def xs2m.q3:=fun v0 v1 v2 v3 v4 v5 => loopAtL E (callT E tab) 22 Tryz.f22 3 [.r,.r,.l,.r,.b] (xs2m.s3 v0 v1 v2 v3 v4 v5)
def xs2m.l3:=fun v0 v1 v2 v3 v4 v5 => tOf xs2m.mk (xs2m.q3 v0 v1 v2 v3 v4 v5)
def xs2m.t {γ:Type} (ret:((List Int) × Bool)→Option γ) (lp3:(List Int)→(List Int)→(List Int)→(List Int)→Int→Int→Option γ) (v0:List Int) (v1:List Int) (v2:List Int):Option γ :=
 (xs1w (v0)).bind fun (r0:(List Int)) =>
 lp3 (v2) ([]) (r0) (v1) ((↑v1.length:Int)) ((0:Int))
def xs2m.t3 {γ:Type} (ret:((List Int) × Bool)→Option γ) (lp3:(List Int)→(List Int)→(List Int)→(List Int)→Int→Int→Option γ) (v0:List Int) (v1:List Int) (v2:List Int) (v3:List Int) (v4:Int) (v5:Int):Option γ :=
 bif decide (v5<v4) then
 bif decide ((0:Int)≤v5) then
 bif decide (v5.toNat<v3.length) then
 bif decide ((0:Int)≤v3.getD v5.toNat (0:Int)) then
 bif decide ((v3.getD v5.toNat (0:Int)).toNat<v2.length) then
 bif decide ((v3.getD v5.toNat (0:Int)).toNat<v2.length) then
 bif v2.getD (v3.getD v5.toNat (0:Int)).toNat (0:Int) != (100001:Int) then
 bif decide ((0:Int)≤v3.getD v5.toNat (0:Int)) then
 bif decide ((v3.getD v5.toNat (0:Int)).toNat<v2.length) then
 bif decide ((v3.getD v5.toNat (0:Int)).toNat<v2.length) then
 bif decide ((0:Int)≤v5) then
 bif decide (v5.toNat<v0.length) then
 bif v2.getD (v3.getD v5.toNat (0:Int)).toNat (0:Int) != v0.getD v5.toNat (0:Int) then
 ret ([],Bool.false)
 else
 bif decide ((0:Int)≤v5) then
 bif decide (v5.toNat<v0.length) then
 bif decide ((0:Int)≤v3.getD v5.toNat (0:Int)) then
 bif decide ((v3.getD v5.toNat (0:Int)).toNat<v2.length) then
 bif decide ((v3.getD v5.toNat (0:Int)).toNat<v2.length) then
 lp3 (v0) (v1) (v2.set (v3.getD v5.toNat (0:Int)).toNat (v0.getD v5.toNat (0:Int))) (v3) (v4) (IntKind.i64.wrap (v5+(1:Int)))
 else
 none
 else
 none
 else
 none
 else
 none
 else
 none
 else
 none
 else
 none
 else
 none
 else
 none
 else
 none
 else
 bif decide ((0:Int)≤v5) then
 bif decide (v5.toNat<v0.length) then
 bif decide ((0:Int)≤v3.getD v5.toNat (0:Int)) then
 bif decide ((v3.getD v5.toNat (0:Int)).toNat<v2.length) then
 bif decide ((v3.getD v5.toNat (0:Int)).toNat<v2.length) then
 lp3 (v0) (v1) (v2.set (v3.getD v5.toNat (0:Int)).toNat (v0.getD v5.toNat (0:Int))) (v3) (v4) (IntKind.i64.wrap (v5+(1:Int)))
 else
 none
 else
 none
 else
 none
 else
 none
 else
 none
 else
 none
 else
 none
 else
 none
 else
 none
 else
 none
 else
 ret (v2,Bool.true)
theorem xs2m.u:∀ b,xs2m.un (xs2m.mk b)=b:=fun _ => by kernel_rfl
theorem xs2m.eq (v0 v1 v2) {b} (h:xs2m.t some xs2m.l3 v0 v1 v2=some b):xs2m v0 v1 v2=some b:=eqF xs2m.u Tryz.f22 (callT_le E tab) rfl rfl rfl (xs2m.t (rR xs2m.mk) xs2m.q3 v0 v1 v2) (by kernel_rfl) (by unfold xs2m.t; repeat' first | exact sR | exact sN | exact sL | apply sC | (apply sB; intro _)) h
theorem xs2m.eq3 (v0 v1 v2 v3 v4 v5) {b} (h:xs2m.t3 some xs2m.l3 v0 v1 v2 v3 v4 v5=some b):xs2m.l3 v0 v1 v2 v3 v4 v5=some b:=eqL xs2m.u (xs2m.t3 (rR xs2m.mk) xs2m.q3 v0 v1 v2 v3 v4 v5) (by kernel_rfl) (by unfold xs2m.t3; repeat' first | exact sR | exact sN | exact sL | apply sC | (apply sB; intro _)) h
def xs1w.t {γ:Type} (ret:((List Int))→Option γ) (v0:List Int):Option γ :=
 bif decide (([]:List Int).length+v0.length≤(4294967296:Nat)) then
 ret ([] ++ v0)
 else
 none
theorem xs1w.u:∀ b,xs1w.un (xs1w.mk b)=b:=fun _ => by kernel_rfl
theorem xs1w.eq (v0) {b} (h:xs1w.t some v0=some b):xs1w v0=some b:=eqF xs1w.u Tryz.f48 (callT_le E tab) rfl rfl rfl (xs1w.t (rR xs1w.mk) v0) (by kernel_rfl) (by unfold xs1w.t; repeat' first | exact sR | exact sN | exact sL | apply sC | (apply sB; intro _)) h
def xs2t.s2 (v0:Zd) (v1:Int) (v2:List Int) (v3:Int):List Cell:=vc (.d .fro Yb v0)::nn 1 (vc (iL v1)::nn 1 (⟨(.box false),[.d .fro (.sl (.int .i64)) v2],false,false,false,0,0⟩::nn 2 (vc (iL v3)::nn 64 ([]))))
def xs2t.q2:=fun v0 v1 v2 v3 => loopAtL E (callT E tab) 23 Tryz.f23 3 [.r,.r,.l,.b] (xs2t.s2 v0 v1 v2 v3)
def xs2t.l2:=fun v0 v1 v2 v3 => tOf xs2t.mk (xs2t.q2 v0 v1 v2 v3)
def xs2t.t {γ:Type} (ret:(Zd)→Option γ) (lp2:Zd→Int→(List Int)→Int→Option γ) (v0:Zd) (v1:List Int) (v2:Int):Option γ :=
 lp2 (v0) (v2) (v1) ((0:Int))
def xs2t.t2 {γ:Type} (ret:(Zd)→Option γ) (lp2:Zd→Int→(List Int)→Int→Option γ) (v0:Zd) (v1:Int) (v2:List Int) (v3:Int):Option γ :=
 bif decide (v3<(↑v0.length:Int)) then
 bif decide ((0:Int)≤v3) then
 bif decide (v3.toNat<v0.length) then
 (xs1l ((v0.getD v3.toNat ([],(0:Int))).fst) (v2)).bind fun (r0:Int) =>
 bif decide (r0<(0:Int)) then
 lp2 (v0) (v1) (v2) (IntKind.i64.wrap (v3+(1:Int)))
 else
 bif decide (Option.none.getD (0:Int)≤v3) then
 bif decide (v3≤(↑v0.length:Int)) then
 bif decide   ((List.take (v3 - Option.none.getD (0:Int)).toNat (List.drop (Option.none.getD (0:Int)).toNat v0)).length≤    (4294967296:Nat)) then
 (xs1w (v2)).bind fun (r1:(List Int)) =>
 bif decide (v3<(↑v0.length:Int)) then
 bif decide ((0:Int)≤v3) then
 bif decide (v3.toNat<v0.length) then
 (xs1l ((v0.getD v3.toNat ([],(0:Int))).fst) (v2)).bind fun (r2:Int) =>
 bif r2 == (0:Int) then
 bif decide ((0:Int)≤v3) then
 bif decide (v3.toNat<v0.length) then
 bif IntKind.i64.wrap (v1+(v0.getD v3.toNat ([],(0:Int))).snd) != (0:Int) then
 bif decide   ((List.take (v3 - Option.none.getD (0:Int)).toNat (List.drop (Option.none.getD (0:Int)).toNat v0)).length+      [(r1,IntKind.i64.wrap (v1+(v0.getD v3.toNat ([],(0:Int))).snd))].length≤    (4294967296:Nat)) then
 bif decide ((0:Int)≤(Option.some (IntKind.i64.wrap (v3+(1:Int)))).getD (0:Int)) then
 bif decide ((Option.some (IntKind.i64.wrap (v3+(1:Int)))).getD (0:Int)≤(↑v0.length:Int)) then
 bif decide   ((List.take (v3 - Option.none.getD (0:Int)).toNat (List.drop (Option.none.getD (0:Int)).toNat v0) ++           [(r1,IntKind.i64.wrap (v1+(v0.getD v3.toNat ([],(0:Int))).snd))]).length+      (List.drop ((Option.some (IntKind.i64.wrap (v3+(1:Int)))).getD (0:Int)).toNat v0).length≤    (4294967296:Nat)) then
 ret (List.take (v3 - Option.none.getD (0:Int)).toNat (List.drop (Option.none.getD (0:Int)).toNat v0) ++     [(r1,IntKind.i64.wrap (v1+(v0.getD v3.toNat ([],(0:Int))).snd))] ++   List.drop ((Option.some (IntKind.i64.wrap (v3+(1:Int)))).getD (0:Int)).toNat v0)
 else
 none
 else
 none
 else
 none
 else
 none
 else
 bif decide ((0:Int)≤(Option.some (IntKind.i64.wrap (v3+(1:Int)))).getD (0:Int)) then
 bif decide ((Option.some (IntKind.i64.wrap (v3+(1:Int)))).getD (0:Int)≤(↑v0.length:Int)) then
 bif decide   ((List.take (v3 - Option.none.getD (0:Int)).toNat (List.drop (Option.none.getD (0:Int)).toNat v0)).length+      (List.drop ((Option.some (IntKind.i64.wrap (v3+(1:Int)))).getD (0:Int)).toNat v0).length≤    (4294967296:Nat)) then
 ret (List.take (v3 - Option.none.getD (0:Int)).toNat (List.drop (Option.none.getD (0:Int)).toNat v0) ++   List.drop ((Option.some (IntKind.i64.wrap (v3+(1:Int)))).getD (0:Int)).toNat v0)
 else
 none
 else
 none
 else
 none
 else
 none
 else
 none
 else
 bif v1 != (0:Int) then
 bif decide   ((List.take (v3 - Option.none.getD (0:Int)).toNat (List.drop (Option.none.getD (0:Int)).toNat v0)).length+      [(r1,v1)].length≤    (4294967296:Nat)) then
 bif decide ((0:Int)≤(Option.some v3).getD (0:Int)) then
 bif decide ((Option.some v3).getD (0:Int)≤(↑v0.length:Int)) then
 bif decide   ((List.take (v3 - Option.none.getD (0:Int)).toNat (List.drop (Option.none.getD (0:Int)).toNat v0) ++           [(r1,v1)]).length+      (List.drop ((Option.some v3).getD (0:Int)).toNat v0).length≤    (4294967296:Nat)) then
 ret (List.take (v3 - Option.none.getD (0:Int)).toNat (List.drop (Option.none.getD (0:Int)).toNat v0) ++ [(r1,v1)] ++   List.drop ((Option.some v3).getD (0:Int)).toNat v0)
 else
 none
 else
 none
 else
 none
 else
 none
 else
 bif decide ((0:Int)≤(Option.some v3).getD (0:Int)) then
 bif decide ((Option.some v3).getD (0:Int)≤(↑v0.length:Int)) then
 bif decide   ((List.take (v3 - Option.none.getD (0:Int)).toNat (List.drop (Option.none.getD (0:Int)).toNat v0)).length+      (List.drop ((Option.some v3).getD (0:Int)).toNat v0).length≤    (4294967296:Nat)) then
 ret (List.take (v3 - Option.none.getD (0:Int)).toNat (List.drop (Option.none.getD (0:Int)).toNat v0) ++   List.drop ((Option.some v3).getD (0:Int)).toNat v0)
 else
 none
 else
 none
 else
 none
 else
 none
 else
 none
 else
 bif v1 != (0:Int) then
 bif decide   ((List.take (v3 - Option.none.getD (0:Int)).toNat (List.drop (Option.none.getD (0:Int)).toNat v0)).length+      [(r1,v1)].length≤    (4294967296:Nat)) then
 bif decide ((0:Int)≤(Option.some v3).getD (0:Int)) then
 bif decide ((Option.some v3).getD (0:Int)≤(↑v0.length:Int)) then
 bif decide   ((List.take (v3 - Option.none.getD (0:Int)).toNat (List.drop (Option.none.getD (0:Int)).toNat v0) ++           [(r1,v1)]).length+      (List.drop ((Option.some v3).getD (0:Int)).toNat v0).length≤    (4294967296:Nat)) then
 ret (List.take (v3 - Option.none.getD (0:Int)).toNat (List.drop (Option.none.getD (0:Int)).toNat v0) ++ [(r1,v1)] ++   List.drop ((Option.some v3).getD (0:Int)).toNat v0)
 else
 none
 else
 none
 else
 none
 else
 none
 else
 bif decide ((0:Int)≤(Option.some v3).getD (0:Int)) then
 bif decide ((Option.some v3).getD (0:Int)≤(↑v0.length:Int)) then
 bif decide   ((List.take (v3 - Option.none.getD (0:Int)).toNat (List.drop (Option.none.getD (0:Int)).toNat v0)).length+      (List.drop ((Option.some v3).getD (0:Int)).toNat v0).length≤    (4294967296:Nat)) then
 ret (List.take (v3 - Option.none.getD (0:Int)).toNat (List.drop (Option.none.getD (0:Int)).toNat v0) ++   List.drop ((Option.some v3).getD (0:Int)).toNat v0)
 else
 none
 else
 none
 else
 none
 else
 none
 else
 none
 else
 none
 else
 none
 else
 none
 else
 bif decide (Option.none.getD (0:Int)≤v3) then
 bif decide (v3≤(↑v0.length:Int)) then
 bif decide   ((List.take (v3 - Option.none.getD (0:Int)).toNat (List.drop (Option.none.getD (0:Int)).toNat v0)).length≤    (4294967296:Nat)) then
 (xs1w (v2)).bind fun (r3:(List Int)) =>
 bif decide (v3<(↑v0.length:Int)) then
 bif decide ((0:Int)≤v3) then
 bif decide (v3.toNat<v0.length) then
 (xs1l ((v0.getD v3.toNat ([],(0:Int))).fst) (v2)).bind fun (r4:Int) =>
 bif r4 == (0:Int) then
 bif decide ((0:Int)≤v3) then
 bif decide (v3.toNat<v0.length) then
 bif IntKind.i64.wrap (v1+(v0.getD v3.toNat ([],(0:Int))).snd) != (0:Int) then
 bif decide   ((List.take (v3 - Option.none.getD (0:Int)).toNat (List.drop (Option.none.getD (0:Int)).toNat v0)).length+      [(r3,IntKind.i64.wrap (v1+(v0.getD v3.toNat ([],(0:Int))).snd))].length≤    (4294967296:Nat)) then
 bif decide ((0:Int)≤(Option.some (IntKind.i64.wrap (v3+(1:Int)))).getD (0:Int)) then
 bif decide ((Option.some (IntKind.i64.wrap (v3+(1:Int)))).getD (0:Int)≤(↑v0.length:Int)) then
 bif decide   ((List.take (v3 - Option.none.getD (0:Int)).toNat (List.drop (Option.none.getD (0:Int)).toNat v0) ++           [(r3,IntKind.i64.wrap (v1+(v0.getD v3.toNat ([],(0:Int))).snd))]).length+      (List.drop ((Option.some (IntKind.i64.wrap (v3+(1:Int)))).getD (0:Int)).toNat v0).length≤    (4294967296:Nat)) then
 ret (List.take (v3 - Option.none.getD (0:Int)).toNat (List.drop (Option.none.getD (0:Int)).toNat v0) ++     [(r3,IntKind.i64.wrap (v1+(v0.getD v3.toNat ([],(0:Int))).snd))] ++   List.drop ((Option.some (IntKind.i64.wrap (v3+(1:Int)))).getD (0:Int)).toNat v0)
 else
 none
 else
 none
 else
 none
 else
 none
 else
 bif decide ((0:Int)≤(Option.some (IntKind.i64.wrap (v3+(1:Int)))).getD (0:Int)) then
 bif decide ((Option.some (IntKind.i64.wrap (v3+(1:Int)))).getD (0:Int)≤(↑v0.length:Int)) then
 bif decide   ((List.take (v3 - Option.none.getD (0:Int)).toNat (List.drop (Option.none.getD (0:Int)).toNat v0)).length+      (List.drop ((Option.some (IntKind.i64.wrap (v3+(1:Int)))).getD (0:Int)).toNat v0).length≤    (4294967296:Nat)) then
 ret (List.take (v3 - Option.none.getD (0:Int)).toNat (List.drop (Option.none.getD (0:Int)).toNat v0) ++   List.drop ((Option.some (IntKind.i64.wrap (v3+(1:Int)))).getD (0:Int)).toNat v0)
 else
 none
 else
 none
 else
 none
 else
 none
 else
 none
 else
 bif v1 != (0:Int) then
 bif decide   ((List.take (v3 - Option.none.getD (0:Int)).toNat (List.drop (Option.none.getD (0:Int)).toNat v0)).length+      [(r3,v1)].length≤    (4294967296:Nat)) then
 bif decide ((0:Int)≤(Option.some v3).getD (0:Int)) then
 bif decide ((Option.some v3).getD (0:Int)≤(↑v0.length:Int)) then
 bif decide   ((List.take (v3 - Option.none.getD (0:Int)).toNat (List.drop (Option.none.getD (0:Int)).toNat v0) ++           [(r3,v1)]).length+      (List.drop ((Option.some v3).getD (0:Int)).toNat v0).length≤    (4294967296:Nat)) then
 ret (List.take (v3 - Option.none.getD (0:Int)).toNat (List.drop (Option.none.getD (0:Int)).toNat v0) ++ [(r3,v1)] ++   List.drop ((Option.some v3).getD (0:Int)).toNat v0)
 else
 none
 else
 none
 else
 none
 else
 none
 else
 bif decide ((0:Int)≤(Option.some v3).getD (0:Int)) then
 bif decide ((Option.some v3).getD (0:Int)≤(↑v0.length:Int)) then
 bif decide   ((List.take (v3 - Option.none.getD (0:Int)).toNat (List.drop (Option.none.getD (0:Int)).toNat v0)).length+      (List.drop ((Option.some v3).getD (0:Int)).toNat v0).length≤    (4294967296:Nat)) then
 ret (List.take (v3 - Option.none.getD (0:Int)).toNat (List.drop (Option.none.getD (0:Int)).toNat v0) ++   List.drop ((Option.some v3).getD (0:Int)).toNat v0)
 else
 none
 else
 none
 else
 none
 else
 none
 else
 none
 else
 bif v1 != (0:Int) then
 bif decide   ((List.take (v3 - Option.none.getD (0:Int)).toNat (List.drop (Option.none.getD (0:Int)).toNat v0)).length+      [(r3,v1)].length≤    (4294967296:Nat)) then
 bif decide ((0:Int)≤(Option.some v3).getD (0:Int)) then
 bif decide ((Option.some v3).getD (0:Int)≤(↑v0.length:Int)) then
 bif decide   ((List.take (v3 - Option.none.getD (0:Int)).toNat (List.drop (Option.none.getD (0:Int)).toNat v0) ++           [(r3,v1)]).length+      (List.drop ((Option.some v3).getD (0:Int)).toNat v0).length≤    (4294967296:Nat)) then
 ret (List.take (v3 - Option.none.getD (0:Int)).toNat (List.drop (Option.none.getD (0:Int)).toNat v0) ++ [(r3,v1)] ++   List.drop ((Option.some v3).getD (0:Int)).toNat v0)
 else
 none
 else
 none
 else
 none
 else
 none
 else
 bif decide ((0:Int)≤(Option.some v3).getD (0:Int)) then
 bif decide ((Option.some v3).getD (0:Int)≤(↑v0.length:Int)) then
 bif decide   ((List.take (v3 - Option.none.getD (0:Int)).toNat (List.drop (Option.none.getD (0:Int)).toNat v0)).length+      (List.drop ((Option.some v3).getD (0:Int)).toNat v0).length≤    (4294967296:Nat)) then
 ret (List.take (v3 - Option.none.getD (0:Int)).toNat (List.drop (Option.none.getD (0:Int)).toNat v0) ++   List.drop ((Option.some v3).getD (0:Int)).toNat v0)
 else
 none
 else
 none
 else
 none
 else
 none
 else
 none
 else
 none
theorem xs2t.u:∀ b,xs2t.un (xs2t.mk b)=b:=fun _ => by kernel_rfl
theorem xs2t.eq (v0 v1 v2) {b} (h:xs2t.t some xs2t.l2 v0 v1 v2=some b):xs2t v0 v1 v2=some b:=eqF xs2t.u Tryz.f23 (callT_le E tab) rfl rfl rfl (xs2t.t (rR xs2t.mk) xs2t.q2 v0 v1 v2) (by kernel_rfl) (by unfold xs2t.t; repeat' first | exact sR | exact sN | exact sL | apply sC | (apply sB; intro _)) h
theorem xs2t.eq2 (v0 v1 v2 v3) {b} (h:xs2t.t2 some xs2t.l2 v0 v1 v2 v3=some b):xs2t.l2 v0 v1 v2 v3=some b:=eqL xs2t.u (xs2t.t2 (rR xs2t.mk) xs2t.q2 v0 v1 v2 v3) (by kernel_rfl) (by unfold xs2t.t2; repeat' first | exact sR | exact sN | exact sL | apply sC | (apply sB; intro _)) h
def xs2l.s3 (v0:Int) (v1:Zd) (v2:Int) (v3:Zd) (v4:Zd) (v5:Int) (v6:Int):List Cell:=nn 4 (⟨(.box false),[iL v0,.d .deep Yb v1],false,false,false,0,0⟩::nn 1 (⟨(.box false),[iL v2,.d .deep Yb v3],false,false,false,0,0⟩::nn 4 (vc (.d .fro Yb v4)::vc (iL v5)::vc (iL v6)::nn 20 ([]))))
def xs2l.q3:=fun v0 v1 v2 v3 v4 v5 v6 => loopAtL E (callT E tab) 24 Tryz.f24 2 [.r,.r,.l,.r,.b] (xs2l.s3 v0 v1 v2 v3 v4 v5 v6)
def xs2l.l3:=fun v0 v1 v2 v3 v4 v5 v6 => tOf xs2l.mk (xs2l.q3 v0 v1 v2 v3 v4 v5 v6)
def xs2l.t {γ:Type} (ret:(Int × Zd × Bool)→Option γ) (lp3:Int→Zd→Int→Zd→Zd→Int→Int→Option γ) (v0:Int) (v1:Zd):Option γ :=
 lp3 ((0:Int)) ([]) (v0) ([]) (v1) ((↑v1.length:Int)) ((0:Int))
def xs2l.t3 {γ:Type} (ret:(Int × Zd × Bool)→Option γ) (lp3:Int→Zd→Int→Zd→Zd→Int→Int→Option γ) (v0:Int) (v1:Zd) (v2:Int) (v3:Zd) (v4:Zd) (v5:Int) (v6:Int):Option γ :=
 bif decide (v6<v5) then
 bif decide ((0:Int)≤v6) then
 bif decide (v6.toNat<v4.length) then
 (xs1w ((v4.getD v6.toNat ([],(0:Int))).fst)).bind fun (r0:(List Int)) =>
 bif decide (v3.length+[(r0,(v4.getD v6.toNat ([],(0:Int))).snd)].length≤(4294967296:Nat)) then
 lp3 (v0) (v1) (v2) (v3 ++ [(r0,(v4.getD v6.toNat ([],(0:Int))).snd)]) (v4) (v5) (IntKind.i64.wrap (v6+(1:Int)))
 else
 none
 else
 none
 else
 none
 else
 (xs1j (v2) (v3)).bind fun (r1:Bool) =>
 bif !r1 then
 ret ((0:Int),[],Bool.false)
 else
 ret (v2,v3,Bool.true)
theorem xs2l.u:∀ b,xs2l.un (xs2l.mk b)=b:=fun _ => by kernel_rfl
theorem xs2l.eq (v0 v1) {b} (h:xs2l.t some xs2l.l3 v0 v1=some b):xs2l v0 v1=some b:=eqF xs2l.u Tryz.f24 (callT_le E tab) rfl rfl rfl (xs2l.t (rR xs2l.mk) xs2l.q3 v0 v1) (by kernel_rfl) (by unfold xs2l.t; repeat' first | exact sR | exact sN | exact sL | apply sC | (apply sB; intro _)) h
theorem xs2l.eq3 (v0 v1 v2 v3 v4 v5 v6) {b} (h:xs2l.t3 some xs2l.l3 v0 v1 v2 v3 v4 v5 v6=some b):xs2l.l3 v0 v1 v2 v3 v4 v5 v6=some b:=eqL xs2l.u (xs2l.t3 (rR xs2l.mk) xs2l.q3 v0 v1 v2 v3 v4 v5 v6) (by kernel_rfl) (by unfold xs2l.t3; repeat' first | exact sR | exact sN | exact sL | apply sC | (apply sB; intro _)) h
def xi1e.s17 (v0:Zg) (v1:Int) (v2:Int) (v3:Zd) (v4:Int) (v5:Zd) (v6:List Int) (v7:List Int) (v8:Zb) (v9:Int) (v10:Int) (v11:List Int) (v12:Int) (v13:Int):List Cell:=nn 1 (vc (.d .fro Yc v0)::vc (iL v1)::nn 3 (⟨(.box false),[iL v2,.d .deep Yb v3],false,false,false,0,0⟩::nn 3 (⟨(.box false),[iL v4,.d .deep Yb v5],false,false,false,0,0⟩::vc (.d .fro (.sl (.int .i64)) v6)::nn 2 (vc (.d .fro (.sl (.int .i64)) v7)::nn 46 (vc (.d .fro Ya v8)::vc (iL v9)::vc (iL v10)::nn 19 (vc (.d .deep (.sl (.int .i64)) v11)::vc (iL v12)::vc (iL v13)::nn 35 ([])))))))
def xi1e.q17:=fun v0 v1 v2 v3 v4 v5 v6 v7 v8 v9 v10 v11 v12 v13 => loopAtL E (callT E tab) 9 Tryz.f9 3 [.r,.r,.r,.r,.l,.r,.b,.o,.r,.r,.l,.b,.r,.r,.r,.r,.l,.r,.b] (xi1e.s17 v0 v1 v2 v3 v4 v5 v6 v7 v8 v9 v10 v11 v12 v13)
def xi1e.l17:=fun v0 v1 v2 v3 v4 v5 v6 v7 v8 v9 v10 v11 v12 v13 => tOf xi1e.mk (xi1e.q17 v0 v1 v2 v3 v4 v5 v6 v7 v8 v9 v10 v11 v12 v13)
def xi1e.s26 (v0:Int) (v1:Zd) (v2:Int) (v3:Zd) (v4:List Int) (v5:List Int) (v6:Int) (v7:Int):List Cell:=nn 6 (⟨(.box false),[iL v0,.d .deep Yb v1],false,false,false,0,0⟩::nn 3 (⟨(.box false),[iL v2,.d .fro Yb v3],false,false,false,0,0⟩::vc (.d .fro (.sl (.int .i64)) v4)::nn 6 (vc (.d .deep (.sl (.int .i64)) v5)::nn 85 (vc (iL v6)::vc (iL v7)::nn 15 ([])))))
def xi1e.q26:=fun v0 v1 v2 v3 v4 v5 v6 v7 => loopAtL E (callT E tab) 9 Tryz.f9 3 [.r,.r,.r,.r,.r,.r,.l,.r,.b] (xi1e.s26 v0 v1 v2 v3 v4 v5 v6 v7)
def xi1e.l26:=fun v0 v1 v2 v3 v4 v5 v6 v7 => tOf xi1e.mk (xi1e.q26 v0 v1 v2 v3 v4 v5 v6 v7)
def xi1e.s11 (v0:Zg) (v1:Int) (v2:Int) (v3:Zd) (v4:Int) (v5:Zd) (v6:List Int) (v7:Zb) (v8:Int) (v9:Int):List Cell:=nn 1 (vc (.d .fro Yc v0)::vc (iL v1)::nn 3 (⟨(.box false),[iL v2,.d .deep Yb v3],false,false,false,0,0⟩::nn 3 (⟨(.box false),[iL v4,.d .fro Yb v5],false,false,false,0,0⟩::vc (.d .fro (.sl (.int .i64)) v6)::nn 49 (vc (.d .fro Ya v7)::vc (iL v8)::vc (iL v9)::nn 57 ([])))))
def xi1e.q11:=fun v0 v1 v2 v3 v4 v5 v6 v7 v8 v9 => loopAtL E (callT E tab) 9 Tryz.f9 3 [.r,.r,.r,.r,.l,.r,.b] (xi1e.s11 v0 v1 v2 v3 v4 v5 v6 v7 v8 v9)
def xi1e.l11:=fun v0 v1 v2 v3 v4 v5 v6 v7 v8 v9 => tOf xi1e.mk (xi1e.q11 v0 v1 v2 v3 v4 v5 v6 v7 v8 v9)
def xi1e.s4 (v0:Zb) (v1:Zg) (v2:Int) (v3:Int) (v4:Zd) (v5:Zb) (v6:Int) (v7:Int):List Cell:=vc (.d .fro Ya v0)::vc (.d .fro Yc v1)::vc (iL v2)::nn 3 (⟨(.box false),[iL v3,.d .deep Yb v4],false,false,false,0,0⟩::nn 25 (vc (.d .fro Ya v5)::vc (iL v6)::vc (iL v7)::nn 86 ([])))
def xi1e.q4:=fun v0 v1 v2 v3 v4 v5 v6 v7 => loopAtL E (callT E tab) 9 Tryz.f9 3 [.r,.r,.l,.r,.b] (xi1e.s4 v0 v1 v2 v3 v4 v5 v6 v7)
def xi1e.l4:=fun v0 v1 v2 v3 v4 v5 v6 v7 => tOf xi1e.mk (xi1e.q4 v0 v1 v2 v3 v4 v5 v6 v7)
def xi1e.t {γ:Type} (ret:(Int × Zd × Bool)→Option γ) (lp4:Zb→Zg→Int→Int→Zd→Zb→Int→Int→Option γ) (v0:Zb) (v1:Zg) (v2:Int):Option γ :=
 (xi1c (v1) (v2)).bind fun (r0:Bool) =>
 bif !r0 then
 ret ((0:Int),[],Bool.false)
 else
 bif (↑v0.length:Int) != (↑v1.length:Int) then
 ret ((0:Int),[],Bool.false)
 else
 lp4 (v0) (v1) (v2) ((0:Int)) ([]) (v0) ((↑v0.length:Int)) ((0:Int))
def xi1e.t17 {γ:Type} (ret:(Int × Zd × Bool)→Option γ) (lp17:Zg→Int→Int→Zd→Int→Zd→(List Int)→(List Int)→Zb→Int→Int→(List Int)→Int→Int→Option γ) (lp11:Zg→Int→Int→Zd→Int→Zd→(List Int)→Zb→Int→Int→Option γ) (v0:Zg) (v1:Int) (v2:Int) (v3:Zd) (v4:Int) (v5:Zd) (v6:List Int) (v7:List Int) (v8:Zb) (v9:Int) (v10:Int) (v11:List Int) (v12:Int) (v13:Int):Option γ :=
 bif decide (v13<v12) then
 bif decide ((0:Int)≤v13) then
 bif decide (v13.toNat<v11.length) then
 bif decide (v13.toNat<v11.length) then
 (xs0s (v6)).bind fun (r5:(List Int)) =>
 bif decide ((0:Int)≤v11.getD v13.toNat (0:Int)) then
 bif decide ((v11.getD v13.toNat (0:Int)).toNat<v7.length) then
 bif decide (r5.length+[v7.getD (v11.getD v13.toNat (0:Int)).toNat (0:Int)].length≤(4294967296:Nat)) then
 lp17 (v0) (v1) (v2) (v3) (v4) (v5) (r5 ++ [v7.getD (v11.getD v13.toNat (0:Int)).toNat (0:Int)]) (v7) (v8) (v9) (v10) (v11) (v12) (IntKind.i64.wrap (v13+(1:Int)))
 else
 none
 else
 none
 else
 none
 else
 none
 else
 none
 else
 none
 else
 bif decide ((↑v5.length:Int) > (60:Int)) then
 ret ((0:Int),[],Bool.false)
 else
 lp11 (v0) (v1) (v2) (v3) (v4) (v5) (v6) (v8) (v9) (IntKind.i64.wrap (v10+(1:Int)))
def xi1e.t26 {γ:Type} (ret:(Int × Zd × Bool)→Option γ) (lp26:Int→Zd→Int→Zd→(List Int)→(List Int)→Int→Int→Option γ) (v0:Int) (v1:Zd) (v2:Int) (v3:Zd) (v4:List Int) (v5:List Int) (v6:Int) (v7:Int):Option γ :=
 bif decide (v7<v6) then
 (xs0t (v4) (v7)).bind fun (r6:Int) =>
 bif decide (v5.length+[r6].length≤(4294967296:Nat)) then
 lp26 (v0) (v1) (v2) (v3) (v4) (v5 ++ [r6]) (v6) (IntKind.i64.wrap (v7+(1:Int)))
 else
 none
 else
 (xi0r (v2) (v3) (v5)).bind fun (r7:Int × Zd) =>
 (xi0u (r7.fst) (r7.snd)).bind fun (r8:Int × Zd × Bool) =>
 ret (r8.fst,r8.snd.fst,r8.snd.snd)
def xi1e.t11 {γ:Type} (ret:(Int × Zd × Bool)→Option γ) (lp17:Zg→Int→Int→Zd→Int→Zd→(List Int)→(List Int)→Zb→Int→Int→(List Int)→Int→Int→Option γ) (lp26:Int→Zd→Int→Zd→(List Int)→(List Int)→Int→Int→Option γ) (v0:Zg) (v1:Int) (v2:Int) (v3:Zd) (v4:Int) (v5:Zd) (v6:List Int) (v7:Zb) (v8:Int) (v9:Int):Option γ :=
 bif decide (v9<v8) then
 bif decide ((0:Int)≤v9) then
 bif decide (v9.toNat<v7.length) then
 bif decide ((0:Int)≤IntKind.i64.wrap (v9+(1:Int))) then
 bif decide ((IntKind.i64.wrap (v9+(1:Int))).toNat<v0.length) then
 (xi22 (v6) (v0.getD (IntKind.i64.wrap (v9+(1:Int))).toNat [])).bind fun (r2:Zg) =>
 (xi17 (v4) (v5) ((v7.getD v9.toNat ((0:Int),[])).fst) ((v7.getD v9.toNat ((0:Int),[])).snd) (r2)).bind fun (r3:Int × Zd) =>
 (xi1r ((↑(v0.getD (IntKind.i64.wrap (v9+(1:Int))).toNat []).length:Int)) (r2)).bind fun (r4:(List Int)) =>
 lp17 (v0) (v1) (v2) (v3) (r3.fst) (r3.snd) (v6) (v0.getD (IntKind.i64.wrap (v9+(1:Int))).toNat []) (v7) (v8) (v9) (r4) ((↑r4.length:Int)) ((0:Int))
 else
 none
 else
 none
 else
 none
 else
 none
 else
 lp26 (v2) (v3) (v4) (v5) (v6) ([]) (v1) ((0:Int))
def xi1e.t4 {γ:Type} (ret:(Int × Zd × Bool)→Option γ) (lp11:Zg→Int→Int→Zd→Int→Zd→(List Int)→Zb→Int→Int→Option γ) (lp4:Zb→Zg→Int→Int→Zd→Zb→Int→Int→Option γ) (v0:Zb) (v1:Zg) (v2:Int) (v3:Int) (v4:Zd) (v5:Zb) (v6:Int) (v7:Int):Option γ :=
 bif decide (v7<v6) then
 bif decide ((0:Int)≤v7) then
 bif decide (v7.toNat<v5.length) then
 (xi2c ((v5.getD v7.toNat ((0:Int),[])).fst) ((v5.getD v7.toNat ((0:Int),[])).snd)).bind fun (r1:Bool) =>
 bif !r1 then
 ret ((0:Int),[],Bool.false)
 else
 bif decide ((0:Int)≤v7) then
 bif decide (v7.toNat<v1.length) then
 bif (v5.getD v7.toNat ((0:Int),[])).fst != (↑(v1.getD v7.toNat []).length:Int) then
 ret ((0:Int),[],Bool.false)
 else
 lp4 (v0) (v1) (v2) (v3) (v4) (v5) (v6) (IntKind.i64.wrap (v7+(1:Int)))
 else
 none
 else
 none
 else
 none
 else
 none
 else
 bif decide (Int.toNat (0:Int)<v0.length) then
 bif decide (Int.toNat (0:Int)<v1.length) then
 bif decide ((Option.some (1:Int)).getD (0:Int)≤(↑v0.length:Int)) then
 lp11 (v1) (v2) (v3) (v4) ((v0.getD (Int.toNat (0:Int)) ((0:Int),[])).fst) ((v0.getD (Int.toNat (0:Int)) ((0:Int),[])).snd) (v1.getD (Int.toNat (0:Int)) []) (List.drop ((Option.some (1:Int)).getD (0:Int)).toNat v0) ((↑(List.drop ((Option.some (1:Int)).getD (0:Int)).toNat v0).length:Int)) ((0:Int))
 else
 none
 else
 none
 else
 none
theorem xi1e.u:∀ b,xi1e.un (xi1e.mk b)=b:=fun _ => by kernel_rfl
theorem xi1e.eq (v0 v1 v2) {b} (h:xi1e.t some xi1e.l4 v0 v1 v2=some b):xi1e v0 v1 v2=some b:=eqF xi1e.u Tryz.f9 (callT_le E tab) rfl rfl rfl (xi1e.t (rR xi1e.mk) xi1e.q4 v0 v1 v2) (by kernel_rfl) (by unfold xi1e.t; repeat' first | exact sR | exact sN | exact sL | apply sC | (apply sB; intro _)) h
theorem xi1e.eq17 (v0 v1 v2 v3 v4 v5 v6 v7 v8 v9 v10 v11 v12 v13) {b} (h:xi1e.t17 some xi1e.l17 xi1e.l11 v0 v1 v2 v3 v4 v5 v6 v7 v8 v9 v10 v11 v12 v13=some b):xi1e.l17 v0 v1 v2 v3 v4 v5 v6 v7 v8 v9 v10 v11 v12 v13=some b:=eqL xi1e.u (xi1e.t17 (rR xi1e.mk) xi1e.q17 xi1e.q11 v0 v1 v2 v3 v4 v5 v6 v7 v8 v9 v10 v11 v12 v13) (by kernel_rfl) (by unfold xi1e.t17; repeat' first | exact sR | exact sN | exact sL | apply sC | (apply sB; intro _)) h
theorem xi1e.eq26 (v0 v1 v2 v3 v4 v5 v6 v7) {b} (h:xi1e.t26 some xi1e.l26 v0 v1 v2 v3 v4 v5 v6 v7=some b):xi1e.l26 v0 v1 v2 v3 v4 v5 v6 v7=some b:=eqL xi1e.u (xi1e.t26 (rR xi1e.mk) xi1e.q26 v0 v1 v2 v3 v4 v5 v6 v7) (by kernel_rfl) (by unfold xi1e.t26; repeat' first | exact sR | exact sN | exact sL | apply sC | (apply sB; intro _)) h
theorem xi1e.eq11 (v0 v1 v2 v3 v4 v5 v6 v7 v8 v9) {b} (h:xi1e.t11 some xi1e.l17 xi1e.l26 v0 v1 v2 v3 v4 v5 v6 v7 v8 v9=some b):xi1e.l11 v0 v1 v2 v3 v4 v5 v6 v7 v8 v9=some b:=eqL xi1e.u (xi1e.t11 (rR xi1e.mk) xi1e.q17 xi1e.q26 v0 v1 v2 v3 v4 v5 v6 v7 v8 v9) (by kernel_rfl) (by unfold xi1e.t11; repeat' first | exact sR | exact sN | exact sL | apply sC | (apply sB; intro _)) h
theorem xi1e.eq4 (v0 v1 v2 v3 v4 v5 v6 v7) {b} (h:xi1e.t4 some xi1e.l11 xi1e.l4 v0 v1 v2 v3 v4 v5 v6 v7=some b):xi1e.l4 v0 v1 v2 v3 v4 v5 v6 v7=some b:=eqL xi1e.u (xi1e.t4 (rR xi1e.mk) xi1e.q11 xi1e.q4 v0 v1 v2 v3 v4 v5 v6 v7) (by kernel_rfl) (by unfold xi1e.t4; repeat' first | exact sR | exact sN | exact sL | apply sC | (apply sB; intro _)) h
def xi1c.s5 (v0:Int) (v1:Int) (v2:Zg) (v3:Int) (v4:Int):List Cell:=nn 1 (vc (iL v0)::nn 3 (vc (iL v1)::nn 11 (vc (.d .fro Yc v2)::vc (iL v3)::vc (iL v4)::nn 16 ([]))))
def xi1c.q5:=fun v0 v1 v2 v3 v4 => loopAtL E (callT E tab) 27 Tryz.f27 2 [.r,.r,.r,.l,.r,.b] (xi1c.s5 v0 v1 v2 v3 v4)
def xi1c.l5:=fun v0 v1 v2 v3 v4 => tOf xi1c.mk (xi1c.q5 v0 v1 v2 v3 v4)
def xi1c.t {γ:Type} (ret:(Bool)→Option γ) (lp5:Int→Int→Zg→Int→Int→Option γ) (v0:Zg) (v1:Int):Option γ :=
 (xi2g (v1) ((1:Int)) ((6:Int))).bind fun (r0:Bool) =>
 bif !r0 then
 ret (Bool.false)
 else
 (xi2g ((↑v0.length:Int)) ((1:Int)) ((8:Int))).bind fun (r1:Bool) =>
 bif !r1 then
 ret (Bool.false)
 else
 lp5 (v1) ((0:Int)) (v0) ((↑v0.length:Int)) ((0:Int))
def xi1c.t5 {γ:Type} (ret:(Bool)→Option γ) (lp5:Int→Int→Zg→Int→Int→Option γ) (v0:Int) (v1:Int) (v2:Zg) (v3:Int) (v4:Int):Option γ :=
 bif decide (v4<v3) then
 bif decide ((0:Int)≤v4) then
 bif decide (v4.toNat<v2.length) then
 (xi2d (v2.getD v4.toNat []) (v0)).bind fun (r2:Bool) =>
 bif !r2 then
 ret (Bool.false)
 else
 (xi2n (v2.getD v4.toNat [])).bind fun (r3:Int) =>
 lp5 (v0) (IntKind.i64.wrap (↑(BitVec.ofInt IntKind.i64.bits v1 ||| BitVec.ofInt IntKind.i64.bits r3).toNat:Int)) (v2) (v3) (IntKind.i64.wrap (v4+(1:Int)))
 else
 none
 else
 none
 else
 (xi2o (v0)).bind fun (r4:Int) =>
 ret (v1 == r4)
theorem xi1c.u:∀ b,xi1c.un (xi1c.mk b)=b:=fun _ => by kernel_rfl
theorem xi1c.eq (v0 v1) {b} (h:xi1c.t some xi1c.l5 v0 v1=some b):xi1c v0 v1=some b:=eqF xi1c.u Tryz.f27 (callT_le E tab) rfl rfl rfl (xi1c.t (rR xi1c.mk) xi1c.q5 v0 v1) (by kernel_rfl) (by unfold xi1c.t; repeat' first | exact sR | exact sN | exact sL | apply sC | (apply sB; intro _)) h
theorem xi1c.eq5 (v0 v1 v2 v3 v4) {b} (h:xi1c.t5 some xi1c.l5 v0 v1 v2 v3 v4=some b):xi1c.l5 v0 v1 v2 v3 v4=some b:=eqL xi1c.u (xi1c.t5 (rR xi1c.mk) xi1c.q5 v0 v1 v2 v3 v4) (by kernel_rfl) (by unfold xi1c.t5; repeat' first | exact sR | exact sN | exact sL | apply sC | (apply sB; intro _)) h
def xi2g.t {γ:Type} (ret:(Bool)→Option γ) (v0:Int) (v1:Int) (v2:Int):Option γ :=
 bif decide (v1≤v0) then
 ret (decide (v0≤v2))
 else
 ret (Bool.false)
theorem xi2g.u:∀ b,xi2g.un (xi2g.mk b)=b:=fun _ => by kernel_rfl
theorem xi2g.eq (v0 v1 v2) {b} (h:xi2g.t some v0 v1 v2=some b):xi2g v0 v1 v2=some b:=eqF xi2g.u Tryz.f50 (callT_le E tab) rfl rfl rfl (xi2g.t (rR xi2g.mk) v0 v1 v2) (by kernel_rfl) (by unfold xi2g.t; repeat' first | exact sR | exact sN | exact sL | apply sC | (apply sB; intro _)) h
def xi2d.t {γ:Type} (ret:(Bool)→Option γ) (v0:List Int) (v1:Int):Option γ :=
 bif decide ((↑v0.length:Int) > (0:Int)) then
 (xi1f (v0) (v1)).bind fun (r0:Bool) =>
 ret (r0)
 else
 ret (Bool.false)
theorem xi2d.u:∀ b,xi2d.un (xi2d.mk b)=b:=fun _ => by kernel_rfl
theorem xi2d.eq (v0 v1) {b} (h:xi2d.t some v0 v1=some b):xi2d v0 v1=some b:=eqF xi2d.u Tryz.f51 (callT_le E tab) rfl rfl rfl (xi2d.t (rR xi2d.mk) v0 v1) (by kernel_rfl) (by unfold xi2d.t; repeat' first | exact sR | exact sN | exact sL | apply sC | (apply sB; intro _)) h
def xi1f.s2 (v0:List Int) (v1:Int) (v2:List Int) (v3:Int) (v4:Int):List Cell:=vc (.d .fro (.sl (.int .i64)) v0)::vc (iL v1)::nn 5 (vc (.d .fro (.sl (.int .i64)) v2)::vc (iL v3)::vc (iL v4)::nn 22 ([]))
def xi1f.q2:=fun v0 v1 v2 v3 v4 => loopAtL E (callT E tab) 68 Tryz.f68 2 [.r,.l,.r,.b] (xi1f.s2 v0 v1 v2 v3 v4)
def xi1f.l2:=fun v0 v1 v2 v3 v4 => tOf xi1f.mk (xi1f.q2 v0 v1 v2 v3 v4)
def xi1f.t {γ:Type} (ret:(Bool)→Option γ) (lp2:(List Int)→Int→(List Int)→Int→Int→Option γ) (v0:List Int) (v1:Int):Option γ :=
 lp2 (v0) (v1) (v0) ((↑v0.length:Int)) ((0:Int))
def xi1f.t2 {γ:Type} (ret:(Bool)→Option γ) (lp2:(List Int)→Int→(List Int)→Int→Int→Option γ) (v0:List Int) (v1:Int) (v2:List Int) (v3:Int) (v4:Int):Option γ :=
 bif decide (v4<v3) then
 bif decide ((0:Int)≤v4) then
 bif decide (v4.toNat<v2.length) then
 (xi20 (v2.getD v4.toNat (0:Int)) (v1)).bind fun (r0:Bool) =>
 bif !r0 then
 ret (Bool.false)
 else
 bif decide (v4 > (0:Int)) then
 bif decide ((0:Int)≤IntKind.i64.wrap (v4 - (1:Int))) then
 bif decide ((IntKind.i64.wrap (v4 - (1:Int))).toNat<v0.length) then
 bif decide (v2.getD v4.toNat (0:Int)≤v0.getD (IntKind.i64.wrap (v4 - (1:Int))).toNat (0:Int)) then
 ret (Bool.false)
 else
 lp2 (v0) (v1) (v2) (v3) (IntKind.i64.wrap (v4+(1:Int)))
 else
 none
 else
 none
 else
 lp2 (v0) (v1) (v2) (v3) (IntKind.i64.wrap (v4+(1:Int)))
 else
 none
 else
 none
 else
 ret (Bool.true)
theorem xi1f.u:∀ b,xi1f.un (xi1f.mk b)=b:=fun _ => by kernel_rfl
theorem xi1f.eq (v0 v1) {b} (h:xi1f.t some xi1f.l2 v0 v1=some b):xi1f v0 v1=some b:=eqF xi1f.u Tryz.f68 (callT_le E tab) rfl rfl rfl (xi1f.t (rR xi1f.mk) xi1f.q2 v0 v1) (by kernel_rfl) (by unfold xi1f.t; repeat' first | exact sR | exact sN | exact sL | apply sC | (apply sB; intro _)) h
theorem xi1f.eq2 (v0 v1 v2 v3 v4) {b} (h:xi1f.t2 some xi1f.l2 v0 v1 v2 v3 v4=some b):xi1f.l2 v0 v1 v2 v3 v4=some b:=eqL xi1f.u (xi1f.t2 (rR xi1f.mk) xi1f.q2 v0 v1 v2 v3 v4) (by kernel_rfl) (by unfold xi1f.t2; repeat' first | exact sR | exact sN | exact sL | apply sC | (apply sB; intro _)) h
def xi20.t {γ:Type} (ret:(Bool)→Option γ) (v0:Int) (v1:Int):Option γ :=
 bif decide (v0 ≥ (0:Int)) then
 ret (decide (v0<v1))
 else
 ret (Bool.false)
theorem xi20.u:∀ b,xi20.un (xi20.mk b)=b:=fun _ => by kernel_rfl
theorem xi20.eq (v0 v1) {b} (h:xi20.t some v0 v1=some b):xi20 v0 v1=some b:=eqF xi20.u Tryz.f86 (callT_le E tab) rfl rfl rfl (xi20.t (rR xi20.mk) v0 v1) (by kernel_rfl) (by unfold xi20.t; repeat' first | exact sR | exact sN | exact sL | apply sC | (apply sB; intro _)) h
def xi2n.s3 (v0:Int) (v1:List Int) (v2:Int) (v3:Int):List Cell:=nn 3 (vc (iL v0)::nn 2 (vc (.d .fro (.sl (.int .i64)) v1)::vc (iL v2)::vc (iL v3)::nn 9 ([])))
def xi2n.q3:=fun v0 v1 v2 v3 => loopAtL E (callT E tab) 52 Tryz.f52 1 [.r,.r,.l,.r,.b] (xi2n.s3 v0 v1 v2 v3)
def xi2n.l3:=fun v0 v1 v2 v3 => tOf xi2n.mk (xi2n.q3 v0 v1 v2 v3)
def xi2n.t {γ:Type} (ret:(Int)→Option γ) (lp3:Int→(List Int)→Int→Int→Option γ) (v0:List Int):Option γ :=
 lp3 ((0:Int)) (v0) ((↑v0.length:Int)) ((0:Int))
def xi2n.t3 {γ:Type} (ret:(Int)→Option γ) (lp3:Int→(List Int)→Int→Int→Option γ) (v0:Int) (v1:List Int) (v2:Int) (v3:Int):Option γ :=
 bif decide (v3<v2) then
 bif decide ((0:Int)≤v3) then
 bif decide (v3.toNat<v1.length) then
 bif decide ((0:Int)≤v1.getD v3.toNat (0:Int)) then
 lp3 (IntKind.i64.wrap   (↑(BitVec.ofInt IntKind.i64.bits v0 |||           BitVec.ofInt IntKind.i64.bits             (IntKind.i64.wrap               ((1:Int) * (2:Int) ^ Min.min (v1.getD v3.toNat (0:Int)).toNat IntKind.i64.bits))).toNat:    Int)) (v1) (v2) (IntKind.i64.wrap (v3+(1:Int)))
 else
 none
 else
 none
 else
 none
 else
 ret (v0)
theorem xi2n.u:∀ b,xi2n.un (xi2n.mk b)=b:=fun _ => by kernel_rfl
theorem xi2n.eq (v0) {b} (h:xi2n.t some xi2n.l3 v0=some b):xi2n v0=some b:=eqF xi2n.u Tryz.f52 (callT_le E tab) rfl rfl rfl (xi2n.t (rR xi2n.mk) xi2n.q3 v0) (by kernel_rfl) (by unfold xi2n.t; repeat' first | exact sR | exact sN | exact sL | apply sC | (apply sB; intro _)) h
theorem xi2n.eq3 (v0 v1 v2 v3) {b} (h:xi2n.t3 some xi2n.l3 v0 v1 v2 v3=some b):xi2n.l3 v0 v1 v2 v3=some b:=eqL xi2n.u (xi2n.t3 (rR xi2n.mk) xi2n.q3 v0 v1 v2 v3) (by kernel_rfl) (by unfold xi2n.t3; repeat' first | exact sR | exact sN | exact sL | apply sC | (apply sB; intro _)) h
def xi2o.t {γ:Type} (ret:(Int)→Option γ) (v0:Int):Option γ :=
 bif decide ((0:Int)≤v0) then
 ret (IntKind.i64.wrap (IntKind.i64.wrap ((1:Int) * (2:Int) ^ Min.min v0.toNat IntKind.i64.bits) - (1:Int)))
 else
 none
theorem xi2o.u:∀ b,xi2o.un (xi2o.mk b)=b:=fun _ => by kernel_rfl
theorem xi2o.eq (v0) {b} (h:xi2o.t some v0=some b):xi2o v0=some b:=eqF xi2o.u Tryz.f53 (callT_le E tab) rfl rfl rfl (xi2o.t (rR xi2o.mk) v0) (by kernel_rfl) (by unfold xi2o.t; repeat' first | exact sR | exact sN | exact sL | apply sC | (apply sB; intro _)) h
def xi2c.t {γ:Type} (ret:(Bool)→Option γ) (v0:Int) (v1:Zd):Option γ :=
 (xi1d (v0) (v1)).bind fun (r0:Bool) =>
 bif r0 then
 (xi0h (v1)).bind fun (r1:Bool) =>
 ret (r1)
 else
 ret (Bool.false)
theorem xi2c.u:∀ b,xi2c.un (xi2c.mk b)=b:=fun _ => by kernel_rfl
theorem xi2c.eq (v0 v1) {b} (h:xi2c.t some v0 v1=some b):xi2c v0 v1=some b:=eqF xi2c.u Tryz.f28 (callT_le E tab) rfl rfl rfl (xi2c.t (rR xi2c.mk) v0 v1) (by kernel_rfl) (by unfold xi2c.t; repeat' first | exact sR | exact sN | exact sL | apply sC | (apply sB; intro _)) h
def xi1d.s4 (v0:Int) (v1:Zd) (v2:Zd) (v3:Int) (v4:Int):List Cell:=nn 1 (⟨(.box false),[iL v0,.d .fro Yb v1],false,false,false,0,0⟩::nn 14 (vc (.d .fro Yb v2)::vc (iL v3)::vc (iL v4)::nn 39 ([])))
def xi1d.q4:=fun v0 v1 v2 v3 v4 => loopAtL E (callT E tab) 54 Tryz.f54 1 [.r,.r,.l,.r,.b] (xi1d.s4 v0 v1 v2 v3 v4)
def xi1d.l4:=fun v0 v1 v2 v3 v4 => tOf xi1d.mk (xi1d.q4 v0 v1 v2 v3 v4)
def xi1d.t {γ:Type} (ret:(Bool)→Option γ) (lp4:Int→Zd→Zd→Int→Int→Option γ) (v0:Int) (v1:Zd):Option γ :=
 (xi1g (v0)).bind fun (r0:Bool) =>
 bif !r0 then
 ret (Bool.false)
 else
 bif decide ((↑v1.length:Int) > (60:Int)) then
 ret (Bool.false)
 else
 lp4 (v0) (v1) (v1) ((↑v1.length:Int)) ((0:Int))
def xi1d.t4 {γ:Type} (ret:(Bool)→Option γ) (lp4:Int→Zd→Zd→Int→Int→Option γ) (v0:Int) (v1:Zd) (v2:Zd) (v3:Int) (v4:Int):Option γ :=
 bif decide (v4<v3) then
 bif decide ((0:Int)≤v4) then
 bif decide (v4.toNat<v2.length) then
 (xi21 ((v2.getD v4.toNat ([],(0:Int))).fst) (v0)).bind fun (r1:Bool) =>
 bif !r1 then
 ret (Bool.false)
 else
 (xi1o ((v2.getD v4.toNat ([],(0:Int))).snd)).bind fun (r2:Bool) =>
 bif !r2 then
 ret (Bool.false)
 else
 bif (v2.getD v4.toNat ([],(0:Int))).snd == (0:Int) then
 ret (Bool.false)
 else
 bif decide (v4 > (0:Int)) then
 bif decide ((0:Int)≤IntKind.i64.wrap (v4 - (1:Int))) then
 bif decide ((IntKind.i64.wrap (v4 - (1:Int))).toNat<v1.length) then
 (xi11 ((v1.getD (IntKind.i64.wrap (v4 - (1:Int))).toNat ([],(0:Int))).fst) ((v2.getD v4.toNat ([],(0:Int))).fst)).bind fun (r3:Int) =>
 bif decide (r3 ≥ (0:Int)) then
 ret (Bool.false)
 else
 lp4 (v0) (v1) (v2) (v3) (IntKind.i64.wrap (v4+(1:Int)))
 else
 none
 else
 none
 else
 lp4 (v0) (v1) (v2) (v3) (IntKind.i64.wrap (v4+(1:Int)))
 else
 none
 else
 none
 else
 ret (Bool.true)
theorem xi1d.u:∀ b,xi1d.un (xi1d.mk b)=b:=fun _ => by kernel_rfl
theorem xi1d.eq (v0 v1) {b} (h:xi1d.t some xi1d.l4 v0 v1=some b):xi1d v0 v1=some b:=eqF xi1d.u Tryz.f54 (callT_le E tab) rfl rfl rfl (xi1d.t (rR xi1d.mk) xi1d.q4 v0 v1) (by kernel_rfl) (by unfold xi1d.t; repeat' first | exact sR | exact sN | exact sL | apply sC | (apply sB; intro _)) h
theorem xi1d.eq4 (v0 v1 v2 v3 v4) {b} (h:xi1d.t4 some xi1d.l4 v0 v1 v2 v3 v4=some b):xi1d.l4 v0 v1 v2 v3 v4=some b:=eqL xi1d.u (xi1d.t4 (rR xi1d.mk) xi1d.q4 v0 v1 v2 v3 v4) (by kernel_rfl) (by unfold xi1d.t4; repeat' first | exact sR | exact sN | exact sL | apply sC | (apply sB; intro _)) h
end
end GoV

/- Equations of the program's functions (printed by wip/tools/emit.py). -/
namespace GoV
open Go Go.Proofs
set_option maxRecDepth 100000
noncomputable section

def xi1g.t {γ:Type} (ret:(Bool)→Option γ) (v0:Int):Option γ :=
 (xi2g (v0) ((0:Int)) ((6:Int))).bind fun (r0:Bool) =>
 ret (r0)
theorem xi1g.u:∀ b,xi1g.un (xi1g.mk b)=b:=fun _ => by kernel_rfl
theorem xi1g.eq (v0) {b} (h:xi1g.t some v0=some b):xi1g v0=some b:=eqF xi1g.u Tryz.f69 (callT_le E tab) rfl rfl rfl (xi1g.t (rR xi1g.mk) v0) (by kernel_rfl) (by unfold xi1g.t; repeat' first | exact sR | exact sN | exact sL | apply sC | (apply sB; intro _)) h
def xi21.t {γ:Type} (ret:(Bool)→Option γ) (v0:List Int) (v1:Int):Option γ :=
 (xi1y (v0)).bind fun (r0:Bool) =>
 bif r0 then
 ret ((↑v0.length:Int) == v1)
 else
 ret (Bool.false)
theorem xi21.u:∀ b,xi21.un (xi21.mk b)=b:=fun _ => by kernel_rfl
theorem xi21.eq (v0 v1) {b} (h:xi21.t some v0 v1=some b):xi21 v0 v1=some b:=eqF xi21.u Tryz.f70 (callT_le E tab) rfl rfl rfl (xi21.t (rR xi21.mk) v0 v1) (by kernel_rfl) (by unfold xi21.t; repeat' first | exact sR | exact sN | exact sL | apply sC | (apply sB; intro _)) h
def xi1y.t {γ:Type} (ret:(Bool)→Option γ) (v0:List Int):Option γ :=
 bif decide ((↑v0.length:Int)≤(6:Int)) then
 (xi0l (v0)).bind fun (r0:Bool) =>
 ret (r0)
 else
 ret (Bool.false)
theorem xi1y.u:∀ b,xi1y.un (xi1y.mk b)=b:=fun _ => by kernel_rfl
theorem xi1y.eq (v0) {b} (h:xi1y.t some v0=some b):xi1y v0=some b:=eqF xi1y.u Tryz.f87 (callT_le E tab) rfl rfl rfl (xi1y.t (rR xi1y.mk) v0) (by kernel_rfl) (by unfold xi1y.t; repeat' first | exact sR | exact sN | exact sL | apply sC | (apply sB; intro _)) h
def xi0l.t {γ:Type} (ret:(Bool)→Option γ) (v0:List Int):Option γ :=
 (xs05 (v0)).bind fun (r0:Bool) =>
 ret (!r0)
theorem xi0l.u:∀ b,xi0l.un (xi0l.mk b)=b:=fun _ => by kernel_rfl
theorem xi0l.eq (v0) {b} (h:xi0l.t some v0=some b):xi0l v0=some b:=eqF xi0l.u Tryz.f94 (callT_le E tab) rfl rfl rfl (xi0l.t (rR xi0l.mk) v0) (by kernel_rfl) (by unfold xi0l.t; repeat' first | exact sR | exact sN | exact sL | apply sC | (apply sB; intro _)) h
def xs05.t {γ:Type} (ret:(Bool)→Option γ) (v0:List Int):Option γ :=
 (xs08 (v0)).bind fun (r0:Int) =>
 ret (decide (r0 ≥ (0:Int)))
theorem xs05.u:∀ b,xs05.un (xs05.mk b)=b:=fun _ => by kernel_rfl
theorem xs05.eq (v0) {b} (h:xs05.t some v0=some b):xs05 v0=some b:=eqF xs05.u Tryz.f99 (callT_le E tab) rfl rfl rfl (xs05.t (rR xs05.mk) v0) (by kernel_rfl) (by unfold xs05.t; repeat' first | exact sR | exact sN | exact sL | apply sC | (apply sB; intro _)) h
def xs08.s2 (v0:List Int) (v1:Int) (v2:Int):List Cell:=vc (.d .fro (.sl (.int .i64)) v0)::vc (.fn 100 [.rp [.fn 95 []] 0])::nn 5 (vc (iL v1)::vc (iL v2)::nn 10 ([]))
def xs08.q2:=fun v0 v1 v2 => loopAtL E (callT E tab) 103 Tryz.f103 2 [.r,.l,.r,.b] (xs08.s2 v0 v1 v2)
def xs08.l2:=fun v0 v1 v2 => tOf xs08.mk (xs08.q2 v0 v1 v2)
def xs08.t {γ:Type} (ret:(Int)→Option γ) (lp2:(List Int)→Int→Int→Option γ) (v0:List Int):Option γ :=
 lp2 (v0) ((↑v0.length:Int)) ((0:Int))
def xs08.t2 {γ:Type} (ret:(Int)→Option γ) (lp2:(List Int)→Int→Int→Option γ) (v0:List Int) (v1:Int) (v2:Int):Option γ :=
 bif decide (v2<v1) then
 bif decide ((0:Int)≤v2) then
 bif decide (v2.toNat<v0.length) then
 (xi0j (v0.getD v2.toNat (0:Int))).bind fun (r0:Bool) =>
 bif r0 then
 ret (v2)
 else
 lp2 (v0) (v1) (IntKind.i64.wrap (v2+(1:Int)))
 else
 none
 else
 none
 else
 ret ((-1:Int))
theorem xs08.u:∀ b,xs08.un (xs08.mk b)=b:=fun _ => by kernel_rfl
theorem xs08.eq (v0) {b} (h:xs08.t some xs08.l2 v0=some b):xs08 v0=some b:=eqF xs08.u Tryz.f103 (callT_le E tab) rfl rfl rfl (xs08.t (rR xs08.mk) xs08.q2 v0) (by kernel_rfl) (by unfold xs08.t; repeat' first | exact sR | exact sN | exact sL | apply sC | (apply sB; intro _)) h
theorem xs08.eq2 (v0 v1 v2) {b} (h:xs08.t2 some xs08.l2 v0 v1 v2=some b):xs08.l2 v0 v1 v2=some b:=eqL xs08.u (xs08.t2 (rR xs08.mk) xs08.q2 v0 v1 v2) (by kernel_rfl) (by unfold xs08.t2; repeat' first | exact sR | exact sN | exact sL | apply sC | (apply sB; intro _)) h
def xi0j.t {γ:Type} (ret:(Bool)→Option γ) (v0:Int):Option γ :=
 (xi2b (v0)).bind fun (r0:Bool) =>
 ret (!r0)
theorem xi0j.u:∀ b,xi0j.un (xi0j.mk b)=b:=fun _ => by kernel_rfl
theorem xi0j.eq (v0) {b} (h:xi0j.t some v0=some b):xi0j v0=some b:=eqF xi0j.u Tryz.f100 (callT_le E tab) rfl rfl rfl (xi0j.t (rR xi0j.mk) v0) (by kernel_rfl) (by unfold xi0j.t; repeat' first | exact sR | exact sN | exact sL | apply sC | (apply sB; intro _)) h
def xi2b.t {γ:Type} (ret:(Bool)→Option γ) (v0:Int):Option γ :=
 (xi2g (v0) ((-100000:Int)) ((100000:Int))).bind fun (r0:Bool) =>
 ret (r0)
theorem xi2b.u:∀ b,xi2b.un (xi2b.mk b)=b:=fun _ => by kernel_rfl
theorem xi2b.eq (v0) {b} (h:xi2b.t some v0=some b):xi2b v0=some b:=eqF xi2b.u Tryz.f95 (callT_le E tab) rfl rfl rfl (xi2b.t (rR xi2b.mk) v0) (by kernel_rfl) (by unfold xi2b.t; repeat' first | exact sR | exact sN | exact sL | apply sC | (apply sB; intro _)) h
def xi1o.t {γ:Type} (ret:(Bool)→Option γ) (v0:Int):Option γ :=
 (xi2g (v0) ((-1000000:Int)) ((1000000:Int))).bind fun (r0:Bool) =>
 ret (r0)
theorem xi1o.u:∀ b,xi1o.un (xi1o.mk b)=b:=fun _ => by kernel_rfl
theorem xi1o.eq (v0) {b} (h:xi1o.t some v0=some b):xi1o v0=some b:=eqF xi1o.u Tryz.f71 (callT_le E tab) rfl rfl rfl (xi1o.t (rR xi1o.mk) v0) (by kernel_rfl) (by unfold xi1o.t; repeat' first | exact sR | exact sN | exact sL | apply sC | (apply sB; intro _)) h
def xi11.t {γ:Type} (ret:(Int)→Option γ) (v0:List Int) (v1:List Int):Option γ :=
 (xs0o (v0) (v1)).bind fun (r0:Int) =>
 ret (r0)
theorem xi11.u:∀ b,xi11.un (xi11.mk b)=b:=fun _ => by kernel_rfl
theorem xi11.eq (v0 v1) {b} (h:xi11.t some v0 v1=some b):xi11 v0 v1=some b:=eqF xi11.u Tryz.f72 (callT_le E tab) rfl rfl rfl (xi11.t (rR xi11.mk) v0 v1) (by kernel_rfl) (by unfold xi11.t; repeat' first | exact sR | exact sN | exact sL | apply sC | (apply sB; intro _)) h
def xs0o.s2 (v0:List Int) (v1:List Int) (v2:List Int) (v3:Int) (v4:Int):List Cell:=vc (.d .fro (.sl (.int .i64)) v0)::vc (.d .fro (.sl (.int .i64)) v1)::nn 7 (vc (.d .fro (.sl (.int .i64)) v2)::vc (iL v3)::vc (iL v4)::nn 24 ([]))
def xs0o.q2:=fun v0 v1 v2 v3 v4 => loopAtL E (callT E tab) 88 Tryz.f88 2 [.r,.l,.r,.b] (xs0o.s2 v0 v1 v2 v3 v4)
def xs0o.l2:=fun v0 v1 v2 v3 v4 => tOf xs0o.mk (xs0o.q2 v0 v1 v2 v3 v4)
def xs0o.t {γ:Type} (ret:(Int)→Option γ) (lp2:(List Int)→(List Int)→(List Int)→Int→Int→Option γ) (v0:List Int) (v1:List Int):Option γ :=
 lp2 (v0) (v1) (v0) ((↑v0.length:Int)) ((0:Int))
def xs0o.t2 {γ:Type} (ret:(Int)→Option γ) (lp2:(List Int)→(List Int)→(List Int)→Int→Int→Option γ) (v0:List Int) (v1:List Int) (v2:List Int) (v3:Int) (v4:Int):Option γ :=
 bif decide (v4<v3) then
 bif decide ((0:Int)≤v4) then
 bif decide (v4.toNat<v2.length) then
 bif decide (v4 ≥ (↑v1.length:Int)) then
 ret ((1:Int))
 else
 bif decide ((0:Int)≤v4) then
 bif decide (v4.toNat<v1.length) then
 (xc15 (v2.getD v4.toNat (0:Int)) (v1.getD v4.toNat (0:Int))).bind fun (r0:Int) =>
 bif r0 != (0:Int) then
 ret (r0)
 else
 lp2 (v0) (v1) (v2) (v3) (IntKind.i64.wrap (v4+(1:Int)))
 else
 none
 else
 none
 else
 none
 else
 none
 else
 bif decide ((↑v0.length:Int)<(↑v1.length:Int)) then
 ret ((-1:Int))
 else
 ret ((0:Int))
theorem xs0o.u:∀ b,xs0o.un (xs0o.mk b)=b:=fun _ => by kernel_rfl
theorem xs0o.eq (v0 v1) {b} (h:xs0o.t some xs0o.l2 v0 v1=some b):xs0o v0 v1=some b:=eqF xs0o.u Tryz.f88 (callT_le E tab) rfl rfl rfl (xs0o.t (rR xs0o.mk) xs0o.q2 v0 v1) (by kernel_rfl) (by unfold xs0o.t; repeat' first | exact sR | exact sN | exact sL | apply sC | (apply sB; intro _)) h
theorem xs0o.eq2 (v0 v1 v2 v3 v4) {b} (h:xs0o.t2 some xs0o.l2 v0 v1 v2 v3 v4=some b):xs0o.l2 v0 v1 v2 v3 v4=some b:=eqL xs0o.u (xs0o.t2 (rR xs0o.mk) xs0o.q2 v0 v1 v2 v3 v4) (by kernel_rfl) (by unfold xs0o.t2; repeat' first | exact sR | exact sN | exact sL | apply sC | (apply sB; intro _)) h
def xc15.t {γ:Type} (ret:(Int)→Option γ) (v0:Int) (v1:Int):Option γ :=
 (xc1m (v0)).bind fun (r0:Bool) =>
 (xc1m (v1)).bind fun (r1:Bool) =>
 bif r0 then
 bif r1 then
 ret ((0:Int))
 else
 ret ((-1:Int))
 else
 bif r1 then
 ret ((1:Int))
 else
 bif decide (v0<v1) then
 ret ((-1:Int))
 else
 bif decide (v0 > v1) then
 ret ((1:Int))
 else
 ret ((0:Int))
theorem xc15.u:∀ b,xc15.un (xc15.mk b)=b:=fun _ => by kernel_rfl
theorem xc15.eq (v0 v1) {b} (h:xc15.t some v0 v1=some b):xc15 v0 v1=some b:=eqF xc15.u Tryz.f96 (callT_le E tab) rfl rfl rfl (xc15.t (rR xc15.mk) v0 v1) (by kernel_rfl) (by unfold xc15.t; repeat' first | exact sR | exact sN | exact sL | apply sC | (apply sB; intro _)) h
def xc1m.t {γ:Type} (ret:(Bool)→Option γ) (v0:Int):Option γ :=
 ret (v0 != v0)
theorem xc1m.u:∀ b,xc1m.un (xc1m.mk b)=b:=fun _ => by kernel_rfl
theorem xc1m.eq (v0) {b} (h:xc1m.t some v0=some b):xc1m v0=some b:=eqF xc1m.u Tryz.f101 (callT_le E tab) rfl rfl rfl (xc1m.t (rR xc1m.mk) v0) (by kernel_rfl) (by unfold xc1m.t; repeat' first | exact sR | exact sN | exact sL | apply sC | (apply sB; intro _)) h
def xi0h.t {γ:Type} (ret:(Bool)→Option γ) (v0:Zd):Option γ :=
 (xs00 (v0)).bind fun (r0:Bool) =>
 ret (!r0)
theorem xi0h.u:∀ b,xi0h.un (xi0h.mk b)=b:=fun _ => by kernel_rfl
theorem xi0h.eq (v0) {b} (h:xi0h.t some v0=some b):xi0h v0=some b:=eqF xi0h.u Tryz.f55 (callT_le E tab) rfl rfl rfl (xi0h.t (rR xi0h.mk) v0) (by kernel_rfl) (by unfold xi0h.t; repeat' first | exact sR | exact sN | exact sL | apply sC | (apply sB; intro _)) h
def xs00.t {γ:Type} (ret:(Bool)→Option γ) (v0:Zd):Option γ :=
 (xs01 (v0)).bind fun (r0:Int) =>
 ret (decide (r0 ≥ (0:Int)))
theorem xs00.u:∀ b,xs00.un (xs00.mk b)=b:=fun _ => by kernel_rfl
theorem xs00.eq (v0) {b} (h:xs00.t some v0=some b):xs00 v0=some b:=eqF xs00.u Tryz.f73 (callT_le E tab) rfl rfl rfl (xs00.t (rR xs00.mk) v0) (by kernel_rfl) (by unfold xs00.t; repeat' first | exact sR | exact sN | exact sL | apply sC | (apply sB; intro _)) h
def xs01.s2 (v0:Zd) (v1:Int) (v2:Int):List Cell:=vc (.d .fro Yb v0)::vc (.fn 74 [.rp [.fn 56 []] 0])::nn 5 (vc (iL v1)::vc (iL v2)::nn 10 ([]))
def xs01.q2:=fun v0 v1 v2 => loopAtL E (callT E tab) 89 Tryz.f89 2 [.r,.l,.r,.b] (xs01.s2 v0 v1 v2)
def xs01.l2:=fun v0 v1 v2 => tOf xs01.mk (xs01.q2 v0 v1 v2)
def xs01.t {γ:Type} (ret:(Int)→Option γ) (lp2:Zd→Int→Int→Option γ) (v0:Zd):Option γ :=
 lp2 (v0) ((↑v0.length:Int)) ((0:Int))
def xs01.t2 {γ:Type} (ret:(Int)→Option γ) (lp2:Zd→Int→Int→Option γ) (v0:Zd) (v1:Int) (v2:Int):Option γ :=
 bif decide (v2<v1) then
 bif decide ((0:Int)≤v2) then
 bif decide (v2.toNat<v0.length) then
 (xi0e ((v0.getD v2.toNat ([],(0:Int))).fst) ((v0.getD v2.toNat ([],(0:Int))).snd)).bind fun (r0:Bool) =>
 bif r0 then
 ret (v2)
 else
 lp2 (v0) (v1) (IntKind.i64.wrap (v2+(1:Int)))
 else
 none
 else
 none
 else
 ret ((-1:Int))
theorem xs01.u:∀ b,xs01.un (xs01.mk b)=b:=fun _ => by kernel_rfl
theorem xs01.eq (v0) {b} (h:xs01.t some xs01.l2 v0=some b):xs01 v0=some b:=eqF xs01.u Tryz.f89 (callT_le E tab) rfl rfl rfl (xs01.t (rR xs01.mk) xs01.q2 v0) (by kernel_rfl) (by unfold xs01.t; repeat' first | exact sR | exact sN | exact sL | apply sC | (apply sB; intro _)) h
theorem xs01.eq2 (v0 v1 v2) {b} (h:xs01.t2 some xs01.l2 v0 v1 v2=some b):xs01.l2 v0 v1 v2=some b:=eqL xs01.u (xs01.t2 (rR xs01.mk) xs01.q2 v0 v1 v2) (by kernel_rfl) (by unfold xs01.t2; repeat' first | exact sR | exact sN | exact sL | apply sC | (apply sB; intro _)) h
def xi0e.t {γ:Type} (ret:(Bool)→Option γ) (v0:List Int) (v1:Int):Option γ :=
 (xi1n (v0) (v1)).bind fun (r0:Bool) =>
 ret (!r0)
theorem xi0e.u:∀ b,xi0e.un (xi0e.mk b)=b:=fun _ => by kernel_rfl
theorem xi0e.eq (v0 v1) {b} (h:xi0e.t some v0 v1=some b):xi0e v0 v1=some b:=eqF xi0e.u Tryz.f74 (callT_le E tab) rfl rfl rfl (xi0e.t (rR xi0e.mk) v0 v1) (by kernel_rfl) (by unfold xi0e.t; repeat' first | exact sR | exact sN | exact sL | apply sC | (apply sB; intro _)) h
def xi1n.t {γ:Type} (ret:(Bool)→Option γ) (v0:List Int) (v1:Int):Option γ :=
 ret (v1 == (1:Int))
theorem xi1n.u:∀ b,xi1n.un (xi1n.mk b)=b:=fun _ => by kernel_rfl
theorem xi1n.eq (v0 v1) {b} (h:xi1n.t some v0 v1=some b):xi1n v0 v1=some b:=eqF xi1n.u Tryz.f56 (callT_le E tab) rfl rfl rfl (xi1n.t (rR xi1n.mk) v0 v1) (by kernel_rfl) (by unfold xi1n.t; repeat' first | exact sR | exact sN | exact sL | apply sC | (apply sB; intro _)) h
def xi22.s3 (v0:List Int) (v1:Zg) (v2:List Int) (v3:Int) (v4:Int):List Cell:=nn 1 (vc (.d .fro (.sl (.int .i64)) v0)::nn 3 (vc (.d .deep Yc v1)::nn 3 (vc (.d .fro (.sl (.int .i64)) v2)::vc (iL v3)::vc (iL v4)::nn 17 ([]))))
def xi22.q3:=fun v0 v1 v2 v3 v4 => loopAtL E (callT E tab) 29 Tryz.f29 2 [.r,.r,.l,.r,.b] (xi22.s3 v0 v1 v2 v3 v4)
def xi22.l3:=fun v0 v1 v2 v3 v4 => tOf xi22.mk (xi22.q3 v0 v1 v2 v3 v4)
def xi22.t {γ:Type} (ret:(Zg)→Option γ) (lp3:(List Int)→Zg→(List Int)→Int→Int→Option γ) (v0:List Int) (v1:List Int):Option γ :=
 lp3 (v1) ([]) (v0) ((↑v0.length:Int)) ((0:Int))
def xi22.t3 {γ:Type} (ret:(Zg)→Option γ) (lp3:(List Int)→Zg→(List Int)→Int→Int→Option γ) (v0:List Int) (v1:Zg) (v2:List Int) (v3:Int) (v4:Int):Option γ :=
 bif decide (v4<v3) then
 bif decide ((0:Int)≤v4) then
 bif decide (v4.toNat<v2.length) then
 (xs0t (v0) (v2.getD v4.toNat (0:Int))).bind fun (r0:Int) =>
 bif decide (r0 ≥ (0:Int)) then
 bif decide (v1.length+[[v4,r0]].length≤(4294967296:Nat)) then
 lp3 (v0) (v1 ++ [[v4,r0]]) (v2) (v3) (IntKind.i64.wrap (v4+(1:Int)))
 else
 none
 else
 lp3 (v0) (v1) (v2) (v3) (IntKind.i64.wrap (v4+(1:Int)))
 else
 none
 else
 none
 else
 ret (v1)
theorem xi22.u:∀ b,xi22.un (xi22.mk b)=b:=fun _ => by kernel_rfl
theorem xi22.eq (v0 v1) {b} (h:xi22.t some xi22.l3 v0 v1=some b):xi22 v0 v1=some b:=eqF xi22.u Tryz.f29 (callT_le E tab) rfl rfl rfl (xi22.t (rR xi22.mk) xi22.q3 v0 v1) (by kernel_rfl) (by unfold xi22.t; repeat' first | exact sR | exact sN | exact sL | apply sC | (apply sB; intro _)) h
theorem xi22.eq3 (v0 v1 v2 v3 v4) {b} (h:xi22.t3 some xi22.l3 v0 v1 v2 v3 v4=some b):xi22.l3 v0 v1 v2 v3 v4=some b:=eqL xi22.u (xi22.t3 (rR xi22.mk) xi22.q3 v0 v1 v2 v3 v4) (by kernel_rfl) (by unfold xi22.t3; repeat' first | exact sR | exact sN | exact sL | apply sC | (apply sB; intro _)) h
def xs0t.s2 (v0:List Int) (v1:Int) (v2:Int) (v3:Int):List Cell:=vc (.d .fro (.sl (.int .i64)) v0)::vc (iL v1)::nn 5 (vc (iL v2)::vc (iL v3)::nn 10 ([]))
def xs0t.q2:=fun v0 v1 v2 v3 => loopAtL E (callT E tab) 33 Tryz.f33 2 [.r,.l,.r,.b] (xs0t.s2 v0 v1 v2 v3)
def xs0t.l2:=fun v0 v1 v2 v3 => tOf xs0t.mk (xs0t.q2 v0 v1 v2 v3)
def xs0t.t {γ:Type} (ret:(Int)→Option γ) (lp2:(List Int)→Int→Int→Int→Option γ) (v0:List Int) (v1:Int):Option γ :=
 lp2 (v0) (v1) ((↑v0.length:Int)) ((0:Int))
def xs0t.t2 {γ:Type} (ret:(Int)→Option γ) (lp2:(List Int)→Int→Int→Int→Option γ) (v0:List Int) (v1:Int) (v2:Int) (v3:Int):Option γ :=
 bif decide (v3<v2) then
 bif decide ((0:Int)≤v3) then
 bif decide (v3.toNat<v0.length) then
 bif v1 == v0.getD v3.toNat (0:Int) then
 ret (v3)
 else
 lp2 (v0) (v1) (v2) (IntKind.i64.wrap (v3+(1:Int)))
 else
 none
 else
 none
 else
 ret ((-1:Int))
theorem xs0t.u:∀ b,xs0t.un (xs0t.mk b)=b:=fun _ => by kernel_rfl
theorem xs0t.eq (v0 v1) {b} (h:xs0t.t some xs0t.l2 v0 v1=some b):xs0t v0 v1=some b:=eqF xs0t.u Tryz.f33 (callT_le E tab) rfl rfl rfl (xs0t.t (rR xs0t.mk) xs0t.q2 v0 v1) (by kernel_rfl) (by unfold xs0t.t; repeat' first | exact sR | exact sN | exact sL | apply sC | (apply sB; intro _)) h
theorem xs0t.eq2 (v0 v1 v2 v3) {b} (h:xs0t.t2 some xs0t.l2 v0 v1 v2 v3=some b):xs0t.l2 v0 v1 v2 v3=some b:=eqL xs0t.u (xs0t.t2 (rR xs0t.mk) xs0t.q2 v0 v1 v2 v3) (by kernel_rfl) (by unfold xs0t.t2; repeat' first | exact sR | exact sN | exact sL | apply sC | (apply sB; intro _)) h
end
end GoV

/- Equations of the program's functions (printed by wip/tools/emit.py). -/
namespace GoV
open Go Go.Proofs
set_option maxRecDepth 100000
noncomputable section

def xi17.s6 (v0:Zg) (v1:Int) (v2:Zd) (v3:Int) (v4:Zd) (v5:Int) (v6:Zd) (v7:Zd) (v8:List Int) (v9:Int) (v10:Zd) (v11:Int) (v12:Int) (v13:Zd) (v14:Int) (v15:Int):List Cell:=nn 2 (vc (.d .fro Yc v0)::⟨(.box false),[iL v1,.d .fro Yb v2],false,false,false,0,0⟩::⟨(.box false),[iL v3,.d .fro Yb v4],false,false,false,0,0⟩::nn 1 (⟨(.box false),[iL v5,.d .deep Yb v6],false,false,false,0,0⟩::vc (.d .deep Yb v7)::nn 1 (⟨(.box false),[.d .fro (.sl (.int .i64)) v8,iL v9],false,false,false,0,0⟩::nn 5 (vc (.d .fro Yb v10)::vc (iL v11)::vc (iL v12)::nn 4 (vc (.d .fro Yb v13)::vc (iL v14)::vc (iL v15)::nn 34 ([]))))))
def xi17.q6:=fun v0 v1 v2 v3 v4 v5 v6 v7 v8 v9 v10 v11 v12 v13 v14 v15 => loopAtL E (callT E tab) 30 Tryz.f30 3 [.r,.r,.l,.r,.b,.o,.r,.r,.l,.b,.r,.r,.b] (xi17.s6 v0 v1 v2 v3 v4 v5 v6 v7 v8 v9 v10 v11 v12 v13 v14 v15)
def xi17.l6:=fun v0 v1 v2 v3 v4 v5 v6 v7 v8 v9 v10 v11 v12 v13 v14 v15 => tOf xi17.mk (xi17.q6 v0 v1 v2 v3 v4 v5 v6 v7 v8 v9 v10 v11 v12 v13 v14 v15)
def xi17.s3 (v0:Zg) (v1:Int) (v2:Zd) (v3:Int) (v4:Zd) (v5:Int) (v6:Zd) (v7:Zd) (v8:Zd) (v9:Int) (v10:Int):List Cell:=nn 2 (vc (.d .fro Yc v0)::⟨(.box false),[iL v1,.d .fro Yb v2],false,false,false,0,0⟩::⟨(.box false),[iL v3,.d .fro Yb v4],false,false,false,0,0⟩::nn 1 (⟨(.box false),[iL v5,.d .deep Yb v6],false,false,false,0,0⟩::vc (.d .deep Yb v7)::nn 7 (vc (.d .fro Yb v8)::vc (iL v9)::vc (iL v10)::nn 41 ([]))))
def xi17.q3:=fun v0 v1 v2 v3 v4 v5 v6 v7 v8 v9 v10 => loopAtL E (callT E tab) 30 Tryz.f30 3 [.r,.r,.l,.r,.b] (xi17.s3 v0 v1 v2 v3 v4 v5 v6 v7 v8 v9 v10)
def xi17.l3:=fun v0 v1 v2 v3 v4 v5 v6 v7 v8 v9 v10 => tOf xi17.mk (xi17.q3 v0 v1 v2 v3 v4 v5 v6 v7 v8 v9 v10)
def xi17.t {γ:Type} (ret:(Int × Zd)→Option γ) (lp3:Zg→Int→Zd→Int→Zd→Int→Zd→Zd→Zd→Int→Int→Option γ) (v0:Int) (v1:Zd) (v2:Int) (v3:Zd) (v4:Zg):Option γ :=
 lp3 (v4) (v0) (v1) (v2) (v3) ((0:Int)) ([]) ([]) (v1) ((↑v1.length:Int)) ((0:Int))
def xi17.t6 {γ:Type} (ret:(Int × Zd)→Option γ) (lp6:Zg→Int→Zd→Int→Zd→Int→Zd→Zd→(List Int)→Int→Zd→Int→Int→Zd→Int→Int→Option γ) (lp3:Zg→Int→Zd→Int→Zd→Int→Zd→Zd→Zd→Int→Int→Option γ) (v0:Zg) (v1:Int) (v2:Zd) (v3:Int) (v4:Zd) (v5:Int) (v6:Zd) (v7:Zd) (v8:List Int) (v9:Int) (v10:Zd) (v11:Int) (v12:Int) (v13:Zd) (v14:Int) (v15:Int):Option γ :=
 bif decide (v15<v14) then
 bif decide ((0:Int)≤v15) then
 bif decide (v15.toNat<v13.length) then
 (xi2e (v8) ((v13.getD v15.toNat ([],(0:Int))).fst) (v0)).bind fun (r0:(List Int) × Bool) =>
 bif r0.snd then
 bif decide   (v7.length+[(r0.fst,IntKind.i64.wrap (v9 * (v13.getD v15.toNat ([],(0:Int))).snd))].length≤    (4294967296:Nat)) then
 lp6 (v0) (v1) (v2) (v3) (v4) (v5) (v6) (v7 ++ [(r0.fst,IntKind.i64.wrap (v9 * (v13.getD v15.toNat ([],(0:Int))).snd))]) (v8) (v9) (v10) (v11) (v12) (v13) (v14) (IntKind.i64.wrap (v15+(1:Int)))
 else
 none
 else
 lp6 (v0) (v1) (v2) (v3) (v4) (v5) (v6) (v7) (v8) (v9) (v10) (v11) (v12) (v13) (v14) (IntKind.i64.wrap (v15+(1:Int)))
 else
 none
 else
 none
 else
 lp3 (v0) (v1) (v2) (v3) (v4) (v5) (v6) (v7) (v10) (v11) (IntKind.i64.wrap (v12+(1:Int)))
def xi17.t3 {γ:Type} (ret:(Int × Zd)→Option γ) (lp6:Zg→Int→Zd→Int→Zd→Int→Zd→Zd→(List Int)→Int→Zd→Int→Int→Zd→Int→Int→Option γ) (v0:Zg) (v1:Int) (v2:Zd) (v3:Int) (v4:Zd) (v5:Int) (v6:Zd) (v7:Zd) (v8:Zd) (v9:Int) (v10:Int):Option γ :=
 bif decide (v10<v9) then
 bif decide ((0:Int)≤v10) then
 bif decide (v10.toNat<v8.length) then
 lp6 (v0) (v1) (v2) (v3) (v4) (v5) (v6) (v7) ((v8.getD v10.toNat ([],(0:Int))).fst) ((v8.getD v10.toNat ([],(0:Int))).snd) (v8) (v9) (v10) (v4) ((↑v4.length:Int)) ((0:Int))
 else
 none
 else
 none
 else
 (xi0w (v1) (v3) (v0)).bind fun (r1:Int) =>
 (xi2f (r1) ([v7])).bind fun (r2:Int × Zd) =>
 ret (r2.fst,r2.snd)
theorem xi17.u:∀ b,xi17.un (xi17.mk b)=b:=fun _ => by kernel_rfl
theorem xi17.eq (v0 v1 v2 v3 v4) {b} (h:xi17.t some xi17.l3 v0 v1 v2 v3 v4=some b):xi17 v0 v1 v2 v3 v4=some b:=eqF xi17.u Tryz.f30 (callT_le E tab) rfl rfl rfl (xi17.t (rR xi17.mk) xi17.q3 v0 v1 v2 v3 v4) (by kernel_rfl) (by unfold xi17.t; repeat' first | exact sR | exact sN | exact sL | apply sC | (apply sB; intro _)) h
theorem xi17.eq6 (v0 v1 v2 v3 v4 v5 v6 v7 v8 v9 v10 v11 v12 v13 v14 v15) {b} (h:xi17.t6 some xi17.l6 xi17.l3 v0 v1 v2 v3 v4 v5 v6 v7 v8 v9 v10 v11 v12 v13 v14 v15=some b):xi17.l6 v0 v1 v2 v3 v4 v5 v6 v7 v8 v9 v10 v11 v12 v13 v14 v15=some b:=eqL xi17.u (xi17.t6 (rR xi17.mk) xi17.q6 xi17.q3 v0 v1 v2 v3 v4 v5 v6 v7 v8 v9 v10 v11 v12 v13 v14 v15) (by kernel_rfl) (by unfold xi17.t6; repeat' first | exact sR | exact sN | exact sL | apply sC | (apply sB; intro _)) h
theorem xi17.eq3 (v0 v1 v2 v3 v4 v5 v6 v7 v8 v9 v10) {b} (h:xi17.t3 some xi17.l6 v0 v1 v2 v3 v4 v5 v6 v7 v8 v9 v10=some b):xi17.l3 v0 v1 v2 v3 v4 v5 v6 v7 v8 v9 v10=some b:=eqL xi17.u (xi17.t3 (rR xi17.mk) xi17.q6 v0 v1 v2 v3 v4 v5 v6 v7 v8 v9 v10) (by kernel_rfl) (by unfold xi17.t3; repeat' first | exact sR | exact sN | exact sL | apply sC | (apply sB; intro _)) h
def xi2e.t {γ:Type} (ret:((List Int) × Bool)→Option γ) (v0:List Int) (v1:List Int) (v2:Zg):Option γ :=
 (xi0k (v2) (v0) (v1)).bind fun (r0:Bool) =>
 bif !r0 then
 ret ([],Bool.false)
 else
 (xi1r ((↑v1.length:Int)) (v2)).bind fun (r1:(List Int)) =>
 (xi16 (v1) (r1)).bind fun (r2:(List Int)) =>
 (xs0q ([v0,r2])).bind fun (r3:(List Int)) =>
 ret (r3,Bool.true)
theorem xi2e.u:∀ b,xi2e.un (xi2e.mk b)=b:=fun _ => by kernel_rfl
theorem xi2e.eq (v0 v1 v2) {b} (h:xi2e.t some v0 v1 v2=some b):xi2e v0 v1 v2=some b:=eqF xi2e.u Tryz.f57 (callT_le E tab) rfl rfl rfl (xi2e.t (rR xi2e.mk) v0 v1 v2) (by kernel_rfl) (by unfold xi2e.t; repeat' first | exact sR | exact sN | exact sL | apply sC | (apply sB; intro _)) h
def xi0k.t {γ:Type} (ret:(Bool)→Option γ) (v0:Zg) (v1:List Int) (v2:List Int):Option γ :=
 (xs03 (v0) (v1) (v2)).bind fun (r0:Bool) =>
 ret (!r0)
theorem xi0k.u:∀ b,xi0k.un (xi0k.mk b)=b:=fun _ => by kernel_rfl
theorem xi0k.eq (v0 v1 v2) {b} (h:xi0k.t some v0 v1 v2=some b):xi0k v0 v1 v2=some b:=eqF xi0k.u Tryz.f75 (callT_le E tab) rfl rfl rfl (xi0k.t (rR xi0k.mk) v0 v1 v2) (by kernel_rfl) (by unfold xi0k.t; repeat' first | exact sR | exact sN | exact sL | apply sC | (apply sB; intro _)) h
def xs03.t {γ:Type} (ret:(Bool)→Option γ) (v0:Zg) (v1:List Int) (v2:List Int):Option γ :=
 (xs06 (v0) (v1) (v2)).bind fun (r0:Int) =>
 ret (decide (r0 ≥ (0:Int)))
theorem xs03.u:∀ b,xs03.un (xs03.mk b)=b:=fun _ => by kernel_rfl
theorem xs03.eq (v0 v1 v2) {b} (h:xs03.t some v0 v1 v2=some b):xs03 v0 v1 v2=some b:=eqF xs03.u Tryz.f60 (callT_le E tab) rfl rfl rfl (xs03.t (rR xs03.mk) v0 v1 v2) (by kernel_rfl) (by unfold xs03.t; repeat' first | exact sR | exact sN | exact sL | apply sC | (apply sB; intro _)) h
def xs06.s2 (v0:Zg) (v1:List Int) (v2:List Int) (v3:Int) (v4:Int):List Cell:=vc (.d .fro Yc v0)::vc (.fn 90 [.rp [.fn 76 [.rp [.d .fro (.sl (.int .i64)) v1] 0,.rp [.d .fro (.sl (.int .i64)) v2] 0]] 0])::nn 5 (vc (iL v3)::vc (iL v4)::nn 10 ([]))
def xs06.q2:=fun v0 v1 v2 v3 v4 => loopAtL E (callT E tab) 82 Tryz.f82 2 [.r,.l,.r,.b] (xs06.s2 v0 v1 v2 v3 v4)
def xs06.l2:=fun v0 v1 v2 v3 v4 => tOf xs06.mk (xs06.q2 v0 v1 v2 v3 v4)
def xs06.t {γ:Type} (ret:(Int)→Option γ) (lp2:Zg→(List Int)→(List Int)→Int→Int→Option γ) (v0:Zg) (v1:List Int) (v2:List Int):Option γ :=
 lp2 (v0) (v1) (v2) ((↑v0.length:Int)) ((0:Int))
def xs06.t2 {γ:Type} (ret:(Int)→Option γ) (lp2:Zg→(List Int)→(List Int)→Int→Int→Option γ) (v0:Zg) (v1:List Int) (v2:List Int) (v3:Int) (v4:Int):Option γ :=
 bif decide (v4<v3) then
 bif decide ((0:Int)≤v4) then
 bif decide (v4.toNat<v0.length) then
 (xi0i (v0.getD v4.toNat []) (v1) (v2)).bind fun (r0:Bool) =>
 bif r0 then
 ret (v4)
 else
 lp2 (v0) (v1) (v2) (v3) (IntKind.i64.wrap (v4+(1:Int)))
 else
 none
 else
 none
 else
 ret ((-1:Int))
theorem xs06.u:∀ b,xs06.un (xs06.mk b)=b:=fun _ => by kernel_rfl
theorem xs06.eq (v0 v1 v2) {b} (h:xs06.t some xs06.l2 v0 v1 v2=some b):xs06 v0 v1 v2=some b:=eqF xs06.u Tryz.f82 (callT_le E tab) rfl rfl rfl (xs06.t (rR xs06.mk) xs06.q2 v0 v1 v2) (by kernel_rfl) (by unfold xs06.t; repeat' first | exact sR | exact sN | exact sL | apply sC | (apply sB; intro _)) h
theorem xs06.eq2 (v0 v1 v2 v3 v4) {b} (h:xs06.t2 some xs06.l2 v0 v1 v2 v3 v4=some b):xs06.l2 v0 v1 v2 v3 v4=some b:=eqL xs06.u (xs06.t2 (rR xs06.mk) xs06.q2 v0 v1 v2 v3 v4) (by kernel_rfl) (by unfold xs06.t2; repeat' first | exact sR | exact sN | exact sL | apply sC | (apply sB; intro _)) h
def xi0i.t {γ:Type} (ret:(Bool)→Option γ) (v0:List Int) (v1:List Int) (v2:List Int):Option γ :=
 (xi1p (v0) (v1) (v2)).bind fun (r0:Bool) =>
 ret (!r0)
theorem xi0i.u:∀ b,xi0i.un (xi0i.mk b)=b:=fun _ => by kernel_rfl
theorem xi0i.eq (v0 v1 v2) {b} (h:xi0i.t some v0 v1 v2=some b):xi0i v0 v1 v2=some b:=eqF xi0i.u Tryz.f90 (callT_le E tab) rfl rfl rfl (xi0i.t (rR xi0i.mk) v0 v1 v2) (by kernel_rfl) (by unfold xi0i.t; repeat' first | exact sR | exact sN | exact sL | apply sC | (apply sB; intro _)) h
def xi1p.t {γ:Type} (ret:(Bool)→Option γ) (v0:List Int) (v1:List Int) (v2:List Int):Option γ :=
 bif decide (Int.toNat (0:Int)<v0.length) then
 bif decide ((0:Int)≤v0.getD (Int.toNat (0:Int)) (0:Int)) then
 bif decide ((v0.getD (Int.toNat (0:Int)) (0:Int)).toNat<v1.length) then
 bif decide (Int.toNat (1:Int)<v0.length) then
 bif decide ((0:Int)≤v0.getD (Int.toNat (1:Int)) (0:Int)) then
 bif decide ((v0.getD (Int.toNat (1:Int)) (0:Int)).toNat<v2.length) then
 ret (v1.getD (v0.getD (Int.toNat (0:Int)) (0:Int)).toNat (0:Int) ==   v2.getD (v0.getD (Int.toNat (1:Int)) (0:Int)).toNat (0:Int))
 else
 none
 else
 none
 else
 none
 else
 none
 else
 none
 else
 none
theorem xi1p.u:∀ b,xi1p.un (xi1p.mk b)=b:=fun _ => by kernel_rfl
theorem xi1p.eq (v0 v1 v2) {b} (h:xi1p.t some v0 v1 v2=some b):xi1p v0 v1 v2=some b:=eqF xi1p.u Tryz.f76 (callT_le E tab) rfl rfl rfl (xi1p.t (rR xi1p.mk) v0 v1 v2) (by kernel_rfl) (by unfold xi1p.t; repeat' first | exact sR | exact sN | exact sL | apply sC | (apply sB; intro _)) h
def xi1r.s3 (v0:Zg) (v1:List Int) (v2:Int) (v3:Int):List Cell:=nn 1 (vc (.d .fro Yc v0)::nn 3 (vc (.d .deep (.sl (.int .i64)) v1)::nn 1 (vc (iL v2)::vc (iL v3)::nn 12 ([]))))
def xi1r.q3:=fun v0 v1 v2 v3 => loopAtL E (callT E tab) 31 Tryz.f31 2 [.r,.r,.l,.r,.b] (xi1r.s3 v0 v1 v2 v3)
def xi1r.l3:=fun v0 v1 v2 v3 => tOf xi1r.mk (xi1r.q3 v0 v1 v2 v3)
def xi1r.t {γ:Type} (ret:((List Int))→Option γ) (lp3:Zg→(List Int)→Int→Int→Option γ) (v0:Int) (v1:Zg):Option γ :=
 lp3 (v1) ([]) (v0) ((0:Int))
def xi1r.t3 {γ:Type} (ret:((List Int))→Option γ) (lp3:Zg→(List Int)→Int→Int→Option γ) (v0:Zg) (v1:List Int) (v2:Int) (v3:Int):Option γ :=
 bif decide (v3<v2) then
 (xs0c (v0) (v3)).bind fun (r0:Bool) =>
 bif !r0 then
 bif decide (v1.length+[v3].length≤(4294967296:Nat)) then
 lp3 (v0) (v1 ++ [v3]) (v2) (IntKind.i64.wrap (v3+(1:Int)))
 else
 none
 else
 lp3 (v0) (v1) (v2) (IntKind.i64.wrap (v3+(1:Int)))
 else
 ret (v1)
theorem xi1r.u:∀ b,xi1r.un (xi1r.mk b)=b:=fun _ => by kernel_rfl
theorem xi1r.eq (v0 v1) {b} (h:xi1r.t some xi1r.l3 v0 v1=some b):xi1r v0 v1=some b:=eqF xi1r.u Tryz.f31 (callT_le E tab) rfl rfl rfl (xi1r.t (rR xi1r.mk) xi1r.q3 v0 v1) (by kernel_rfl) (by unfold xi1r.t; repeat' first | exact sR | exact sN | exact sL | apply sC | (apply sB; intro _)) h
theorem xi1r.eq3 (v0 v1 v2 v3) {b} (h:xi1r.t3 some xi1r.l3 v0 v1 v2 v3=some b):xi1r.l3 v0 v1 v2 v3=some b:=eqL xi1r.u (xi1r.t3 (rR xi1r.mk) xi1r.q3 v0 v1 v2 v3) (by kernel_rfl) (by unfold xi1r.t3; repeat' first | exact sR | exact sN | exact sL | apply sC | (apply sB; intro _)) h
def xs0c.t {γ:Type} (ret:(Bool)→Option γ) (v0:Zg) (v1:Int):Option γ :=
 (xs0g (v0) (v1)).bind fun (r0:Int) =>
 ret (decide (r0 ≥ (0:Int)))
theorem xs0c.u:∀ b,xs0c.un (xs0c.mk b)=b:=fun _ => by kernel_rfl
theorem xs0c.eq (v0 v1) {b} (h:xs0c.t some v0 v1=some b):xs0c v0 v1=some b:=eqF xs0c.u Tryz.f60 (callT_le E tab) rfl rfl rfl (xs0c.t (rR xs0c.mk) v0 v1) (by kernel_rfl) (by unfold xs0c.t; repeat' first | exact sR | exact sN | exact sL | apply sC | (apply sB; intro _)) h
def xs0g.s2 (v0:Zg) (v1:Int) (v2:Int) (v3:Int):List Cell:=vc (.d .fro Yc v0)::vc (.fn 61 [.rp [iL v1] 0])::nn 5 (vc (iL v2)::vc (iL v3)::nn 10 ([]))
def xs0g.q2:=fun v0 v1 v2 v3 => loopAtL E (callT E tab) 82 Tryz.f82 2 [.r,.l,.r,.b] (xs0g.s2 v0 v1 v2 v3)
def xs0g.l2:=fun v0 v1 v2 v3 => tOf xs0g.mk (xs0g.q2 v0 v1 v2 v3)
def xs0g.t {γ:Type} (ret:(Int)→Option γ) (lp2:Zg→Int→Int→Int→Option γ) (v0:Zg) (v1:Int):Option γ :=
 lp2 (v0) (v1) ((↑v0.length:Int)) ((0:Int))
def xs0g.t2 {γ:Type} (ret:(Int)→Option γ) (lp2:Zg→Int→Int→Int→Option γ) (v0:Zg) (v1:Int) (v2:Int) (v3:Int):Option γ :=
 bif decide (v3<v2) then
 bif decide ((0:Int)≤v3) then
 bif decide (v3.toNat<v0.length) then
 (xi18 (v0.getD v3.toNat []) (v1)).bind fun (r0:Bool) =>
 bif r0 then
 ret (v3)
 else
 lp2 (v0) (v1) (v2) (IntKind.i64.wrap (v3+(1:Int)))
 else
 none
 else
 none
 else
 ret ((-1:Int))
theorem xs0g.u:∀ b,xs0g.un (xs0g.mk b)=b:=fun _ => by kernel_rfl
theorem xs0g.eq (v0 v1) {b} (h:xs0g.t some xs0g.l2 v0 v1=some b):xs0g v0 v1=some b:=eqF xs0g.u Tryz.f82 (callT_le E tab) rfl rfl rfl (xs0g.t (rR xs0g.mk) xs0g.q2 v0 v1) (by kernel_rfl) (by unfold xs0g.t; repeat' first | exact sR | exact sN | exact sL | apply sC | (apply sB; intro _)) h
theorem xs0g.eq2 (v0 v1 v2 v3) {b} (h:xs0g.t2 some xs0g.l2 v0 v1 v2 v3=some b):xs0g.l2 v0 v1 v2 v3=some b:=eqL xs0g.u (xs0g.t2 (rR xs0g.mk) xs0g.q2 v0 v1 v2 v3) (by kernel_rfl) (by unfold xs0g.t2; repeat' first | exact sR | exact sN | exact sL | apply sC | (apply sB; intro _)) h
def xi18.t {γ:Type} (ret:(Bool)→Option γ) (v0:List Int) (v1:Int):Option γ :=
 bif decide (Int.toNat (1:Int)<v0.length) then
 ret (v0.getD (Int.toNat (1:Int)) (0:Int) == v1)
 else
 none
theorem xi18.u:∀ b,xi18.un (xi18.mk b)=b:=fun _ => by kernel_rfl
theorem xi18.eq (v0 v1) {b} (h:xi18.t some v0 v1=some b):xi18 v0 v1=some b:=eqF xi18.u Tryz.f61 (callT_le E tab) rfl rfl rfl (xi18.t (rR xi18.mk) v0 v1) (by kernel_rfl) (by unfold xi18.t; repeat' first | exact sR | exact sN | exact sL | apply sC | (apply sB; intro _)) h
def xi16.s3 (v0:List Int) (v1:List Int) (v2:List Int) (v3:List Int) (v4:Int) (v5:Int):List Cell:=nn 2 (⟨(.box false),[.d .fro (.sl (.int .i64)) v0],false,false,false,0,0⟩::nn 1 (⟨(.box false),[.d .deep (.sl (.int .i64)) v1],false,false,false,0,0⟩::⟨(.box false),[.d .deep (.sl (.int .i64)) v2],false,false,false,0,0⟩::nn 2 (vc (.d .fro (.sl (.int .i64)) v3)::vc (iL v4)::vc (iL v5)::nn 15 ([]))))
def xi16.q3:=fun v0 v1 v2 v3 v4 v5 => loopAtL E (callT E tab) 62 Tryz.f62 2 [.r,.r,.l,.r,.b] (xi16.s3 v0 v1 v2 v3 v4 v5)
def xi16.l3:=fun v0 v1 v2 v3 v4 v5 => tOf xi16.mk (xi16.q3 v0 v1 v2 v3 v4 v5)
def xi16.t {γ:Type} (ret:((List Int))→Option γ) (lp3:(List Int)→(List Int)→(List Int)→(List Int)→Int→Int→Option γ) (v0:List Int) (v1:List Int):Option γ :=
 lp3 (v0) ([]) ([]) (v1) ((↑v1.length:Int)) ((0:Int))
def xi16.t3 {γ:Type} (ret:((List Int))→Option γ) (lp3:(List Int)→(List Int)→(List Int)→(List Int)→Int→Int→Option γ) (v0:List Int) (v1:List Int) (v2:List Int) (v3:List Int) (v4:Int) (v5:Int):Option γ :=
 bif decide (v5<v4) then
 bif decide ((0:Int)≤v5) then
 bif decide (v5.toNat<v3.length) then
 bif decide ((0:Int)≤v3.getD v5.toNat (0:Int)) then
 bif decide ((v3.getD v5.toNat (0:Int)).toNat<v0.length) then
 bif decide (v2.length+[v0.getD (v3.getD v5.toNat (0:Int)).toNat (0:Int)].length≤(4294967296:Nat)) then
 lp3 (v0) (v1) (v2 ++ [v0.getD (v3.getD v5.toNat (0:Int)).toNat (0:Int)]) (v3) (v4) (IntKind.i64.wrap (v5+(1:Int)))
 else
 none
 else
 none
 else
 none
 else
 none
 else
 none
 else
 ret (v2)
theorem xi16.u:∀ b,xi16.un (xi16.mk b)=b:=fun _ => by kernel_rfl
theorem xi16.eq (v0 v1) {b} (h:xi16.t some xi16.l3 v0 v1=some b):xi16 v0 v1=some b:=eqF xi16.u Tryz.f62 (callT_le E tab) rfl rfl rfl (xi16.t (rR xi16.mk) xi16.q3 v0 v1) (by kernel_rfl) (by unfold xi16.t; repeat' first | exact sR | exact sN | exact sL | apply sC | (apply sB; intro _)) h
theorem xi16.eq3 (v0 v1 v2 v3 v4 v5) {b} (h:xi16.t3 some xi16.l3 v0 v1 v2 v3 v4 v5=some b):xi16.l3 v0 v1 v2 v3 v4 v5=some b:=eqL xi16.u (xi16.t3 (rR xi16.mk) xi16.q3 v0 v1 v2 v3 v4 v5) (by kernel_rfl) (by unfold xi16.t3; repeat' first | exact sR | exact sN | exact sL | apply sC | (apply sB; intro _)) h
def xs0q.s11 (v0:List Int) (v1:Zg) (v2:Int) (v3:Int):List Cell:=nn 6 (vc (.d .deep (.sl (.int .i64)) v0)::nn 18 (vc (.d .fro Yc v1)::vc (iL v2)::vc (iL v3)::nn 8 ([])))
def xs0q.q11:=fun v0 v1 v2 v3 => loopAtL E (callT E tab) 77 Tryz.f77 1 [.r,.r,.r,.r,.l,.r,.b] (xs0q.s11 v0 v1 v2 v3)
def xs0q.l11:=fun v0 v1 v2 v3 => tOf xs0q.mk (xs0q.q11 v0 v1 v2 v3)
def xs0q.s3 (v0:Zg) (v1:Int) (v2:Zg) (v3:Int) (v4:Int):List Cell:=vc (.d .fro Yc v0)::nn 2 (vc (iL v1)::nn 5 (vc (.d .fro Yc v2)::vc (iL v3)::vc (iL v4)::nn 24 ([])))
def xs0q.q3:=fun v0 v1 v2 v3 v4 => loopAtL E (callT E tab) 77 Tryz.f77 1 [.r,.r,.l,.r,.b] (xs0q.s3 v0 v1 v2 v3 v4)
def xs0q.l3:=fun v0 v1 v2 v3 v4 => tOf xs0q.mk (xs0q.q3 v0 v1 v2 v3 v4)
def xs0q.t {γ:Type} (ret:((List Int))→Option γ) (lp3:Zg→Int→Zg→Int→Int→Option γ) (v0:Zg):Option γ :=
 lp3 (v0) ((0:Int)) (v0) ((↑v0.length:Int)) ((0:Int))
def xs0q.t11 {γ:Type} (ret:((List Int))→Option γ) (lp11:(List Int)→Zg→Int→Int→Option γ) (v0:List Int) (v1:Zg) (v2:Int) (v3:Int):Option γ :=
 bif decide (v3<v2) then
 bif decide ((0:Int)≤v3) then
 bif decide (v3.toNat<v1.length) then
 bif decide (v0.length+(v1.getD v3.toNat []).length≤(4294967296:Nat)) then
 lp11 (v0 ++ v1.getD v3.toNat []) (v1) (v2) (IntKind.i64.wrap (v3+(1:Int)))
 else
 none
 else
 none
 else
 none
 else
 ret (v0)
def xs0q.t3 {γ:Type} (ret:((List Int))→Option γ) (lp11:(List Int)→Zg→Int→Int→Option γ) (lp3:Zg→Int→Zg→Int→Int→Option γ) (v0:Zg) (v1:Int) (v2:Zg) (v3:Int) (v4:Int):Option γ :=
 bif decide (v4<v3) then
 bif decide ((0:Int)≤v4) then
 bif decide (v4.toNat<v2.length) then
 bif decide (IntKind.i64.wrap (v1+(↑(v2.getD v4.toNat []).length:Int))<(0:Int)) then
 none
 else
 lp3 (v0) (IntKind.i64.wrap (v1+(↑(v2.getD v4.toNat []).length:Int))) (v2) (v3) (IntKind.i64.wrap (v4+(1:Int)))
 else
 none
 else
 none
 else
 (xs0m (v1)).bind fun (r0:(List Int)) =>
 lp11 (r0) (v0) ((↑v0.length:Int)) ((0:Int))
theorem xs0q.u:∀ b,xs0q.un (xs0q.mk b)=b:=fun _ => by kernel_rfl
theorem xs0q.eq (v0) {b} (h:xs0q.t some xs0q.l3 v0=some b):xs0q v0=some b:=eqF xs0q.u Tryz.f77 (callT_le E tab) rfl rfl rfl (xs0q.t (rR xs0q.mk) xs0q.q3 v0) (by kernel_rfl) (by unfold xs0q.t; repeat' first | exact sR | exact sN | exact sL | apply sC | (apply sB; intro _)) h
theorem xs0q.eq11 (v0 v1 v2 v3) {b} (h:xs0q.t11 some xs0q.l11 v0 v1 v2 v3=some b):xs0q.l11 v0 v1 v2 v3=some b:=eqL xs0q.u (xs0q.t11 (rR xs0q.mk) xs0q.q11 v0 v1 v2 v3) (by kernel_rfl) (by unfold xs0q.t11; repeat' first | exact sR | exact sN | exact sL | apply sC | (apply sB; intro _)) h
theorem xs0q.eq3 (v0 v1 v2 v3 v4) {b} (h:xs0q.t3 some xs0q.l11 xs0q.l3 v0 v1 v2 v3 v4=some b):xs0q.l3 v0 v1 v2 v3 v4=some b:=eqL xs0q.u (xs0q.t3 (rR xs0q.mk) xs0q.q11 xs0q.q3 v0 v1 v2 v3 v4) (by kernel_rfl) (by unfold xs0q.t3; repeat' first | exact sR | exact sN | exact sL | apply sC | (apply sB; intro _)) h
def xs0m.t {γ:Type} (ret:((List Int))→Option γ) (v0:Int):Option γ :=
 bif decide (v0<(0:Int)) then
 none
 else
 bif decide (IntKind.i64.wrap (v0 - IntKind.i64.wrap ((0:Int) - (0:Int))) > (0:Int)) then
 bif decide ((1:Int)≤IntKind.i64.wrap (v0 - IntKind.i64.wrap ((0:Int) - (0:Int)))) then
 bif decide (IntKind.i64.wrap (v0 - IntKind.i64.wrap ((0:Int) - (0:Int)))≤(↑(4294967296:Nat):Int)) then
 ret (List.take ((0:Int) - Option.none.getD (0:Int)).toNat   (List.drop (Option.none.getD (0:Int)).toNat     (List.replicate (IntKind.i64.wrap (v0 - IntKind.i64.wrap ((0:Int) - (0:Int)))).toNat (0:Int))))
 else
 none
 else
 none
 else
 ret ([])
theorem xs0m.u:∀ b,xs0m.un (xs0m.mk b)=b:=fun _ => by kernel_rfl
theorem xs0m.eq (v0) {b} (h:xs0m.t some v0=some b):xs0m v0=some b:=eqF xs0m.u Tryz.f91 (callT_le E tab) rfl rfl rfl (xs0m.t (rR xs0m.mk) v0) (by kernel_rfl) (by unfold xs0m.t; repeat' first | exact sR | exact sN | exact sL | apply sC | (apply sB; intro _)) h
def xi0w.t {γ:Type} (ret:(Int)→Option γ) (v0:Int) (v1:Int) (v2:Zg):Option γ :=
 (xi1r (v1) (v2)).bind fun (r0:(List Int)) =>
 ret (IntKind.i64.wrap (v0+(↑r0.length:Int)))
theorem xi0w.u:∀ b,xi0w.un (xi0w.mk b)=b:=fun _ => by kernel_rfl
theorem xi0w.eq (v0 v1 v2) {b} (h:xi0w.t some v0 v1 v2=some b):xi0w v0 v1 v2=some b:=eqF xi0w.u Tryz.f59 (callT_le E tab) rfl rfl rfl (xi0w.t (rR xi0w.mk) v0 v1 v2) (by kernel_rfl) (by unfold xi0w.t; repeat' first | exact sR | exact sN | exact sL | apply sC | (apply sB; intro _)) h
def xi2f.s7 (v0:Int) (v1:Zd) (v2:Int) (v3:Zd) (v4:Zd) (v5:Int) (v6:Int) (v7:Int):List Cell:=nn 4 (⟨(.box false),[iL v0,.d .deep Yb v1],false,false,false,0,0⟩::⟨(.box false),[iL v2,.d .deep Yb v3],false,false,false,0,0⟩::vc (.d .sha Yb v4)::vc (iL v5)::vc (iL v6)::vc (iL v7)::nn 55 ([]))
def xi2f.q7:=fun v0 v1 v2 v3 v4 v5 v6 v7 => loopAtL E (callT E tab) 58 Tryz.f58 2 [.r,.r,.r,.r,.l,.r,.b,.o,.r,.b,.r,.l,.b] (xi2f.s7 v0 v1 v2 v3 v4 v5 v6 v7)
def xi2f.l7:=fun v0 v1 v2 v3 v4 v5 v6 v7 => tOf xi2f.mk (xi2f.q7 v0 v1 v2 v3 v4 v5 v6 v7)
def xi2f.s5 (v0:Int) (v1:Zd) (v2:Int) (v3:Zd) (v4:Zd) (v5:Int):List Cell:=nn 4 (⟨(.box false),[iL v0,.d .deep Yb v1],false,false,false,0,0⟩::⟨(.box false),[iL v2,.d .deep Yb v3],false,false,false,0,0⟩::vc (.d .sha Yb v4)::vc (iL v5)::nn 57 ([]))
def xi2f.q5:=fun v0 v1 v2 v3 v4 v5 => loopAtL E (callT E tab) 58 Tryz.f58 2 [.r,.r,.r,.r,.l,.r,.b] (xi2f.s5 v0 v1 v2 v3 v4 v5)
def xi2f.l5:=fun v0 v1 v2 v3 v4 v5 => tOf xi2f.mk (xi2f.q5 v0 v1 v2 v3 v4 v5)
def xi2f.t {γ:Type} (ret:(Int × Zd)→Option γ) (lp5:Int→Zd→Int→Zd→Zd→Int→Option γ) (v0:Int) (v1:List Zd):Option γ :=
 (xs0f (v1)).bind fun (r0:Zd) =>
 (xs02 (r0)).bind fun (r1:Zd) =>
 lp5 ((0:Int)) ([]) (v0) ([]) (r1) ((0:Int))
def xi2f.t7 {γ:Type} (ret:(Int × Zd)→Option γ) (lp7:Int→Zd→Int→Zd→Zd→Int→Int→Int→Option γ) (lp5:Int→Zd→Int→Zd→Zd→Int→Option γ) (v0:Int) (v1:Zd) (v2:Int) (v3:Zd) (v4:Zd) (v5:Int) (v6:Int) (v7:Int):Option γ :=
 bif decide (v7<(↑v4.length:Int)) then
 bif decide ((0:Int)≤v7) then
 bif decide (v7.toNat<v4.length) then
 bif decide (v7.toNat<v4.length) then
 bif decide ((0:Int)≤v5) then
 bif decide (v5.toNat<v4.length) then
 bif decide (v5.toNat<v4.length) then
 (xi11 ((v4.getD v7.toNat ([],(0:Int))).fst) ((v4.getD v5.toNat ([],(0:Int))).fst)).bind fun (r2:Int) =>
 bif r2 == (0:Int) then
 bif decide ((0:Int)≤v7) then
 bif decide (v7.toNat<v4.length) then
 bif decide (v7.toNat<v4.length) then
 lp7 (v0) (v1) (v2) (v3) (v4) (v5) (IntKind.i64.wrap (v6+(v4.getD v7.toNat ([],(0:Int))).snd)) (IntKind.i64.wrap (v7+(1:Int)))
 else
 none
 else
 none
 else
 none
 else
 bif v6 != (0:Int) then
 bif decide ((0:Int)≤v5) then
 bif decide (v5.toNat<v4.length) then
 bif decide (v5.toNat<v4.length) then
 (xi1z ((v4.getD v5.toNat ([],(0:Int))).fst)).bind fun (r3:(List Int)) =>
 bif decide (v3.length+[(r3,v6)].length≤(4294967296:Nat)) then
 lp5 (v0) (v1) (v2) (v3 ++ [(r3,v6)]) (v4) (v7)
 else
 none
 else
 none
 else
 none
 else
 none
 else
 lp5 (v0) (v1) (v2) (v3) (v4) (v7)
 else
 none
 else
 none
 else
 none
 else
 none
 else
 none
 else
 none
 else
 bif v6 != (0:Int) then
 bif decide ((0:Int)≤v5) then
 bif decide (v5.toNat<v4.length) then
 bif decide (v5.toNat<v4.length) then
 (xi1z ((v4.getD v5.toNat ([],(0:Int))).fst)).bind fun (r4:(List Int)) =>
 bif decide (v3.length+[(r4,v6)].length≤(4294967296:Nat)) then
 lp5 (v0) (v1) (v2) (v3 ++ [(r4,v6)]) (v4) (v7)
 else
 none
 else
 none
 else
 none
 else
 none
 else
 lp5 (v0) (v1) (v2) (v3) (v4) (v7)
def xi2f.t5 {γ:Type} (ret:(Int × Zd)→Option γ) (lp7:Int→Zd→Int→Zd→Zd→Int→Int→Int→Option γ) (v0:Int) (v1:Zd) (v2:Int) (v3:Zd) (v4:Zd) (v5:Int):Option γ :=
 bif decide (v5<(↑v4.length:Int)) then
 lp7 (v0) (v1) (v2) (v3) (v4) (v5) ((0:Int)) (v5)
 else
 ret (v2,v3)
theorem xi2f.u:∀ b,xi2f.un (xi2f.mk b)=b:=fun _ => by kernel_rfl
theorem xi2f.eq (v0 v1) {b} (h:xi2f.t some xi2f.l5 v0 v1=some b):xi2f v0 v1=some b:=eqF xi2f.u Tryz.f58 (callT_le E tab) rfl rfl rfl (xi2f.t (rR xi2f.mk) xi2f.q5 v0 v1) (by kernel_rfl) (by unfold xi2f.t; repeat' first | exact sR | exact sN | exact sL | apply sC | (apply sB; intro _)) h
theorem xi2f.eq7 (v0 v1 v2 v3 v4 v5 v6 v7) {b} (h:xi2f.t7 some xi2f.l7 xi2f.l5 v0 v1 v2 v3 v4 v5 v6 v7=some b):xi2f.l7 v0 v1 v2 v3 v4 v5 v6 v7=some b:=eqL xi2f.u (xi2f.t7 (rR xi2f.mk) xi2f.q7 xi2f.q5 v0 v1 v2 v3 v4 v5 v6 v7) (by kernel_rfl) (by unfold xi2f.t7; repeat' first | exact sR | exact sN | exact sL | apply sC | (apply sB; intro _)) h
theorem xi2f.eq5 (v0 v1 v2 v3 v4 v5) {b} (h:xi2f.t5 some xi2f.l7 v0 v1 v2 v3 v4 v5=some b):xi2f.l5 v0 v1 v2 v3 v4 v5=some b:=eqL xi2f.u (xi2f.t5 (rR xi2f.mk) xi2f.q7 v0 v1 v2 v3 v4 v5) (by kernel_rfl) (by unfold xi2f.t5; repeat' first | exact sR | exact sN | exact sL | apply sC | (apply sB; intro _)) h
def xs0f.s11 (v0:Zd) (v1:List Zd) (v2:Int) (v3:Int):List Cell:=nn 6 (vc (.d .sha Yb v0)::nn 18 (vc (.d .fro (.sl Yb) v1)::vc (iL v2)::vc (iL v3)::nn 8 ([])))
def xs0f.q11:=fun v0 v1 v2 v3 => loopAtL E (callT E tab) 78 Tryz.f78 1 [.r,.r,.r,.r,.l,.r,.b] (xs0f.s11 v0 v1 v2 v3)
def xs0f.l11:=fun v0 v1 v2 v3 => tOf xs0f.mk (xs0f.q11 v0 v1 v2 v3)
def xs0f.s3 (v0:List Zd) (v1:Int) (v2:List Zd) (v3:Int) (v4:Int):List Cell:=vc (.d .fro (.sl Yb) v0)::nn 2 (vc (iL v1)::nn 5 (vc (.d .fro (.sl Yb) v2)::vc (iL v3)::vc (iL v4)::nn 24 ([])))
def xs0f.q3:=fun v0 v1 v2 v3 v4 => loopAtL E (callT E tab) 78 Tryz.f78 1 [.r,.r,.l,.r,.b] (xs0f.s3 v0 v1 v2 v3 v4)
def xs0f.l3:=fun v0 v1 v2 v3 v4 => tOf xs0f.mk (xs0f.q3 v0 v1 v2 v3 v4)
def xs0f.t {γ:Type} (ret:(Zd)→Option γ) (lp3:(List Zd)→Int→(List Zd)→Int→Int→Option γ) (v0:List Zd):Option γ :=
 lp3 (v0) ((0:Int)) (v0) ((↑v0.length:Int)) ((0:Int))
def xs0f.t11 {γ:Type} (ret:(Zd)→Option γ) (lp11:Zd→(List Zd)→Int→Int→Option γ) (v0:Zd) (v1:List Zd) (v2:Int) (v3:Int):Option γ :=
 bif decide (v3<v2) then
 bif decide ((0:Int)≤v3) then
 bif decide (v3.toNat<v1.length) then
 bif decide (v0.length+(v1.getD v3.toNat []).length≤(4294967296:Nat)) then
 lp11 (v0 ++ v1.getD v3.toNat []) (v1) (v2) (IntKind.i64.wrap (v3+(1:Int)))
 else
 none
 else
 none
 else
 none
 else
 ret (v0)
def xs0f.t3 {γ:Type} (ret:(Zd)→Option γ) (lp11:Zd→(List Zd)→Int→Int→Option γ) (lp3:(List Zd)→Int→(List Zd)→Int→Int→Option γ) (v0:List Zd) (v1:Int) (v2:List Zd) (v3:Int) (v4:Int):Option γ :=
 bif decide (v4<v3) then
 bif decide ((0:Int)≤v4) then
 bif decide (v4.toNat<v2.length) then
 bif decide (IntKind.i64.wrap (v1+(↑(v2.getD v4.toNat []).length:Int))<(0:Int)) then
 none
 else
 lp3 (v0) (IntKind.i64.wrap (v1+(↑(v2.getD v4.toNat []).length:Int))) (v2) (v3) (IntKind.i64.wrap (v4+(1:Int)))
 else
 none
 else
 none
 else
 (xs0d (v1)).bind fun (r0:Zd) =>
 lp11 (r0) (v0) ((↑v0.length:Int)) ((0:Int))
theorem xs0f.u:∀ b,xs0f.un (xs0f.mk b)=b:=fun _ => by kernel_rfl
theorem xs0f.eq (v0) {b} (h:xs0f.t some xs0f.l3 v0=some b):xs0f v0=some b:=eqF xs0f.u Tryz.f78 (callT_le E tab) rfl rfl rfl (xs0f.t (rR xs0f.mk) xs0f.q3 v0) (by kernel_rfl) (by unfold xs0f.t; repeat' first | exact sR | exact sN | exact sL | apply sC | (apply sB; intro _)) h
theorem xs0f.eq11 (v0 v1 v2 v3) {b} (h:xs0f.t11 some xs0f.l11 v0 v1 v2 v3=some b):xs0f.l11 v0 v1 v2 v3=some b:=eqL xs0f.u (xs0f.t11 (rR xs0f.mk) xs0f.q11 v0 v1 v2 v3) (by kernel_rfl) (by unfold xs0f.t11; repeat' first | exact sR | exact sN | exact sL | apply sC | (apply sB; intro _)) h
theorem xs0f.eq3 (v0 v1 v2 v3 v4) {b} (h:xs0f.t3 some xs0f.l11 xs0f.l3 v0 v1 v2 v3 v4=some b):xs0f.l3 v0 v1 v2 v3 v4=some b:=eqL xs0f.u (xs0f.t3 (rR xs0f.mk) xs0f.q11 xs0f.q3 v0 v1 v2 v3 v4) (by kernel_rfl) (by unfold xs0f.t3; repeat' first | exact sR | exact sN | exact sL | apply sC | (apply sB; intro _)) h
def xs0d.t {γ:Type} (ret:(Zd)→Option γ) (v0:Int):Option γ :=
 bif decide (v0<(0:Int)) then
 none
 else
 bif decide (IntKind.i64.wrap (v0 - IntKind.i64.wrap ((0:Int) - (0:Int))) > (0:Int)) then
 bif decide ((1:Int)≤IntKind.i64.wrap (v0 - IntKind.i64.wrap ((0:Int) - (0:Int)))) then
 bif decide (IntKind.i64.wrap (v0 - IntKind.i64.wrap ((0:Int) - (0:Int)))≤(↑(4294967296:Nat):Int)) then
 ret (List.take ((0:Int) - Option.none.getD (0:Int)).toNat   (List.drop (Option.none.getD (0:Int)).toNat     (List.replicate (IntKind.i64.wrap (v0 - IntKind.i64.wrap ((0:Int) - (0:Int)))).toNat ([],(0:Int)))))
 else
 none
 else
 none
 else
 ret ([])
theorem xs0d.u:∀ b,xs0d.un (xs0d.mk b)=b:=fun _ => by kernel_rfl
theorem xs0d.eq (v0) {b} (h:xs0d.t some v0=some b):xs0d v0=some b:=eqF xs0d.u Tryz.f92 (callT_le E tab) rfl rfl rfl (xs0d.t (rR xs0d.mk) v0) (by kernel_rfl) (by unfold xs0d.t; repeat' first | exact sR | exact sN | exact sL | apply sC | (apply sB; intro _)) h
def xs02.t {γ:Type} (ret:(Zd)→Option γ) (v0:Zd):Option γ :=
 (xs0b (v0) ((↑v0.length:Int))).bind fun (r0:Zd) =>
 ret (r0)
theorem xs02.u:∀ b,xs02.un (xs02.mk b)=b:=fun _ => by kernel_rfl
theorem xs02.eq (v0) {b} (h:xs02.t some v0=some b):xs02 v0=some b:=eqF xs02.u Tryz.f79 (callT_le E tab) rfl rfl rfl (xs02.t (rR xs02.mk) v0) (by kernel_rfl) (by unfold xs02.t; repeat' first | exact sR | exact sN | exact sL | apply sC | (apply sB; intro _)) h
def xs0b.s9 (v0:Zd) (v1:Int) (v2:Int) (v3:Int) (v4:Int):List Cell:=⟨(.val .one),[.d .sha Yb v0],true,false,false,0,0⟩::vc (iL v1)::vc (.fn 80 [])::nn 3 (vc (iL v2)::vc (iL v3)::vc (iL v4)::nn 54 ([]))
def xs0b.q9:=fun v0 v1 v2 v3 v4 => loopAtL E (callT E tab) 93 Tryz.f93 3 [.r,.r,.r,.r,.b,.o,.r,.b,.r,.l,.b] (xs0b.s9 v0 v1 v2 v3 v4)
def xs0b.l9:=fun v0 v1 v2 v3 v4 => tOf xs0b.mk (xs0b.q9 v0 v1 v2 v3 v4)
def xs0b.s7 (v0:Zd) (v1:Int) (v2:Int):List Cell:=⟨(.val .one),[.d .sha Yb v0],true,false,false,0,0⟩::vc (iL v1)::vc (.fn 80 [])::nn 3 (vc (iL v2)::nn 56 ([]))
def xs0b.q7:=fun v0 v1 v2 => loopAtL E (callT E tab) 93 Tryz.f93 3 [.r,.r,.r,.r,.b] (xs0b.s7 v0 v1 v2)
def xs0b.l7:=fun v0 v1 v2 => tOf xs0b.mk (xs0b.q7 v0 v1 v2)
def xs0b.s2 (v0:Zd) (v1:Int) (v2:Int) (v3:Int) (v4:Int):List Cell:=⟨(.val .one),[.d .sha Yb v0],true,false,false,0,0⟩::vc (iL v1)::vc (.fn 80 [])::nn 3 (vc (iL v2)::vc (iL v3)::vc (iL v4)::nn 54 ([]))
def xs0b.q2:=fun v0 v1 v2 v3 v4 => loopAtL E (callT E tab) 93 Tryz.f93 3 [.r,.r,.l,.b] (xs0b.s2 v0 v1 v2 v3 v4)
def xs0b.l2:=fun v0 v1 v2 v3 v4 => tOf xs0b.mk (xs0b.q2 v0 v1 v2 v3 v4)
def xs0b.t {γ:Type} (ret:(Zd)→Option γ) (lp2:Zd→Int→Int→Int→Int→Option γ) (v0:Zd) (v1:Int):Option γ :=
 lp2 (v0) (v1) ((20:Int)) ((0:Int)) ((20:Int))
def xs0b.t9 {γ:Type} (ret:(Zd)→Option γ) (lp9:Zd→Int→Int→Int→Int→Option γ) (lp7:Zd→Int→Int→Option γ) (v0:Zd) (v1:Int) (v2:Int) (v3:Int) (v4:Int):Option γ :=
 bif decide (v4≤v1) then
 (xs09 (v0) (v3) (IntKind.i64.wrap (v3+v2)) (v4)).bind fun (r2:Zd) =>
 lp9 (r2) (v1) (v2) (v4) (IntKind.i64.wrap (v4+IntKind.i64.wrap ((2:Int) * v2)))
 else
 bif decide (IntKind.i64.wrap (v3+v2)<v1) then
 (xs09 (v0) (v3) (IntKind.i64.wrap (v3+v2)) (v1)).bind fun (r3:Zd) =>
 lp7 (r3) (v1) (IntKind.i64.wrap (v2 * (2:Int)))
 else
 lp7 (v0) (v1) (IntKind.i64.wrap (v2 * (2:Int)))
def xs0b.t7 {γ:Type} (ret:(Zd)→Option γ) (lp9:Zd→Int→Int→Int→Int→Option γ) (v0:Zd) (v1:Int) (v2:Int):Option γ :=
 bif decide (v2<v1) then
 lp9 (v0) (v1) (v2) ((0:Int)) (IntKind.i64.wrap ((2:Int) * v2))
 else
 ret (v0)
def xs0b.t2 {γ:Type} (ret:(Zd)→Option γ) (lp7:Zd→Int→Int→Option γ) (lp2:Zd→Int→Int→Int→Int→Option γ) (v0:Zd) (v1:Int) (v2:Int) (v3:Int) (v4:Int):Option γ :=
 bif decide (v4≤v1) then
 (xs04 (v0) (v3) (v4)).bind fun (r0:Zd) =>
 lp2 (r0) (v1) (v2) (v4) (IntKind.i64.wrap (v4+v2))
 else
 (xs04 (v0) (v3) (v1)).bind fun (r1:Zd) =>
 lp7 (r1) (v1) (v2)
theorem xs0b.u:∀ b,xs0b.un (xs0b.mk b)=b:=fun _ => by kernel_rfl
theorem xs0b.eq (v0 v1) {b} (h:xs0b.t some xs0b.l2 v0 v1=some b):xs0b v0 v1=some b:=eqF xs0b.u Tryz.f93 (callT_le E tab) rfl rfl rfl (xs0b.t (rR xs0b.mk) xs0b.q2 v0 v1) (by kernel_rfl) (by unfold xs0b.t; repeat' first | exact sR | exact sN | exact sL | apply sC | (apply sB; intro _)) h
theorem xs0b.eq9 (v0 v1 v2 v3 v4) {b} (h:xs0b.t9 some xs0b.l9 xs0b.l7 v0 v1 v2 v3 v4=some b):xs0b.l9 v0 v1 v2 v3 v4=some b:=eqL xs0b.u (xs0b.t9 (rR xs0b.mk) xs0b.q9 xs0b.q7 v0 v1 v2 v3 v4) (by kernel_rfl) (by unfold xs0b.t9; repeat' first | exact sR | exact sN | exact sL | apply sC | (apply sB; intro _)) h
theorem xs0b.eq7 (v0 v1 v2) {b} (h:xs0b.t7 some xs0b.l9 v0 v1 v2=some b):xs0b.l7 v0 v1 v2=some b:=eqL xs0b.u (xs0b.t7 (rR xs0b.mk) xs0b.q9 v0 v1 v2) (by kernel_rfl) (by unfold xs0b.t7; repeat' first | exact sR | exact sN | exact sL | apply sC | (apply sB; intro _)) h
theorem xs0b.eq2 (v0 v1 v2 v3 v4) {b} (h:xs0b.t2 some xs0b.l7 xs0b.l2 v0 v1 v2 v3 v4=some b):xs0b.l2 v0 v1 v2 v3 v4=some b:=eqL xs0b.u (xs0b.t2 (rR xs0b.mk) xs0b.q7 xs0b.q2 v0 v1 v2 v3 v4) (by kernel_rfl) (by unfold xs0b.t2; repeat' first | exact sR | exact sN | exact sL | apply sC | (apply sB; intro _)) h
end
end GoV

/- Equations of the program's functions (printed by wip/tools/emit.py). -/
namespace GoV
open Go Go.Proofs
set_option maxRecDepth 100000
noncomputable section

def xs04.s4 (v0:Zd) (v1:Int) (v2:Int) (v3:Int) (v4:Int):List Cell:=⟨(.val .one),[.d .sha Yb v0],true,false,false,0,0⟩::vc (iL v1)::vc (iL v2)::vc (.fn 80 [])::nn 4 (vc (iL v3)::vc (iL v4)::nn 43 ([]))
def xs04.q4:=fun v0 v1 v2 v3 v4 => loopAtL E (callT E tab) 97 Tryz.f97 4 [.r,.b,.o,.r,.l,.b,.r,.b] (xs04.s4 v0 v1 v2 v3 v4)
def xs04.l4:=fun v0 v1 v2 v3 v4 => tOf xs04.mk (xs04.q4 v0 v1 v2 v3 v4)
def xs04.s1 (v0:Zd) (v1:Int) (v2:Int) (v3:Int):List Cell:=⟨(.val .one),[.d .sha Yb v0],true,false,false,0,0⟩::vc (iL v1)::vc (iL v2)::vc (.fn 80 [])::nn 4 (vc (iL v3)::nn 44 ([]))
def xs04.q1:=fun v0 v1 v2 v3 => loopAtL E (callT E tab) 97 Tryz.f97 4 [.r,.b] (xs04.s1 v0 v1 v2 v3)
def xs04.l1:=fun v0 v1 v2 v3 => tOf xs04.mk (xs04.q1 v0 v1 v2 v3)
def xs04.t {γ:Type} (ret:(Zd)→Option γ) (lp1:Zd→Int→Int→Int→Option γ) (v0:Zd) (v1:Int) (v2:Int):Option γ :=
 lp1 (v0) (v1) (v2) (IntKind.i64.wrap (v1+(1:Int)))
def xs04.t4 {γ:Type} (ret:(Zd)→Option γ) (lp4:Zd→Int→Int→Int→Int→Option γ) (lp1:Zd→Int→Int→Int→Option γ) (v0:Zd) (v1:Int) (v2:Int) (v3:Int) (v4:Int):Option γ :=
 bif decide (v4 > v1) then
 bif decide ((0:Int)≤v4) then
 bif decide (v4.toNat<v0.length) then
 bif decide (v4.toNat<v0.length) then
 bif decide ((0:Int)≤IntKind.i64.wrap (v4 - (1:Int))) then
 bif decide ((IntKind.i64.wrap (v4 - (1:Int))).toNat<v0.length) then
 bif decide ((IntKind.i64.wrap (v4 - (1:Int))).toNat<v0.length) then
 (xi1q ((v0.getD v4.toNat ([],(0:Int))).fst) ((v0.getD v4.toNat ([],(0:Int))).snd) ((v0.getD (IntKind.i64.wrap (v4 - (1:Int))).toNat ([],(0:Int))).fst) ((v0.getD (IntKind.i64.wrap (v4 - (1:Int))).toNat ([],(0:Int))).snd)).bind fun (r0:Int) =>
 bif decide (r0<(0:Int)) then
 bif decide ((0:Int)≤IntKind.i64.wrap (v4 - (1:Int))) then
 bif decide ((IntKind.i64.wrap (v4 - (1:Int))).toNat<v0.length) then
 bif decide ((IntKind.i64.wrap (v4 - (1:Int))).toNat<v0.length) then
 bif decide ((0:Int)≤v4) then
 bif decide (v4.toNat<v0.length) then
 bif decide (v4.toNat<v0.length) then
 bif decide ((0:Int)≤v4) then
 bif decide (v4.toNat<v0.length) then
 bif decide (v4.toNat<v0.length) then
 bif decide ((0:Int)≤IntKind.i64.wrap (v4 - (1:Int))) then
 bif decide   ((IntKind.i64.wrap (v4 - (1:Int))).toNat<    (v0.set v4.toNat         ((v0.getD (IntKind.i64.wrap (v4 - (1:Int))).toNat ([],(0:Int))).fst,          (v0.getD (IntKind.i64.wrap (v4 - (1:Int))).toNat ([],(0:Int))).snd)).length) then
 bif decide   ((IntKind.i64.wrap (v4 - (1:Int))).toNat<    (v0.set v4.toNat         ((v0.getD (IntKind.i64.wrap (v4 - (1:Int))).toNat ([],(0:Int))).fst,          (v0.getD (IntKind.i64.wrap (v4 - (1:Int))).toNat ([],(0:Int))).snd)).length) then
 lp4 ((v0.set v4.toNat       ((v0.getD (IntKind.i64.wrap (v4 - (1:Int))).toNat ([],(0:Int))).fst,        (v0.getD (IntKind.i64.wrap (v4 - (1:Int))).toNat ([],(0:Int))).snd)).set   (IntKind.i64.wrap (v4 - (1:Int))).toNat   ((v0.getD v4.toNat ([],(0:Int))).fst,(v0.getD v4.toNat ([],(0:Int))).snd)) (v1) (v2) (v3) (IntKind.i64.wrap (v4 - (1:Int)))
 else
 none
 else
 none
 else
 none
 else
 none
 else
 none
 else
 none
 else
 none
 else
 none
 else
 none
 else
 none
 else
 none
 else
 none
 else
 lp1 (v0) (v1) (v2) (IntKind.i64.wrap (v3+(1:Int)))
 else
 none
 else
 none
 else
 none
 else
 none
 else
 none
 else
 none
 else
 lp1 (v0) (v1) (v2) (IntKind.i64.wrap (v3+(1:Int)))
def xs04.t1 {γ:Type} (ret:(Zd)→Option γ) (lp4:Zd→Int→Int→Int→Int→Option γ) (v0:Zd) (v1:Int) (v2:Int) (v3:Int):Option γ :=
 bif decide (v3<v2) then
 lp4 (v0) (v1) (v2) (v3) (v3)
 else
 ret (v0)
theorem xs04.u:∀ b,xs04.un (xs04.mk b)=b:=fun _ => by kernel_rfl
theorem xs04.eq (v0 v1 v2) {b} (h:xs04.t some xs04.l1 v0 v1 v2=some b):xs04 v0 v1 v2=some b:=eqF xs04.u Tryz.f97 (callT_le E tab) rfl rfl rfl (xs04.t (rR xs04.mk) xs04.q1 v0 v1 v2) (by kernel_rfl) (by unfold xs04.t; repeat' first | exact sR | exact sN | exact sL | apply sC | (apply sB; intro _)) h
theorem xs04.eq4 (v0 v1 v2 v3 v4) {b} (h:xs04.t4 some xs04.l4 xs04.l1 v0 v1 v2 v3 v4=some b):xs04.l4 v0 v1 v2 v3 v4=some b:=eqL xs04.u (xs04.t4 (rR xs04.mk) xs04.q4 xs04.q1 v0 v1 v2 v3 v4) (by kernel_rfl) (by unfold xs04.t4; repeat' first | exact sR | exact sN | exact sL | apply sC | (apply sB; intro _)) h
theorem xs04.eq1 (v0 v1 v2 v3) {b} (h:xs04.t1 some xs04.l4 v0 v1 v2 v3=some b):xs04.l1 v0 v1 v2 v3=some b:=eqL xs04.u (xs04.t1 (rR xs04.mk) xs04.q4 v0 v1 v2 v3) (by kernel_rfl) (by unfold xs04.t1; repeat' first | exact sR | exact sN | exact sL | apply sC | (apply sB; intro _)) h
def xi1q.t {γ:Type} (ret:(Int)→Option γ) (v0:List Int) (v1:Int) (v2:List Int) (v3:Int):Option γ :=
 (xi11 (v0) (v2)).bind fun (r0:Int) =>
 ret (r0)
theorem xi1q.u:∀ b,xi1q.un (xi1q.mk b)=b:=fun _ => by kernel_rfl
theorem xi1q.eq (v0 v1 v2 v3) {b} (h:xi1q.t some v0 v1 v2 v3=some b):xi1q v0 v1 v2 v3=some b:=eqF xi1q.u Tryz.f80 (callT_le E tab) rfl rfl rfl (xi1q.t (rR xi1q.mk) v0 v1 v2 v3) (by kernel_rfl) (by unfold xi1q.t; repeat' first | exact sR | exact sN | exact sL | apply sC | (apply sB; intro _)) h
def xs09.s9 (v0:Zd) (v1:Int) (v2:Int):List Cell:=⟨(.val .one),[.d .sha Yb v0],true,false,false,0,0⟩::nn 9 (vc (iL v1)::nn 2 (vc (iL v2)::nn 206 ([])))
def xs09.q9:=fun v0 v1 v2 => loopAtL E (callT E tab) 98 Tryz.f98 5 [.l,.r,.l,.r,.r,.r,.l,.r,.b] (xs09.s9 v0 v1 v2)
def xs09.l9:=fun v0 v1 v2 => tOf xs09.mk (xs09.q9 v0 v1 v2)
def xs09.s3 (v0:Zd) (v1:Int) (v2:Int) (v3:Int):List Cell:=⟨(.val .one),[.d .sha Yb v0],true,false,false,0,0⟩::vc (iL v1)::nn 2 (vc (.fn 80 [])::nn 5 (vc (iL v2)::vc (iL v3)::nn 208 ([])))
def xs09.q3:=fun v0 v1 v2 v3 => loopAtL E (callT E tab) 98 Tryz.f98 5 [.l,.r,.l,.r,.r,.l,.b] (xs09.s3 v0 v1 v2 v3)
def xs09.l3:=fun v0 v1 v2 v3 => tOf xs09.mk (xs09.q3 v0 v1 v2 v3)
def xs09.s21 (v0:Zd) (v1:Int) (v2:Int):List Cell:=⟨(.val .one),[.d .sha Yb v0],true,false,false,0,0⟩::nn 13 (vc (iL v1)::nn 2 (vc (iL v2)::nn 202 ([])))
def xs09.q21:=fun v0 v1 v2 => loopAtL E (callT E tab) 98 Tryz.f98 5 [.r,.l,.r,.l,.r,.r,.r,.l,.r,.b] (xs09.s21 v0 v1 v2)
def xs09.l21:=fun v0 v1 v2 => tOf xs09.mk (xs09.q21 v0 v1 v2)
def xs09.s15 (v0:Zd) (v1:Int) (v2:Int) (v3:Int):List Cell:=⟨(.val .one),[.d .sha Yb v0],true,false,false,0,0⟩::nn 1 (vc (iL v1)::nn 1 (vc (.fn 80 [])::nn 9 (vc (iL v2)::vc (iL v3)::nn 204 ([]))))
def xs09.q15:=fun v0 v1 v2 v3 => loopAtL E (callT E tab) 98 Tryz.f98 5 [.r,.l,.r,.l,.r,.r,.l,.b] (xs09.s15 v0 v1 v2 v3)
def xs09.l15:=fun v0 v1 v2 v3 => tOf xs09.mk (xs09.q15 v0 v1 v2 v3)
def xs09.s33 (v0:Zd) (v1:Int) (v2:Int) (v3:Int) (v4:Int) (v5:Int) (v6:Int) (v7:Int) (v8:Int):List Cell:=⟨(.val .one),[.d .sha Yb v0],true,false,false,0,0⟩::vc (iL v1)::vc (iL v2)::vc (iL v3)::vc (.fn 80 [])::nn 13 (vc (iL v4)::vc (iL v5)::vc (iL v6)::vc (iL v7)::vc (iL v8)::nn 197 ([]))
def xs09.q33:=fun v0 v1 v2 v3 v4 v5 v6 v7 v8 => loopAtL E (callT E tab) 98 Tryz.f98 5 [.r,.r,.r,.r,.r,.r,.r,.l,.b] (xs09.s33 v0 v1 v2 v3 v4 v5 v6 v7 v8)
def xs09.l33:=fun v0 v1 v2 v3 v4 v5 v6 v7 v8 => tOf xs09.mk (xs09.q33 v0 v1 v2 v3 v4 v5 v6 v7 v8)
def xs09.t {γ:Type} (ret:(Zd)→Option γ) (lp3:Zd→Int→Int→Int→Option γ) (lp15:Zd→Int→Int→Int→Option γ) (lp33:Zd→Int→Int→Int→Int→Int→Int→Int→Int→Option γ) (v0:Zd) (v1:Int) (v2:Int) (v3:Int):Option γ :=
 bif IntKind.i64.wrap (v2 - v1) == (1:Int) then
 lp3 (v0) (v1) (v2) (v3)
 else
 bif IntKind.i64.wrap (v3 - v2) == (1:Int) then
 lp15 (v0) (v2) (v1) (v2)
 else
 bif decide   (v2 >     IntKind.i64.wrap       ((IntKind.u64.wrap (IntKind.i64.wrap (v1+v3))).fdiv         ((2:Int) ^ Min.min (Int.toNat (1:Int)) IntKind.u64.bits))) then
 lp33 (v0) (v1) (v2) (v3) (IntKind.i64.wrap   ((IntKind.u64.wrap (IntKind.i64.wrap (v1+v3))).fdiv     ((2:Int) ^ Min.min (Int.toNat (1:Int)) IntKind.u64.bits))) (IntKind.i64.wrap   (IntKind.i64.wrap       ((IntKind.u64.wrap (IntKind.i64.wrap (v1+v3))).fdiv         ((2:Int) ^ Min.min (Int.toNat (1:Int)) IntKind.u64.bits))+    v2)) (IntKind.i64.wrap   (IntKind.i64.wrap       (IntKind.i64.wrap           ((IntKind.u64.wrap (IntKind.i64.wrap (v1+v3))).fdiv             ((2:Int) ^ Min.min (Int.toNat (1:Int)) IntKind.u64.bits))+        v2) -     v3)) (IntKind.i64.wrap   ((IntKind.u64.wrap (IntKind.i64.wrap (v1+v3))).fdiv     ((2:Int) ^ Min.min (Int.toNat (1:Int)) IntKind.u64.bits))) (IntKind.i64.wrap   (IntKind.i64.wrap       (IntKind.i64.wrap           ((IntKind.u64.wrap (IntKind.i64.wrap (v1+v3))).fdiv             ((2:Int) ^ Min.min (Int.toNat (1:Int)) IntKind.u64.bits))+        v2) -     (1:Int)))
 else
 lp33 (v0) (v1) (v2) (v3) (IntKind.i64.wrap   ((IntKind.u64.wrap (IntKind.i64.wrap (v1+v3))).fdiv     ((2:Int) ^ Min.min (Int.toNat (1:Int)) IntKind.u64.bits))) (IntKind.i64.wrap   (IntKind.i64.wrap       ((IntKind.u64.wrap (IntKind.i64.wrap (v1+v3))).fdiv         ((2:Int) ^ Min.min (Int.toNat (1:Int)) IntKind.u64.bits))+    v2)) (v1) (v2) (IntKind.i64.wrap   (IntKind.i64.wrap       (IntKind.i64.wrap           ((IntKind.u64.wrap (IntKind.i64.wrap (v1+v3))).fdiv             ((2:Int) ^ Min.min (Int.toNat (1:Int)) IntKind.u64.bits))+        v2) -     (1:Int)))
def xs09.t9 {γ:Type} (ret:(Zd)→Option γ) (lp9:Zd→Int→Int→Option γ) (v0:Zd) (v1:Int) (v2:Int):Option γ :=
 bif decide (v2<IntKind.i64.wrap (v1 - (1:Int))) then
 bif decide ((0:Int)≤IntKind.i64.wrap (v2+(1:Int))) then
 bif decide ((IntKind.i64.wrap (v2+(1:Int))).toNat<v0.length) then
 bif decide ((IntKind.i64.wrap (v2+(1:Int))).toNat<v0.length) then
 bif decide ((0:Int)≤v2) then
 bif decide (v2.toNat<v0.length) then
 bif decide (v2.toNat<v0.length) then
 bif decide ((0:Int)≤v2) then
 bif decide (v2.toNat<v0.length) then
 bif decide (v2.toNat<v0.length) then
 bif decide ((0:Int)≤IntKind.i64.wrap (v2+(1:Int))) then
 bif decide   ((IntKind.i64.wrap (v2+(1:Int))).toNat<    (v0.set v2.toNat         ((v0.getD (IntKind.i64.wrap (v2+(1:Int))).toNat ([],(0:Int))).fst,          (v0.getD (IntKind.i64.wrap (v2+(1:Int))).toNat ([],(0:Int))).snd)).length) then
 bif decide   ((IntKind.i64.wrap (v2+(1:Int))).toNat<    (v0.set v2.toNat         ((v0.getD (IntKind.i64.wrap (v2+(1:Int))).toNat ([],(0:Int))).fst,          (v0.getD (IntKind.i64.wrap (v2+(1:Int))).toNat ([],(0:Int))).snd)).length) then
 lp9 ((v0.set v2.toNat       ((v0.getD (IntKind.i64.wrap (v2+(1:Int))).toNat ([],(0:Int))).fst,        (v0.getD (IntKind.i64.wrap (v2+(1:Int))).toNat ([],(0:Int))).snd)).set   (IntKind.i64.wrap (v2+(1:Int))).toNat   ((v0.getD v2.toNat ([],(0:Int))).fst,(v0.getD v2.toNat ([],(0:Int))).snd)) (v1) (IntKind.i64.wrap (v2+(1:Int)))
 else
 none
 else
 none
 else
 none
 else
 none
 else
 none
 else
 none
 else
 none
 else
 none
 else
 none
 else
 none
 else
 none
 else
 none
 else
 ret (v0)
def xs09.t3 {γ:Type} (ret:(Zd)→Option γ) (lp9:Zd→Int→Int→Option γ) (lp3:Zd→Int→Int→Int→Option γ) (v0:Zd) (v1:Int) (v2:Int) (v3:Int):Option γ :=
 bif decide (v2<v3) then
 bif decide   ((0:Int)≤    IntKind.i64.wrap       ((IntKind.u64.wrap (IntKind.i64.wrap (v2+v3))).fdiv         ((2:Int) ^ Min.min (Int.toNat (1:Int)) IntKind.u64.bits))) then
 bif decide   ((IntKind.i64.wrap         ((IntKind.u64.wrap (IntKind.i64.wrap (v2+v3))).fdiv           ((2:Int) ^ Min.min (Int.toNat (1:Int)) IntKind.u64.bits))).toNat<    v0.length) then
 bif decide   ((IntKind.i64.wrap         ((IntKind.u64.wrap (IntKind.i64.wrap (v2+v3))).fdiv           ((2:Int) ^ Min.min (Int.toNat (1:Int)) IntKind.u64.bits))).toNat<    v0.length) then
 bif decide ((0:Int)≤v1) then
 bif decide (v1.toNat<v0.length) then
 bif decide (v1.toNat<v0.length) then
 (xi1q ((v0.getD     (IntKind.i64.wrap         ((IntKind.u64.wrap (IntKind.i64.wrap (v2+v3))).fdiv           ((2:Int) ^ Min.min (Int.toNat (1:Int)) IntKind.u64.bits))).toNat     ([],(0:Int))).fst) ((v0.getD     (IntKind.i64.wrap         ((IntKind.u64.wrap (IntKind.i64.wrap (v2+v3))).fdiv           ((2:Int) ^ Min.min (Int.toNat (1:Int)) IntKind.u64.bits))).toNat     ([],(0:Int))).snd) ((v0.getD v1.toNat ([],(0:Int))).fst) ((v0.getD v1.toNat ([],(0:Int))).snd)).bind fun (r0:Int) =>
 bif decide (r0<(0:Int)) then
 lp3 (v0) (v1) (IntKind.i64.wrap   (IntKind.i64.wrap       ((IntKind.u64.wrap (IntKind.i64.wrap (v2+v3))).fdiv         ((2:Int) ^ Min.min (Int.toNat (1:Int)) IntKind.u64.bits))+    (1:Int))) (v3)
 else
 lp3 (v0) (v1) (v2) (IntKind.i64.wrap   ((IntKind.u64.wrap (IntKind.i64.wrap (v2+v3))).fdiv     ((2:Int) ^ Min.min (Int.toNat (1:Int)) IntKind.u64.bits)))
 else
 none
 else
 none
 else
 none
 else
 none
 else
 none
 else
 none
 else
 lp9 (v0) (v2) (v1)
def xs09.t21 {γ:Type} (ret:(Zd)→Option γ) (lp21:Zd→Int→Int→Option γ) (v0:Zd) (v1:Int) (v2:Int):Option γ :=
 bif decide (v2 > v1) then
 bif decide ((0:Int)≤IntKind.i64.wrap (v2 - (1:Int))) then
 bif decide ((IntKind.i64.wrap (v2 - (1:Int))).toNat<v0.length) then
 bif decide ((IntKind.i64.wrap (v2 - (1:Int))).toNat<v0.length) then
 bif decide ((0:Int)≤v2) then
 bif decide (v2.toNat<v0.length) then
 bif decide (v2.toNat<v0.length) then
 bif decide ((0:Int)≤v2) then
 bif decide (v2.toNat<v0.length) then
 bif decide (v2.toNat<v0.length) then
 bif decide ((0:Int)≤IntKind.i64.wrap (v2 - (1:Int))) then
 bif decide   ((IntKind.i64.wrap (v2 - (1:Int))).toNat<    (v0.set v2.toNat         ((v0.getD (IntKind.i64.wrap (v2 - (1:Int))).toNat ([],(0:Int))).fst,          (v0.getD (IntKind.i64.wrap (v2 - (1:Int))).toNat ([],(0:Int))).snd)).length) then
 bif decide   ((IntKind.i64.wrap (v2 - (1:Int))).toNat<    (v0.set v2.toNat         ((v0.getD (IntKind.i64.wrap (v2 - (1:Int))).toNat ([],(0:Int))).fst,          (v0.getD (IntKind.i64.wrap (v2 - (1:Int))).toNat ([],(0:Int))).snd)).length) then
 lp21 ((v0.set v2.toNat       ((v0.getD (IntKind.i64.wrap (v2 - (1:Int))).toNat ([],(0:Int))).fst,        (v0.getD (IntKind.i64.wrap (v2 - (1:Int))).toNat ([],(0:Int))).snd)).set   (IntKind.i64.wrap (v2 - (1:Int))).toNat   ((v0.getD v2.toNat ([],(0:Int))).fst,(v0.getD v2.toNat ([],(0:Int))).snd)) (v1) (IntKind.i64.wrap (v2 - (1:Int)))
 else
 none
 else
 none
 else
 none
 else
 none
 else
 none
 else
 none
 else
 none
 else
 none
 else
 none
 else
 none
 else
 none
 else
 none
 else
 ret (v0)
def xs09.t15 {γ:Type} (ret:(Zd)→Option γ) (lp21:Zd→Int→Int→Option γ) (lp15:Zd→Int→Int→Int→Option γ) (v0:Zd) (v1:Int) (v2:Int) (v3:Int):Option γ :=
 bif decide (v2<v3) then
 bif decide ((0:Int)≤v1) then
 bif decide (v1.toNat<v0.length) then
 bif decide (v1.toNat<v0.length) then
 bif decide   ((0:Int)≤    IntKind.i64.wrap       ((IntKind.u64.wrap (IntKind.i64.wrap (v2+v3))).fdiv         ((2:Int) ^ Min.min (Int.toNat (1:Int)) IntKind.u64.bits))) then
 bif decide   ((IntKind.i64.wrap         ((IntKind.u64.wrap (IntKind.i64.wrap (v2+v3))).fdiv           ((2:Int) ^ Min.min (Int.toNat (1:Int)) IntKind.u64.bits))).toNat<    v0.length) then
 bif decide   ((IntKind.i64.wrap         ((IntKind.u64.wrap (IntKind.i64.wrap (v2+v3))).fdiv           ((2:Int) ^ Min.min (Int.toNat (1:Int)) IntKind.u64.bits))).toNat<    v0.length) then
 (xi1q ((v0.getD v1.toNat ([],(0:Int))).fst) ((v0.getD v1.toNat ([],(0:Int))).snd) ((v0.getD     (IntKind.i64.wrap         ((IntKind.u64.wrap (IntKind.i64.wrap (v2+v3))).fdiv           ((2:Int) ^ Min.min (Int.toNat (1:Int)) IntKind.u64.bits))).toNat     ([],(0:Int))).fst) ((v0.getD     (IntKind.i64.wrap         ((IntKind.u64.wrap (IntKind.i64.wrap (v2+v3))).fdiv           ((2:Int) ^ Min.min (Int.toNat (1:Int)) IntKind.u64.bits))).toNat     ([],(0:Int))).snd)).bind fun (r1:Int) =>
 bif !decide (r1<(0:Int)) then
 lp15 (v0) (v1) (IntKind.i64.wrap   (IntKind.i64.wrap       ((IntKind.u64.wrap (IntKind.i64.wrap (v2+v3))).fdiv         ((2:Int) ^ Min.min (Int.toNat (1:Int)) IntKind.u64.bits))+    (1:Int))) (v3)
 else
 lp15 (v0) (v1) (v2) (IntKind.i64.wrap   ((IntKind.u64.wrap (IntKind.i64.wrap (v2+v3))).fdiv     ((2:Int) ^ Min.min (Int.toNat (1:Int)) IntKind.u64.bits)))
 else
 none
 else
 none
 else
 none
 else
 none
 else
 none
 else
 none
 else
 lp21 (v0) (v2) (v1)
def xs09.t33 {γ:Type} (ret:(Zd)→Option γ) (lp33:Zd→Int→Int→Int→Int→Int→Int→Int→Int→Option γ) (v0:Zd) (v1:Int) (v2:Int) (v3:Int) (v4:Int) (v5:Int) (v6:Int) (v7:Int) (v8:Int):Option γ :=
 bif decide (v6<v7) then
 bif decide   ((0:Int)≤    IntKind.i64.wrap       (v8 -         IntKind.i64.wrap           ((IntKind.u64.wrap (IntKind.i64.wrap (v6+v7))).fdiv             ((2:Int) ^ Min.min (Int.toNat (1:Int)) IntKind.u64.bits)))) then
 bif decide   ((IntKind.i64.wrap         (v8 -           IntKind.i64.wrap             ((IntKind.u64.wrap (IntKind.i64.wrap (v6+v7))).fdiv               ((2:Int) ^ Min.min (Int.toNat (1:Int)) IntKind.u64.bits)))).toNat<    v0.length) then
 bif decide   ((IntKind.i64.wrap         (v8 -           IntKind.i64.wrap             ((IntKind.u64.wrap (IntKind.i64.wrap (v6+v7))).fdiv               ((2:Int) ^ Min.min (Int.toNat (1:Int)) IntKind.u64.bits)))).toNat<    v0.length) then
 bif decide   ((0:Int)≤    IntKind.i64.wrap       ((IntKind.u64.wrap (IntKind.i64.wrap (v6+v7))).fdiv         ((2:Int) ^ Min.min (Int.toNat (1:Int)) IntKind.u64.bits))) then
 bif decide   ((IntKind.i64.wrap         ((IntKind.u64.wrap (IntKind.i64.wrap (v6+v7))).fdiv           ((2:Int) ^ Min.min (Int.toNat (1:Int)) IntKind.u64.bits))).toNat<    v0.length) then
 bif decide   ((IntKind.i64.wrap         ((IntKind.u64.wrap (IntKind.i64.wrap (v6+v7))).fdiv           ((2:Int) ^ Min.min (Int.toNat (1:Int)) IntKind.u64.bits))).toNat<    v0.length) then
 (xi1q ((v0.getD     (IntKind.i64.wrap         (v8 -           IntKind.i64.wrap             ((IntKind.u64.wrap (IntKind.i64.wrap (v6+v7))).fdiv               ((2:Int) ^ Min.min (Int.toNat (1:Int)) IntKind.u64.bits)))).toNat     ([],(0:Int))).fst) ((v0.getD     (IntKind.i64.wrap         (v8 -           IntKind.i64.wrap             ((IntKind.u64.wrap (IntKind.i64.wrap (v6+v7))).fdiv               ((2:Int) ^ Min.min (Int.toNat (1:Int)) IntKind.u64.bits)))).toNat     ([],(0:Int))).snd) ((v0.getD     (IntKind.i64.wrap         ((IntKind.u64.wrap (IntKind.i64.wrap (v6+v7))).fdiv           ((2:Int) ^ Min.min (Int.toNat (1:Int)) IntKind.u64.bits))).toNat     ([],(0:Int))).fst) ((v0.getD     (IntKind.i64.wrap         ((IntKind.u64.wrap (IntKind.i64.wrap (v6+v7))).fdiv           ((2:Int) ^ Min.min (Int.toNat (1:Int)) IntKind.u64.bits))).toNat     ([],(0:Int))).snd)).bind fun (r2:Int) =>
 bif !decide (r2<(0:Int)) then
 lp33 (v0) (v1) (v2) (v3) (v4) (v5) (IntKind.i64.wrap   (IntKind.i64.wrap       ((IntKind.u64.wrap (IntKind.i64.wrap (v6+v7))).fdiv         ((2:Int) ^ Min.min (Int.toNat (1:Int)) IntKind.u64.bits))+    (1:Int))) (v7) (v8)
 else
 lp33 (v0) (v1) (v2) (v3) (v4) (v5) (v6) (IntKind.i64.wrap   ((IntKind.u64.wrap (IntKind.i64.wrap (v6+v7))).fdiv     ((2:Int) ^ Min.min (Int.toNat (1:Int)) IntKind.u64.bits))) (v8)
 else
 none
 else
 none
 else
 none
 else
 none
 else
 none
 else
 none
 else
 bif decide (v6<v2) then
 bif decide (v2<IntKind.i64.wrap (v5 - v6)) then
 (xs0a (v0) (v6) (v2) (IntKind.i64.wrap (v5 - v6))).bind fun (r3:Zd) =>
 bif decide (v1<v6) then
 bif decide (v6<v4) then
 (xs09 (r3) (v1) (v6) (v4)).bind fun (r4:Zd) =>
 bif decide (v4<IntKind.i64.wrap (v5 - v6)) then
 bif decide (IntKind.i64.wrap (v5 - v6)<v3) then
 (xs09 (r4) (v4) (IntKind.i64.wrap (v5 - v6)) (v3)).bind fun (r5:Zd) =>
 ret (r5)
 else
 ret (r4)
 else
 ret (r4)
 else
 bif decide (v4<IntKind.i64.wrap (v5 - v6)) then
 bif decide (IntKind.i64.wrap (v5 - v6)<v3) then
 (xs09 (r3) (v4) (IntKind.i64.wrap (v5 - v6)) (v3)).bind fun (r6:Zd) =>
 ret (r6)
 else
 ret (r3)
 else
 ret (r3)
 else
 bif decide (v4<IntKind.i64.wrap (v5 - v6)) then
 bif decide (IntKind.i64.wrap (v5 - v6)<v3) then
 (xs09 (r3) (v4) (IntKind.i64.wrap (v5 - v6)) (v3)).bind fun (r7:Zd) =>
 ret (r7)
 else
 ret (r3)
 else
 ret (r3)
 else
 bif decide (v1<v6) then
 bif decide (v6<v4) then
 (xs09 (v0) (v1) (v6) (v4)).bind fun (r8:Zd) =>
 bif decide (v4<IntKind.i64.wrap (v5 - v6)) then
 bif decide (IntKind.i64.wrap (v5 - v6)<v3) then
 (xs09 (r8) (v4) (IntKind.i64.wrap (v5 - v6)) (v3)).bind fun (r9:Zd) =>
 ret (r9)
 else
 ret (r8)
 else
 ret (r8)
 else
 bif decide (v4<IntKind.i64.wrap (v5 - v6)) then
 bif decide (IntKind.i64.wrap (v5 - v6)<v3) then
 (xs09 (v0) (v4) (IntKind.i64.wrap (v5 - v6)) (v3)).bind fun (r10:Zd) =>
 ret (r10)
 else
 ret (v0)
 else
 ret (v0)
 else
 bif decide (v4<IntKind.i64.wrap (v5 - v6)) then
 bif decide (IntKind.i64.wrap (v5 - v6)<v3) then
 (xs09 (v0) (v4) (IntKind.i64.wrap (v5 - v6)) (v3)).bind fun (r11:Zd) =>
 ret (r11)
 else
 ret (v0)
 else
 ret (v0)
 else
 bif decide (v1<v6) then
 bif decide (v6<v4) then
 (xs09 (v0) (v1) (v6) (v4)).bind fun (r12:Zd) =>
 bif decide (v4<IntKind.i64.wrap (v5 - v6)) then
 bif decide (IntKind.i64.wrap (v5 - v6)<v3) then
 (xs09 (r12) (v4) (IntKind.i64.wrap (v5 - v6)) (v3)).bind fun (r13:Zd) =>
 ret (r13)
 else
 ret (r12)
 else
 ret (r12)
 else
 bif decide (v4<IntKind.i64.wrap (v5 - v6)) then
 bif decide (IntKind.i64.wrap (v5 - v6)<v3) then
 (xs09 (v0) (v4) (IntKind.i64.wrap (v5 - v6)) (v3)).bind fun (r14:Zd) =>
 ret (r14)
 else
 ret (v0)
 else
 ret (v0)
 else
 bif decide (v4<IntKind.i64.wrap (v5 - v6)) then
 bif decide (IntKind.i64.wrap (v5 - v6)<v3) then
 (xs09 (v0) (v4) (IntKind.i64.wrap (v5 - v6)) (v3)).bind fun (r15:Zd) =>
 ret (r15)
 else
 ret (v0)
 else
 ret (v0)
theorem xs09.u:∀ b,xs09.un (xs09.mk b)=b:=fun _ => by kernel_rfl
theorem xs09.eq (v0 v1 v2 v3) {b} (h:xs09.t some xs09.l3 xs09.l15 xs09.l33 v0 v1 v2 v3=some b):xs09 v0 v1 v2 v3=some b:=eqF xs09.u Tryz.f98 (callT_le E tab) rfl rfl rfl (xs09.t (rR xs09.mk) xs09.q3 xs09.q15 xs09.q33 v0 v1 v2 v3) (by kernel_rfl) (by unfold xs09.t; repeat' first | exact sR | exact sN | exact sL | apply sC | (apply sB; intro _)) h
theorem xs09.eq9 (v0 v1 v2) {b} (h:xs09.t9 some xs09.l9 v0 v1 v2=some b):xs09.l9 v0 v1 v2=some b:=eqL xs09.u (xs09.t9 (rR xs09.mk) xs09.q9 v0 v1 v2) (by kernel_rfl) (by unfold xs09.t9; repeat' first | exact sR | exact sN | exact sL | apply sC | (apply sB; intro _)) h
theorem xs09.eq3 (v0 v1 v2 v3) {b} (h:xs09.t3 some xs09.l9 xs09.l3 v0 v1 v2 v3=some b):xs09.l3 v0 v1 v2 v3=some b:=eqL xs09.u (xs09.t3 (rR xs09.mk) xs09.q9 xs09.q3 v0 v1 v2 v3) (by kernel_rfl) (by unfold xs09.t3; repeat' first | exact sR | exact sN | exact sL | apply sC | (apply sB; intro _)) h
theorem xs09.eq21 (v0 v1 v2) {b} (h:xs09.t21 some xs09.l21 v0 v1 v2=some b):xs09.l21 v0 v1 v2=some b:=eqL xs09.u (xs09.t21 (rR xs09.mk) xs09.q21 v0 v1 v2) (by kernel_rfl) (by unfold xs09.t21; repeat' first | exact sR | exact sN | exact sL | apply sC | (apply sB; intro _)) h
theorem xs09.eq15 (v0 v1 v2 v3) {b} (h:xs09.t15 some xs09.l21 xs09.l15 v0 v1 v2 v3=some b):xs09.l15 v0 v1 v2 v3=some b:=eqL xs09.u (xs09.t15 (rR xs09.mk) xs09.q21 xs09.q15 v0 v1 v2 v3) (by kernel_rfl) (by unfold xs09.t15; repeat' first | exact sR | exact sN | exact sL | apply sC | (apply sB; intro _)) h
theorem xs09.eq33 (v0 v1 v2 v3 v4 v5 v6 v7 v8) {b} (h:xs09.t33 some xs09.l33 v0 v1 v2 v3 v4 v5 v6 v7 v8=some b):xs09.l33 v0 v1 v2 v3 v4 v5 v6 v7 v8=some b:=eqL xs09.u (xs09.t33 (rR xs09.mk) xs09.q33 v0 v1 v2 v3 v4 v5 v6 v7 v8) (by kernel_rfl) (by unfold xs09.t33; repeat' first | exact sR | exact sN | exact sL | apply sC | (apply sB; intro _)) h
def xs0a.s2 (v0:Zd) (v1:Int) (v2:Int) (v3:Int):List Cell:=⟨(.val .one),[.d .sha Yb v0],true,false,false,0,0⟩::nn 1 (vc (iL v1)::nn 1 (vc (.fn 80 [])::nn 5 (vc (iL v2)::vc (iL v3)::nn 46 ([]))))
def xs0a.q2:=fun v0 v1 v2 v3 => loopAtL E (callT E tab) 102 Tryz.f102 5 [.r,.r,.l,.b] (xs0a.s2 v0 v1 v2 v3)
def xs0a.l2:=fun v0 v1 v2 v3 => tOf xs0a.mk (xs0a.q2 v0 v1 v2 v3)
def xs0a.t {γ:Type} (ret:(Zd)→Option γ) (lp2:Zd→Int→Int→Int→Option γ) (v0:Zd) (v1:Int) (v2:Int) (v3:Int):Option γ :=
 lp2 (v0) (v2) (IntKind.i64.wrap (v2 - v1)) (IntKind.i64.wrap (v3 - v2))
def xs0a.t2 {γ:Type} (ret:(Zd)→Option γ) (lp2:Zd→Int→Int→Int→Option γ) (v0:Zd) (v1:Int) (v2:Int) (v3:Int):Option γ :=
 bif v2 != v3 then
 bif decide (v2 > v3) then
 (xs07 (v0) (IntKind.i64.wrap (v1 - v2)) (v1) (v3)).bind fun (r0:Zd) =>
 lp2 (r0) (v1) (IntKind.i64.wrap (v2 - v3)) (v3)
 else
 (xs07 (v0) (IntKind.i64.wrap (v1 - v2)) (IntKind.i64.wrap (IntKind.i64.wrap (v1+v3) - v2)) (v2)).bind fun (r1:Zd) =>
 lp2 (r1) (v1) (v2) (IntKind.i64.wrap (v3 - v2))
 else
 (xs07 (v0) (IntKind.i64.wrap (v1 - v2)) (v1) (v2)).bind fun (r2:Zd) =>
 ret (r2)
theorem xs0a.u:∀ b,xs0a.un (xs0a.mk b)=b:=fun _ => by kernel_rfl
theorem xs0a.eq (v0 v1 v2 v3) {b} (h:xs0a.t some xs0a.l2 v0 v1 v2 v3=some b):xs0a v0 v1 v2 v3=some b:=eqF xs0a.u Tryz.f102 (callT_le E tab) rfl rfl rfl (xs0a.t (rR xs0a.mk) xs0a.q2 v0 v1 v2 v3) (by kernel_rfl) (by unfold xs0a.t; repeat' first | exact sR | exact sN | exact sL | apply sC | (apply sB; intro _)) h
theorem xs0a.eq2 (v0 v1 v2 v3) {b} (h:xs0a.t2 some xs0a.l2 v0 v1 v2 v3=some b):xs0a.l2 v0 v1 v2 v3=some b:=eqL xs0a.u (xs0a.t2 (rR xs0a.mk) xs0a.q2 v0 v1 v2 v3) (by kernel_rfl) (by unfold xs0a.t2; repeat' first | exact sR | exact sN | exact sL | apply sC | (apply sB; intro _)) h
def xs07.s1 (v0:Zd) (v1:Int) (v2:Int) (v3:Int) (v4:Int):List Cell:=⟨(.val .one),[.d .sha Yb v0],true,false,false,0,0⟩::vc (iL v1)::vc (iL v2)::vc (iL v3)::nn 6 (vc (iL v4)::nn 27 ([]))
def xs07.q1:=fun v0 v1 v2 v3 v4 => loopAtL E (callT E tab) 104 Tryz.f104 5 [.r,.b] (xs07.s1 v0 v1 v2 v3 v4)
def xs07.l1:=fun v0 v1 v2 v3 v4 => tOf xs07.mk (xs07.q1 v0 v1 v2 v3 v4)
def xs07.t {γ:Type} (ret:(Zd)→Option γ) (lp1:Zd→Int→Int→Int→Int→Option γ) (v0:Zd) (v1:Int) (v2:Int) (v3:Int):Option γ :=
 lp1 (v0) (v1) (v2) (v3) ((0:Int))
def xs07.t1 {γ:Type} (ret:(Zd)→Option γ) (lp1:Zd→Int→Int→Int→Int→Option γ) (v0:Zd) (v1:Int) (v2:Int) (v3:Int) (v4:Int):Option γ :=
 bif decide (v4<v3) then
 bif decide ((0:Int)≤IntKind.i64.wrap (v2+v4)) then
 bif decide ((IntKind.i64.wrap (v2+v4)).toNat<v0.length) then
 bif decide ((IntKind.i64.wrap (v2+v4)).toNat<v0.length) then
 bif decide ((0:Int)≤IntKind.i64.wrap (v1+v4)) then
 bif decide ((IntKind.i64.wrap (v1+v4)).toNat<v0.length) then
 bif decide ((IntKind.i64.wrap (v1+v4)).toNat<v0.length) then
 bif decide ((0:Int)≤IntKind.i64.wrap (v1+v4)) then
 bif decide ((IntKind.i64.wrap (v1+v4)).toNat<v0.length) then
 bif decide ((IntKind.i64.wrap (v1+v4)).toNat<v0.length) then
 bif decide ((0:Int)≤IntKind.i64.wrap (v2+v4)) then
 bif decide   ((IntKind.i64.wrap (v2+v4)).toNat<    (v0.set (IntKind.i64.wrap (v1+v4)).toNat         ((v0.getD (IntKind.i64.wrap (v2+v4)).toNat ([],(0:Int))).fst,          (v0.getD (IntKind.i64.wrap (v2+v4)).toNat ([],(0:Int))).snd)).length) then
 bif decide   ((IntKind.i64.wrap (v2+v4)).toNat<    (v0.set (IntKind.i64.wrap (v1+v4)).toNat         ((v0.getD (IntKind.i64.wrap (v2+v4)).toNat ([],(0:Int))).fst,          (v0.getD (IntKind.i64.wrap (v2+v4)).toNat ([],(0:Int))).snd)).length) then
 lp1 ((v0.set (IntKind.i64.wrap (v1+v4)).toNat       ((v0.getD (IntKind.i64.wrap (v2+v4)).toNat ([],(0:Int))).fst,        (v0.getD (IntKind.i64.wrap (v2+v4)).toNat ([],(0:Int))).snd)).set   (IntKind.i64.wrap (v2+v4)).toNat   ((v0.getD (IntKind.i64.wrap (v1+v4)).toNat ([],(0:Int))).fst,    (v0.getD (IntKind.i64.wrap (v1+v4)).toNat ([],(0:Int))).snd)) (v1) (v2) (v3) (IntKind.i64.wrap (v4+(1:Int)))
 else
 none
 else
 none
 else
 none
 else
 none
 else
 none
 else
 none
 else
 none
 else
 none
 else
 none
 else
 none
 else
 none
 else
 none
 else
 ret (v0)
theorem xs07.u:∀ b,xs07.un (xs07.mk b)=b:=fun _ => by kernel_rfl
theorem xs07.eq (v0 v1 v2 v3) {b} (h:xs07.t some xs07.l1 v0 v1 v2 v3=some b):xs07 v0 v1 v2 v3=some b:=eqF xs07.u Tryz.f104 (callT_le E tab) rfl rfl rfl (xs07.t (rR xs07.mk) xs07.q1 v0 v1 v2 v3) (by kernel_rfl) (by unfold xs07.t; repeat' first | exact sR | exact sN | exact sL | apply sC | (apply sB; intro _)) h
theorem xs07.eq1 (v0 v1 v2 v3 v4) {b} (h:xs07.t1 some xs07.l1 v0 v1 v2 v3 v4=some b):xs07.l1 v0 v1 v2 v3 v4=some b:=eqL xs07.u (xs07.t1 (rR xs07.mk) xs07.q1 v0 v1 v2 v3 v4) (by kernel_rfl) (by unfold xs07.t1; repeat' first | exact sR | exact sN | exact sL | apply sC | (apply sB; intro _)) h
def xi1z.t {γ:Type} (ret:((List Int))→Option γ) (v0:List Int):Option γ :=
 (xs0s (v0)).bind fun (r0:(List Int)) =>
 ret (r0)
theorem xi1z.u:∀ b,xi1z.un (xi1z.mk b)=b:=fun _ => by kernel_rfl
theorem xi1z.eq (v0) {b} (h:xi1z.t some v0=some b):xi1z v0=some b:=eqF xi1z.u Tryz.f81 (callT_le E tab) rfl rfl rfl (xi1z.t (rR xi1z.mk) v0) (by kernel_rfl) (by unfold xi1z.t; repeat' first | exact sR | exact sN | exact sL | apply sC | (apply sB; intro _)) h
def xs0s.t {γ:Type} (ret:((List Int))→Option γ) (v0:List Int):Option γ :=
 bif decide (v0.length≤(4294967296:Nat)) then
 ret (v0)
 else
 none
theorem xs0s.k (v0:List Int):extOf 32 (xs0s.c v0)=xs0s.t (fun b => some (xs0s.mk b)) v0:=by kernel_rfl
theorem xs0s.eq (v0:List Int) {b:(List Int)} (h:xs0s.t some v0=some b):xs0s v0=some b:=tOf_intro xs0s.un (fun _ => by kernel_rfl) (vlim_ext (g:=extOf 32) rfl ((xs0s.k v0).trans ((by unfold xs0s.t; repeat' first | exact Sub.ret | exact Sub.none | exact Sub.loop | apply Sub.cond | (apply Sub.bind; intro _):Sub xs0s.mk _ _) b h)))
def xi0r.s3 (v0:List Int) (v1:Int) (v2:Zd) (v3:Zd) (v4:Zd) (v5:Int) (v6:Int):List Cell:=nn 1 (vc (.d .fro (.sl (.int .i64)) v0)::nn 2 (⟨(.box false),[iL v1,.d .deep Yb v2],false,false,false,0,0⟩::vc (.d .deep Yb v3)::nn 3 (vc (.d .fro Yb v4)::vc (iL v5)::vc (iL v6)::nn 19 ([]))))
def xi0r.q3:=fun v0 v1 v2 v3 v4 v5 v6 => loopAtL E (callT E tab) 35 Tryz.f35 2 [.r,.r,.l,.r,.b] (xi0r.s3 v0 v1 v2 v3 v4 v5 v6)
def xi0r.l3:=fun v0 v1 v2 v3 v4 v5 v6 => tOf xi0r.mk (xi0r.q3 v0 v1 v2 v3 v4 v5 v6)
def xi0r.t {γ:Type} (ret:(Int × Zd)→Option γ) (lp3:(List Int)→Int→Zd→Zd→Zd→Int→Int→Option γ) (v0:Int) (v1:Zd) (v2:List Int):Option γ :=
 lp3 (v2) ((0:Int)) ([]) ([]) (v1) ((↑v1.length:Int)) ((0:Int))
def xi0r.t3 {γ:Type} (ret:(Int × Zd)→Option γ) (lp3:(List Int)→Int→Zd→Zd→Zd→Int→Int→Option γ) (v0:List Int) (v1:Int) (v2:Zd) (v3:Zd) (v4:Zd) (v5:Int) (v6:Int):Option γ :=
 bif decide (v6<v5) then
 bif decide ((0:Int)≤v6) then
 bif decide (v6.toNat<v4.length) then
 (xi16 ((v4.getD v6.toNat ([],(0:Int))).fst) (v0)).bind fun (r0:(List Int)) =>
 bif decide (v3.length+[(r0,(v4.getD v6.toNat ([],(0:Int))).snd)].length≤(4294967296:Nat)) then
 lp3 (v0) (v1) (v2) (v3 ++ [(r0,(v4.getD v6.toNat ([],(0:Int))).snd)]) (v4) (v5) (IntKind.i64.wrap (v6+(1:Int)))
 else
 none
 else
 none
 else
 none
 else
 (xi2f ((↑v0.length:Int)) ([v3])).bind fun (r1:Int × Zd) =>
 ret (r1.fst,r1.snd)
theorem xi0r.u:∀ b,xi0r.un (xi0r.mk b)=b:=fun _ => by kernel_rfl
theorem xi0r.eq (v0 v1 v2) {b} (h:xi0r.t some xi0r.l3 v0 v1 v2=some b):xi0r v0 v1 v2=some b:=eqF xi0r.u Tryz.f35 (callT_le E tab) rfl rfl rfl (xi0r.t (rR xi0r.mk) xi0r.q3 v0 v1 v2) (by kernel_rfl) (by unfold xi0r.t; repeat' first | exact sR | exact sN | exact sL | apply sC | (apply sB; intro _)) h
theorem xi0r.eq3 (v0 v1 v2 v3 v4 v5 v6) {b} (h:xi0r.t3 some xi0r.l3 v0 v1 v2 v3 v4 v5 v6=some b):xi0r.l3 v0 v1 v2 v3 v4 v5 v6=some b:=eqL xi0r.u (xi0r.t3 (rR xi0r.mk) xi0r.q3 v0 v1 v2 v3 v4 v5 v6) (by kernel_rfl) (by unfold xi0r.t3; repeat' first | exact sR | exact sN | exact sL | apply sC | (apply sB; intro _)) h
def xi0u.t {γ:Type} (ret:(Int × Zd × Bool)→Option γ) (v0:Int) (v1:Zd):Option γ :=
 (xi1d (v0) (v1)).bind fun (r0:Bool) =>
 bif !r0 then
 ret ((0:Int),[],Bool.false)
 else
 ret (v0,v1,Bool.true)
theorem xi0u.u:∀ b,xi0u.un (xi0u.mk b)=b:=fun _ => by kernel_rfl
theorem xi0u.eq (v0 v1) {b} (h:xi0u.t some v0 v1=some b):xi0u v0 v1=some b:=eqF xi0u.u Tryz.f34 (callT_le E tab) rfl rfl rfl (xi0u.t (rR xi0u.mk) v0 v1) (by kernel_rfl) (by unfold xi0u.t; repeat' first | exact sR | exact sN | exact sL | apply sC | (apply sB; intro _)) h
def xl24.t {γ:Type} (ret:(Bool)→Option γ) (v0:Int) (v1:Zd) (v2:Int) (v3:Zd):Option γ :=
 bif v0 != v2 then
 ret (Bool.false)
 else
 (xl12 (v1) (v3)).bind fun (r0:Bool) =>
 bif !r0 then
 ret (Bool.false)
 else
 ret (Bool.true)
theorem xl24.u:∀ b,xl24.un (xl24.mk b)=b:=fun _ => by kernel_rfl
theorem xl24.eq (v0 v1 v2 v3) {b} (h:xl24.t some v0 v1 v2 v3=some b):xl24 v0 v1 v2 v3=some b:=eqF xl24.u Tryz.f10 (callT_le E tab) rfl rfl rfl (xl24.t (rR xl24.mk) v0 v1 v2 v3) (by kernel_rfl) (by unfold xl24.t; repeat' first | exact sR | exact sN | exact sL | apply sC | (apply sB; intro _)) h
def xl12.s4 (v0:Zd) (v1:Zd) (v2:Int):List Cell:=vc (.d .fro Yb v0)::vc (.d .fro Yb v1)::nn 3 (vc (iL v2)::nn 21 ([]))
def xl12.q4:=fun v0 v1 v2 => loopAtL E (callT E tab) 36 Tryz.f36 2 [.r,.r,.l,.r,.b] (xl12.s4 v0 v1 v2)
def xl12.l4:=fun v0 v1 v2 => tOf xl12.mk (xl12.q4 v0 v1 v2)
def xl12.t {γ:Type} (ret:(Bool)→Option γ) (lp4:Zd→Zd→Int→Option γ) (v0:Zd) (v1:Zd):Option γ :=
 bif (↑v0.length:Int) != (↑v1.length:Int) then
 ret (Bool.false)
 else
 lp4 (v0) (v1) ((0:Int))
def xl12.t4 {γ:Type} (ret:(Bool)→Option γ) (lp4:Zd→Zd→Int→Option γ) (v0:Zd) (v1:Zd) (v2:Int):Option γ :=
 bif decide (v2<(↑v0.length:Int)) then
 bif decide ((0:Int)≤v2) then
 bif decide (v2.toNat<v0.length) then
 bif decide ((0:Int)≤v2) then
 bif decide (v2.toNat<v1.length) then
 (xl19 ((v0.getD v2.toNat ([],(0:Int))).fst) ((v0.getD v2.toNat ([],(0:Int))).snd) ((v1.getD v2.toNat ([],(0:Int))).fst) ((v1.getD v2.toNat ([],(0:Int))).snd)).bind fun (r0:Bool) =>
 bif !r0 then
 ret (Bool.false)
 else
 lp4 (v0) (v1) (IntKind.i64.wrap (v2+(1:Int)))
 else
 none
 else
 none
 else
 none
 else
 none
 else
 ret (Bool.true)
theorem xl12.u:∀ b,xl12.un (xl12.mk b)=b:=fun _ => by kernel_rfl
theorem xl12.eq (v0 v1) {b} (h:xl12.t some xl12.l4 v0 v1=some b):xl12 v0 v1=some b:=eqF xl12.u Tryz.f36 (callT_le E tab) rfl rfl rfl (xl12.t (rR xl12.mk) xl12.q4 v0 v1) (by kernel_rfl) (by unfold xl12.t; repeat' first | exact sR | exact sN | exact sL | apply sC | (apply sB; intro _)) h
theorem xl12.eq4 (v0 v1 v2) {b} (h:xl12.t4 some xl12.l4 v0 v1 v2=some b):xl12.l4 v0 v1 v2=some b:=eqL xl12.u (xl12.t4 (rR xl12.mk) xl12.q4 v0 v1 v2) (by kernel_rfl) (by unfold xl12.t4; repeat' first | exact sR | exact sN | exact sL | apply sC | (apply sB; intro _)) h
def xl19.t {γ:Type} (ret:(Bool)→Option γ) (v0:List Int) (v1:Int) (v2:List Int) (v3:Int):Option γ :=
 (xl2p (v0) (v2)).bind fun (r0:Bool) =>
 bif !r0 then
 ret (Bool.false)
 else
 bif v1 != v3 then
 ret (Bool.false)
 else
 ret (Bool.true)
theorem xl19.u:∀ b,xl19.un (xl19.mk b)=b:=fun _ => by kernel_rfl
theorem xl19.eq (v0 v1 v2 v3) {b} (h:xl19.t some v0 v1 v2 v3=some b):xl19 v0 v1 v2 v3=some b:=eqF xl19.u Tryz.f63 (callT_le E tab) rfl rfl rfl (xl19.t (rR xl19.mk) v0 v1 v2 v3) (by kernel_rfl) (by unfold xl19.t; repeat' first | exact sR | exact sN | exact sL | apply sC | (apply sB; intro _)) h
def xl2p.t {γ:Type} (ret:(Bool)→Option γ) (v0:List Int) (v1:List Int):Option γ :=
 (xl2h (v0) (v1)).bind fun (r0:Bool) =>
 bif !r0 then
 ret (Bool.false)
 else
 ret (Bool.true)
theorem xl2p.u:∀ b,xl2p.un (xl2p.mk b)=b:=fun _ => by kernel_rfl
theorem xl2p.eq (v0 v1) {b} (h:xl2p.t some v0 v1=some b):xl2p v0 v1=some b:=eqF xl2p.u Tryz.f83 (callT_le E tab) rfl rfl rfl (xl2p.t (rR xl2p.mk) v0 v1) (by kernel_rfl) (by unfold xl2p.t; repeat' first | exact sR | exact sN | exact sL | apply sC | (apply sB; intro _)) h
def xl2h.s4 (v0:List Int) (v1:List Int) (v2:Int):List Cell:=vc (.d .fro (.sl (.int .i64)) v0)::vc (.d .fro (.sl (.int .i64)) v1)::nn 3 (vc (iL v2)::nn 20 ([]))
def xl2h.q4:=fun v0 v1 v2 => loopAtL E (callT E tab) 37 Tryz.f37 2 [.r,.r,.l,.r,.b] (xl2h.s4 v0 v1 v2)
def xl2h.l4:=fun v0 v1 v2 => tOf xl2h.mk (xl2h.q4 v0 v1 v2)
def xl2h.t {γ:Type} (ret:(Bool)→Option γ) (lp4:(List Int)→(List Int)→Int→Option γ) (v0:List Int) (v1:List Int):Option γ :=
 bif (↑v0.length:Int) != (↑v1.length:Int) then
 ret (Bool.false)
 else
 lp4 (v0) (v1) ((0:Int))
def xl2h.t4 {γ:Type} (ret:(Bool)→Option γ) (lp4:(List Int)→(List Int)→Int→Option γ) (v0:List Int) (v1:List Int) (v2:Int):Option γ :=
 bif decide (v2<(↑v0.length:Int)) then
 bif decide ((0:Int)≤v2) then
 bif decide (v2.toNat<v0.length) then
 bif decide ((0:Int)≤v2) then
 bif decide (v2.toNat<v1.length) then
 bif v0.getD v2.toNat (0:Int) != v1.getD v2.toNat (0:Int) then
 ret (Bool.false)
 else
 lp4 (v0) (v1) (IntKind.i64.wrap (v2+(1:Int)))
 else
 none
 else
 none
 else
 none
 else
 none
 else
 ret (Bool.true)
theorem xl2h.u:∀ b,xl2h.un (xl2h.mk b)=b:=fun _ => by kernel_rfl
theorem xl2h.eq (v0 v1) {b} (h:xl2h.t some xl2h.l4 v0 v1=some b):xl2h v0 v1=some b:=eqF xl2h.u Tryz.f37 (callT_le E tab) rfl rfl rfl (xl2h.t (rR xl2h.mk) xl2h.q4 v0 v1) (by kernel_rfl) (by unfold xl2h.t; repeat' first | exact sR | exact sN | exact sL | apply sC | (apply sB; intro _)) h
theorem xl2h.eq4 (v0 v1 v2) {b} (h:xl2h.t4 some xl2h.l4 v0 v1 v2=some b):xl2h.l4 v0 v1 v2=some b:=eqL xl2h.u (xl2h.t4 (rR xl2h.mk) xl2h.q4 v0 v1 v2) (by kernel_rfl) (by unfold xl2h.t4; repeat' first | exact sR | exact sN | exact sL | apply sC | (apply sB; intro _)) h
def xl1s.s4 (v0:Zb) (v1:Zb) (v2:Int):List Cell:=vc (.d .fro Ya v0)::vc (.d .fro Ya v1)::nn 3 (vc (iL v2)::nn 21 ([]))
def xl1s.q4:=fun v0 v1 v2 => loopAtL E (callT E tab) 11 Tryz.f11 2 [.r,.r,.l,.r,.b] (xl1s.s4 v0 v1 v2)
def xl1s.l4:=fun v0 v1 v2 => tOf xl1s.mk (xl1s.q4 v0 v1 v2)
def xl1s.t {γ:Type} (ret:(Bool)→Option γ) (lp4:Zb→Zb→Int→Option γ) (v0:Zb) (v1:Zb):Option γ :=
 bif (↑v0.length:Int) != (↑v1.length:Int) then
 ret (Bool.false)
 else
 lp4 (v0) (v1) ((0:Int))
def xl1s.t4 {γ:Type} (ret:(Bool)→Option γ) (lp4:Zb→Zb→Int→Option γ) (v0:Zb) (v1:Zb) (v2:Int):Option γ :=
 bif decide (v2<(↑v0.length:Int)) then
 bif decide ((0:Int)≤v2) then
 bif decide (v2.toNat<v0.length) then
 bif decide ((0:Int)≤v2) then
 bif decide (v2.toNat<v1.length) then
 (xl24 ((v0.getD v2.toNat ((0:Int),[])).fst) ((v0.getD v2.toNat ((0:Int),[])).snd) ((v1.getD v2.toNat ((0:Int),[])).fst) ((v1.getD v2.toNat ((0:Int),[])).snd)).bind fun (r0:Bool) =>
 bif !r0 then
 ret (Bool.false)
 else
 lp4 (v0) (v1) (IntKind.i64.wrap (v2+(1:Int)))
 else
 none
 else
 none
 else
 none
 else
 none
 else
 ret (Bool.true)
theorem xl1s.u:∀ b,xl1s.un (xl1s.mk b)=b:=fun _ => by kernel_rfl
theorem xl1s.eq (v0 v1) {b} (h:xl1s.t some xl1s.l4 v0 v1=some b):xl1s v0 v1=some b:=eqF xl1s.u Tryz.f11 (callT_le E tab) rfl rfl rfl (xl1s.t (rR xl1s.mk) xl1s.q4 v0 v1) (by kernel_rfl) (by unfold xl1s.t; repeat' first | exact sR | exact sN | exact sL | apply sC | (apply sB; intro _)) h
theorem xl1s.eq4 (v0 v1 v2) {b} (h:xl1s.t4 some xl1s.l4 v0 v1 v2=some b):xl1s.l4 v0 v1 v2=some b:=eqL xl1s.u (xl1s.t4 (rR xl1s.mk) xl1s.q4 v0 v1 v2) (by kernel_rfl) (by unfold xl1s.t4; repeat' first | exact sR | exact sN | exact sL | apply sC | (apply sB; intro _)) h
def xl23.s4 (v0:Zg) (v1:Zg) (v2:Int):List Cell:=vc (.d .fro Yc v0)::vc (.d .fro Yc v1)::nn 3 (vc (iL v2)::nn 21 ([]))
def xl23.q4:=fun v0 v1 v2 => loopAtL E (callT E tab) 12 Tryz.f12 2 [.r,.r,.l,.r,.b] (xl23.s4 v0 v1 v2)
def xl23.l4:=fun v0 v1 v2 => tOf xl23.mk (xl23.q4 v0 v1 v2)
def xl23.t {γ:Type} (ret:(Bool)→Option γ) (lp4:Zg→Zg→Int→Option γ) (v0:Zg) (v1:Zg):Option γ :=
 bif (↑v0.length:Int) != (↑v1.length:Int) then
 ret (Bool.false)
 else
 lp4 (v0) (v1) ((0:Int))
def xl23.t4 {γ:Type} (ret:(Bool)→Option γ) (lp4:Zg→Zg→Int→Option γ) (v0:Zg) (v1:Zg) (v2:Int):Option γ :=
 bif decide (v2<(↑v0.length:Int)) then
 bif decide ((0:Int)≤v2) then
 bif decide (v2.toNat<v0.length) then
 bif decide ((0:Int)≤v2) then
 bif decide (v2.toNat<v1.length) then
 (xl2h (v0.getD v2.toNat []) (v1.getD v2.toNat [])).bind fun (r0:Bool) =>
 bif !r0 then
 ret (Bool.false)
 else
 lp4 (v0) (v1) (IntKind.i64.wrap (v2+(1:Int)))
 else
 none
 else
 none
 else
 none
 else
 none
 else
 ret (Bool.true)
theorem xl23.u:∀ b,xl23.un (xl23.mk b)=b:=fun _ => by kernel_rfl
theorem xl23.eq (v0 v1) {b} (h:xl23.t some xl23.l4 v0 v1=some b):xl23 v0 v1=some b:=eqF xl23.u Tryz.f12 (callT_le E tab) rfl rfl rfl (xl23.t (rR xl23.mk) xl23.q4 v0 v1) (by kernel_rfl) (by unfold xl23.t; repeat' first | exact sR | exact sN | exact sL | apply sC | (apply sB; intro _)) h
theorem xl23.eq4 (v0 v1 v2) {b} (h:xl23.t4 some xl23.l4 v0 v1 v2=some b):xl23.l4 v0 v1 v2=some b:=eqL xl23.u (xl23.t4 (rR xl23.mk) xl23.q4 v0 v1 v2) (by kernel_rfl) (by unfold xl23.t4; repeat' first | exact sR | exact sN | exact sL | apply sC | (apply sB; intro _)) h
def xl0v.s2 (v0:Zb) (v1:Int) (v2:Int):List Cell:=⟨(.val .one),[.d .deep Ya v0],true,false,false,0,0⟩::vc (iL v1)::nn 3 (vc (iL v2)::nn 21 ([]))
def xl0v.q2:=fun v0 v1 v2 => loopAtL E (callT E tab) 13 Tryz.f13 2 [.r,.l,.r,.b] (xl0v.s2 v0 v1 v2)
def xl0v.l2:=fun v0 v1 v2 => tOf xl0v.mk (xl0v.q2 v0 v1 v2)
def xl0v.t {γ:Type} (ret:(Int × Zb)→Option γ) (lp2:Zb→Int→Int→Option γ) (v0:Zb) (v1:Int):Option γ :=
 lp2 (v0) (v1) ((0:Int))
def xl0v.t2 {γ:Type} (ret:(Int × Zb)→Option γ) (lp2:Zb→Int→Int→Option γ) (v0:Zb) (v1:Int) (v2:Int):Option γ :=
 bif decide (v2<(↑v0.length:Int)) then
 bif decide ((0:Int)≤v2) then
 bif decide (v2.toNat<v0.length) then
 bif decide (v2.toNat<v0.length) then
 bif decide ((0:Int)≤v2) then
 bif decide (v2.toNat<(v0.set v2.toNat (v1,(v0.getD v2.toNat ((0:Int),[])).snd)).length) then
 bif decide (v2.toNat<(v0.set v2.toNat (v1,(v0.getD v2.toNat ((0:Int),[])).snd)).length) then
 bif decide (v2.toNat<(v0.set v2.toNat (v1,(v0.getD v2.toNat ((0:Int),[])).snd)).length) then
 (xl0n (((v0.set v2.toNat (v1,(v0.getD v2.toNat ((0:Int),[])).snd)).getD v2.toNat ((0:Int),[])).snd) (IntKind.i64.wrap (v1+(1:Int)))).bind fun (r0:Int × Zd) =>
 bif decide (v2.toNat=v2.toNat) &&   (decide ((0:Nat)+(1:Nat)=(0:Nat)+(1:Nat)) &&     decide ((1:Nat)+(1:Nat)=(1:Nat)+(1:Nat))) then
 bif decide (v2.toNat<(v0.set v2.toNat (v1,(v0.getD v2.toNat ((0:Int),[])).snd)).length) then
 lp2 ((v0.set v2.toNat (v1,(v0.getD v2.toNat ((0:Int),[])).snd)).set v2.toNat   (((v0.set v2.toNat (v1,(v0.getD v2.toNat ((0:Int),[])).snd)).getD v2.toNat ((0:Int),[])).fst,r0.snd)) (r0.fst) (IntKind.i64.wrap (v2+(1:Int)))
 else
 none
 else
 none
 else
 none
 else
 none
 else
 none
 else
 none
 else
 none
 else
 none
 else
 none
 else
 ret (v1,v0)
theorem xl0v.u:∀ b,xl0v.un (xl0v.mk b)=b:=fun _ => by kernel_rfl
theorem xl0v.eq (v0 v1) {b} (h:xl0v.t some xl0v.l2 v0 v1=some b):xl0v v0 v1=some b:=eqF xl0v.u Tryz.f13 (callT_le E tab) rfl rfl rfl (xl0v.t (rR xl0v.mk) xl0v.q2 v0 v1) (by kernel_rfl) (by unfold xl0v.t; repeat' first | exact sR | exact sN | exact sL | apply sC | (apply sB; intro _)) h
theorem xl0v.eq2 (v0 v1 v2) {b} (h:xl0v.t2 some xl0v.l2 v0 v1 v2=some b):xl0v.l2 v0 v1 v2=some b:=eqL xl0v.u (xl0v.t2 (rR xl0v.mk) xl0v.q2 v0 v1 v2) (by kernel_rfl) (by unfold xl0v.t2; repeat' first | exact sR | exact sN | exact sL | apply sC | (apply sB; intro _)) h
def xl0n.s2 (v0:Zd) (v1:Int) (v2:Int):List Cell:=⟨(.val .one),[.d .deep Yb v0],true,false,false,0,0⟩::vc (iL v1)::nn 3 (vc (iL v2)::nn 22 ([]))
def xl0n.q2:=fun v0 v1 v2 => loopAtL E (callT E tab) 38 Tryz.f38 2 [.r,.l,.r,.b] (xl0n.s2 v0 v1 v2)
def xl0n.l2:=fun v0 v1 v2 => tOf xl0n.mk (xl0n.q2 v0 v1 v2)
def xl0n.t {γ:Type} (ret:(Int × Zd)→Option γ) (lp2:Zd→Int→Int→Option γ) (v0:Zd) (v1:Int):Option γ :=
 lp2 (v0) (v1) ((0:Int))
def xl0n.t2 {γ:Type} (ret:(Int × Zd)→Option γ) (lp2:Zd→Int→Int→Option γ) (v0:Zd) (v1:Int) (v2:Int):Option γ :=
 bif decide (v2<(↑v0.length:Int)) then
 bif decide ((0:Int)≤v2) then
 bif decide (v2.toNat<v0.length) then
 bif decide (v2.toNat<v0.length) then
 bif decide (v2.toNat<v0.length) then
 (xl10 ((v0.getD v2.toNat ([],(0:Int))).fst) (v1)).bind fun (r0:Int × (List Int)) =>
 bif decide (v2.toNat=v2.toNat) &&   (decide ((0:Nat)+(0:Nat)+(0:Nat)=(0:Nat)+(0:Nat)+(0:Nat)) &&     decide ((1:Nat)+(1:Nat)=(1:Nat)+(1:Nat))) then
 bif decide (v2.toNat<v0.length) then
 bif decide ((0:Int)≤v2) then
 bif decide (v2.toNat<(v0.set v2.toNat (r0.snd,(v0.getD v2.toNat ([],(0:Int))).snd)).length) then
 bif decide (v2.toNat<(v0.set v2.toNat (r0.snd,(v0.getD v2.toNat ([],(0:Int))).snd)).length) then
 lp2 ((v0.set v2.toNat (r0.snd,(v0.getD v2.toNat ([],(0:Int))).snd)).set v2.toNat   (((v0.set v2.toNat (r0.snd,(v0.getD v2.toNat ([],(0:Int))).snd)).getD v2.toNat ([],(0:Int))).fst,r0.fst)) (IntKind.i64.wrap (r0.fst+(1:Int))) (IntKind.i64.wrap (v2+(1:Int)))
 else
 none
 else
 none
 else
 none
 else
 none
 else
 none
 else
 none
 else
 none
 else
 none
 else
 none
 else
 ret (v1,v0)
theorem xl0n.u:∀ b,xl0n.un (xl0n.mk b)=b:=fun _ => by kernel_rfl
theorem xl0n.eq (v0 v1) {b} (h:xl0n.t some xl0n.l2 v0 v1=some b):xl0n v0 v1=some b:=eqF xl0n.u Tryz.f38 (callT_le E tab) rfl rfl rfl (xl0n.t (rR xl0n.mk) xl0n.q2 v0 v1) (by kernel_rfl) (by unfold xl0n.t; repeat' first | exact sR | exact sN | exact sL | apply sC | (apply sB; intro _)) h
theorem xl0n.eq2 (v0 v1 v2) {b} (h:xl0n.t2 some xl0n.l2 v0 v1 v2=some b):xl0n.l2 v0 v1 v2=some b:=eqL xl0n.u (xl0n.t2 (rR xl0n.mk) xl0n.q2 v0 v1 v2) (by kernel_rfl) (by unfold xl0n.t2; repeat' first | exact sR | exact sN | exact sL | apply sC | (apply sB; intro _)) h
def xl10.s2 (v0:List Int) (v1:Int) (v2:Int):List Cell:=⟨(.val .one),[.d .deep (.sl (.int .i64)) v0],true,false,false,0,0⟩::vc (iL v1)::nn 3 (vc (iL v2)::nn 13 ([]))
def xl10.q2:=fun v0 v1 v2 => loopAtL E (callT E tab) 39 Tryz.f39 2 [.r,.l,.r,.b] (xl10.s2 v0 v1 v2)
def xl10.l2:=fun v0 v1 v2 => tOf xl10.mk (xl10.q2 v0 v1 v2)
def xl10.t {γ:Type} (ret:(Int × (List Int))→Option γ) (lp2:(List Int)→Int→Int→Option γ) (v0:List Int) (v1:Int):Option γ :=
 lp2 (v0) (v1) ((0:Int))
def xl10.t2 {γ:Type} (ret:(Int × (List Int))→Option γ) (lp2:(List Int)→Int→Int→Option γ) (v0:List Int) (v1:Int) (v2:Int):Option γ :=
 bif decide (v2<(↑v0.length:Int)) then
 bif decide ((0:Int)≤v2) then
 bif decide (v2.toNat<v0.length) then
 bif decide (v2.toNat<v0.length) then
 lp2 (v0.set v2.toNat v1) (IntKind.i64.wrap (v1+(1:Int))) (IntKind.i64.wrap (v2+(1:Int)))
 else
 none
 else
 none
 else
 none
 else
 ret (v1,v0)
theorem xl10.u:∀ b,xl10.un (xl10.mk b)=b:=fun _ => by kernel_rfl
theorem xl10.eq (v0 v1) {b} (h:xl10.t some xl10.l2 v0 v1=some b):xl10 v0 v1=some b:=eqF xl10.u Tryz.f39 (callT_le E tab) rfl rfl rfl (xl10.t (rR xl10.mk) xl10.q2 v0 v1) (by kernel_rfl) (by unfold xl10.t; repeat' first | exact sR | exact sN | exact sL | apply sC | (apply sB; intro _)) h
theorem xl10.eq2 (v0 v1 v2) {b} (h:xl10.t2 some xl10.l2 v0 v1 v2=some b):xl10.l2 v0 v1 v2=some b:=eqL xl10.u (xl10.t2 (rR xl10.mk) xl10.q2 v0 v1 v2) (by kernel_rfl) (by unfold xl10.t2; repeat' first | exact sR | exact sN | exact sL | apply sC | (apply sB; intro _)) h
def xl0y.s2 (v0:Zg) (v1:Int) (v2:Int):List Cell:=⟨(.val .one),[.d .deep Yc v0],true,false,false,0,0⟩::vc (iL v1)::nn 3 (vc (iL v2)::nn 13 ([]))
def xl0y.q2:=fun v0 v1 v2 => loopAtL E (callT E tab) 14 Tryz.f14 2 [.r,.l,.r,.b] (xl0y.s2 v0 v1 v2)
def xl0y.l2:=fun v0 v1 v2 => tOf xl0y.mk (xl0y.q2 v0 v1 v2)
def xl0y.t {γ:Type} (ret:(Int × Zg)→Option γ) (lp2:Zg→Int→Int→Option γ) (v0:Zg) (v1:Int):Option γ :=
 lp2 (v0) (v1) ((0:Int))
def xl0y.t2 {γ:Type} (ret:(Int × Zg)→Option γ) (lp2:Zg→Int→Int→Option γ) (v0:Zg) (v1:Int) (v2:Int):Option γ :=
 bif decide (v2<(↑v0.length:Int)) then
 bif decide ((0:Int)≤v2) then
 bif decide (v2.toNat<v0.length) then
 bif decide (v2.toNat<v0.length) then
 bif decide (v2.toNat<v0.length) then
 (xl10 (v0.getD v2.toNat []) (v1)).bind fun (r0:Int × (List Int)) =>
 bif decide (v2.toNat=v2.toNat) &&   (decide ((0:Nat)=(0:Nat)) && decide ((1:Nat)=(1:Nat))) then
 bif decide (v2.toNat<v0.length) then
 lp2 (v0.set v2.toNat r0.snd) (r0.fst) (IntKind.i64.wrap (v2+(1:Int)))
 else
 none
 else
 none
 else
 none
 else
 none
 else
 none
 else
 none
 else
 ret (v1,v0)
theorem xl0y.u:∀ b,xl0y.un (xl0y.mk b)=b:=fun _ => by kernel_rfl
theorem xl0y.eq (v0 v1) {b} (h:xl0y.t some xl0y.l2 v0 v1=some b):xl0y v0 v1=some b:=eqF xl0y.u Tryz.f14 (callT_le E tab) rfl rfl rfl (xl0y.t (rR xl0y.mk) xl0y.q2 v0 v1) (by kernel_rfl) (by unfold xl0y.t; repeat' first | exact sR | exact sN | exact sL | apply sC | (apply sB; intro _)) h
theorem xl0y.eq2 (v0 v1 v2) {b} (h:xl0y.t2 some xl0y.l2 v0 v1 v2=some b):xl0y.l2 v0 v1 v2=some b:=eqL xl0y.u (xl0y.t2 (rR xl0y.mk) xl0y.q2 v0 v1 v2) (by kernel_rfl) (by unfold xl0y.t2; repeat' first | exact sR | exact sN | exact sL | apply sC | (apply sB; intro _)) h
end
end GoV

/- Equations of the program's functions (printed by wip/tools/emit.py). -/
namespace GoV
open Go Go.Proofs
set_option maxRecDepth 100000
noncomputable section

def xl0z.t {γ:Type} (ret:(Int × Int × Zd)→Option γ) (v0:Int) (v1:Zd) (v2:Int):Option γ :=
 (xl0n (v1) (v2)).bind fun (r0:Int × Zd) =>
 ret (r0.fst,v0,r0.snd)
theorem xl0z.u:∀ b,xl0z.un (xl0z.mk b)=b:=fun _ => by kernel_rfl
theorem xl0z.eq (v0 v1 v2) {b} (h:xl0z.t some v0 v1 v2=some b):xl0z v0 v1 v2=some b:=eqF xl0z.u Tryz.f15 (callT_le E tab) rfl rfl rfl (xl0z.t (rR xl0z.mk) v0 v1 v2) (by kernel_rfl) (by unfold xl0z.t; repeat' first | exact sR | exact sN | exact sL | apply sC | (apply sB; intro _)) h
def xl1h.t {γ:Type} (ret:(Int)→Option γ) (v0:Int) (v1:Zd) (v2:Int):Option γ :=
 (xl0x (v1) (v2)).bind fun (r0:Int) =>
 bif decide (r0<(0:Int)) then
 ret ((-1:Int))
 else
 ret (r0)
theorem xl1h.u:∀ b,xl1h.un (xl1h.mk b)=b:=fun _ => by kernel_rfl
theorem xl1h.eq (v0 v1 v2) {b} (h:xl1h.t some v0 v1 v2=some b):xl1h v0 v1 v2=some b:=eqF xl1h.u Tryz.f16 (callT_le E tab) rfl rfl rfl (xl1h.t (rR xl1h.mk) v0 v1 v2) (by kernel_rfl) (by unfold xl1h.t; repeat' first | exact sR | exact sN | exact sL | apply sC | (apply sB; intro _)) h
def xl0x.s2 (v0:Zd) (v1:Int) (v2:Int):List Cell:=vc (.d .fro Yb v0)::vc (iL v1)::nn 3 (vc (iL v2)::nn 26 ([]))
def xl0x.q2:=fun v0 v1 v2 => loopAtL E (callT E tab) 40 Tryz.f40 2 [.r,.l,.r,.b] (xl0x.s2 v0 v1 v2)
def xl0x.l2:=fun v0 v1 v2 => tOf xl0x.mk (xl0x.q2 v0 v1 v2)
def xl0x.t {γ:Type} (ret:(Int)→Option γ) (lp2:Zd→Int→Int→Option γ) (v0:Zd) (v1:Int):Option γ :=
 lp2 (v0) (v1) ((0:Int))
def xl0x.t2 {γ:Type} (ret:(Int)→Option γ) (lp2:Zd→Int→Int→Option γ) (v0:Zd) (v1:Int) (v2:Int):Option γ :=
 bif decide (v2<(↑v0.length:Int)) then
 bif decide ((0:Int)≤v2) then
 bif decide (v2.toNat<v0.length) then
 (xl1t ((v0.getD v2.toNat ([],(0:Int))).fst) (v1)).bind fun (r0:Int) =>
 bif decide (r0<(0:Int)) then
 ret ((-1:Int))
 else
 bif decide ((0:Int)≤v2) then
 bif decide (v2.toNat<v0.length) then
 bif (v0.getD v2.toNat ([],(0:Int))).snd != r0 then
 ret ((-1:Int))
 else
 lp2 (v0) (IntKind.i64.wrap (r0+(1:Int))) (IntKind.i64.wrap (v2+(1:Int)))
 else
 none
 else
 none
 else
 none
 else
 none
 else
 ret (v1)
theorem xl0x.u:∀ b,xl0x.un (xl0x.mk b)=b:=fun _ => by kernel_rfl
theorem xl0x.eq (v0 v1) {b} (h:xl0x.t some xl0x.l2 v0 v1=some b):xl0x v0 v1=some b:=eqF xl0x.u Tryz.f40 (callT_le E tab) rfl rfl rfl (xl0x.t (rR xl0x.mk) xl0x.q2 v0 v1) (by kernel_rfl) (by unfold xl0x.t; repeat' first | exact sR | exact sN | exact sL | apply sC | (apply sB; intro _)) h
theorem xl0x.eq2 (v0 v1 v2) {b} (h:xl0x.t2 some xl0x.l2 v0 v1 v2=some b):xl0x.l2 v0 v1 v2=some b:=eqL xl0x.u (xl0x.t2 (rR xl0x.mk) xl0x.q2 v0 v1 v2) (by kernel_rfl) (by unfold xl0x.t2; repeat' first | exact sR | exact sN | exact sL | apply sC | (apply sB; intro _)) h
def xl1t.s2 (v0:List Int) (v1:Int) (v2:Int):List Cell:=vc (.d .fro (.sl (.int .i64)) v0)::vc (iL v1)::nn 3 (vc (iL v2)::nn 15 ([]))
def xl1t.q2:=fun v0 v1 v2 => loopAtL E (callT E tab) 64 Tryz.f64 2 [.r,.l,.r,.b] (xl1t.s2 v0 v1 v2)
def xl1t.l2:=fun v0 v1 v2 => tOf xl1t.mk (xl1t.q2 v0 v1 v2)
def xl1t.t {γ:Type} (ret:(Int)→Option γ) (lp2:(List Int)→Int→Int→Option γ) (v0:List Int) (v1:Int):Option γ :=
 lp2 (v0) (v1) ((0:Int))
def xl1t.t2 {γ:Type} (ret:(Int)→Option γ) (lp2:(List Int)→Int→Int→Option γ) (v0:List Int) (v1:Int) (v2:Int):Option γ :=
 bif decide (v2<(↑v0.length:Int)) then
 bif decide ((0:Int)≤v2) then
 bif decide (v2.toNat<v0.length) then
 bif v0.getD v2.toNat (0:Int) != v1 then
 ret ((-1:Int))
 else
 lp2 (v0) (IntKind.i64.wrap (v1+(1:Int))) (IntKind.i64.wrap (v2+(1:Int)))
 else
 none
 else
 none
 else
 ret (v1)
theorem xl1t.u:∀ b,xl1t.un (xl1t.mk b)=b:=fun _ => by kernel_rfl
theorem xl1t.eq (v0 v1) {b} (h:xl1t.t some xl1t.l2 v0 v1=some b):xl1t v0 v1=some b:=eqF xl1t.u Tryz.f64 (callT_le E tab) rfl rfl rfl (xl1t.t (rR xl1t.mk) xl1t.q2 v0 v1) (by kernel_rfl) (by unfold xl1t.t; repeat' first | exact sR | exact sN | exact sL | apply sC | (apply sB; intro _)) h
theorem xl1t.eq2 (v0 v1 v2) {b} (h:xl1t.t2 some xl1t.l2 v0 v1 v2=some b):xl1t.l2 v0 v1 v2=some b:=eqL xl1t.u (xl1t.t2 (rR xl1t.mk) xl1t.q2 v0 v1 v2) (by kernel_rfl) (by unfold xl1t.t2; repeat' first | exact sR | exact sN | exact sL | apply sC | (apply sB; intro _)) h
end
end GoV
