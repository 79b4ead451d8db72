/- A part of the proof of FnExactTableauTable: an interpreter of the model over plain data, its soundness, and what it makes of the functions that the statement reaches. Conditions: none beyond what the given statement itself says. -/
import Derived.Test.YtnobhelpmkmofaaTH
set_option linter.unusedVariables false
set_option linter.unusedSimpArgs false
set_option linter.unnecessarySimpa false
set_option linter.unusedSectionVars false
/- The functions of the program, each told by what it answers in the end (printed by wip/tools/emit.py). -/
/-! Names of functions here: xs00 = slices_ContainsFunc_impl_Row_impl_Row_impl_areAll_impl_Row_1_impl_GoodTableau_1, xs01 = slices_IndexFunc_impl_Row_impl_Row_impl_areAll_impl_Row_1_impl_GoodTableau_1, xs02 = slices_SortStableFunc_impl_Weighted_impl_Weighted_impl_summed_1_056, xs03 = slices_ContainsFunc_int_int_impl_areAll_int_1_impl_GoodTableau_1_1, xs04 = slices_IndexFunc_int_int_impl_areAll_int_1_impl_GoodTableau_1_1, xs05 = slices_insertionSortCmpFunc_impl_Weighted_impl_summed_1_c6e, xs06 = slices_ContainsFunc_int_int_impl_areAll_int_1_impl_isCell, xs07 = slices_swapRangeCmpFunc_impl_Weighted_impl_summed_1_70b, xs08 = slices_IndexFunc_int_int_impl_areAll_int_1_impl_isCell, xs09 = slices_symMergeCmpFunc_impl_Weighted_impl_summed_1_70b, xs0a = slices_rotateCmpFunc_impl_Weighted_impl_summed_1_70b, xs0b = slices_stableCmpFunc_impl_Weighted_impl_summed_1_6af, xs0c = slices_Grow_impl_Weighted_impl_Weighted_1b9, xi0d = impl_areAll_impl_Row_1_impl_GoodTableau_1, xs0e = slices_Concat_impl_Weighted_impl_Weighted, xi0f = impl_areAll_impl_Row_impl_GoodTableau_1, xi0g = impl_areAll_int_1_impl_GoodTableau_1_1, xi0h = impl_Table_kept_impl_Table_distinct_1, xi0i = impl_areAll_int_impl_GoodTableau_1_1, xi0j = impl_areAll_int_1_impl_isCell, xi0k = impl_areAll_int_impl_isCell, xl0l = laws_FnExactTableauTable, xl0m = laws_markWeightedS_d97, xs0n = slices_Compare_int_int, xi0o = impl_Table_distinct_1, xi0p = impl_GoodTableau_1_1, xl0q = laws_markTableau_2f1, xs0r = slices_Clone_int_int, xi0s = impl_Table_distinct -/
namespace GoV
open Go Go.Proofs
set_option maxRecDepth 100000

def laws_szRow.c (v0 : List Int) (v1 : Int) : List Cell := ac [.d .fro (.sl (.int .i64)) v0] :: vc (iL v1) :: []
def laws_szRow.mk (b : Int) : R := (⟨.one, [iL b]⟩, nn 2 ([]))
def laws_szRow.un (r : R) : Int := ((leafR r 0).dat (.int .i64))
noncomputable def laws_szRow (v0 : List Int) (v1 : Int) : Option (Int) := tOf laws_szRow.mk (vlim E 153 (laws_szRow.c v0 v1))
def laws_szIntS.c (v0 : List Int) (v1 : Int) : List Cell := vc (.d .fro (.sl (.int .i64)) v0) :: vc (iL v1) :: []
def laws_szIntS.mk (b : Int) : R := (⟨.one, [iL b]⟩, nn 2 ([]))
def laws_szIntS.un (r : R) : Int := ((leafR r 0).dat (.int .i64))
noncomputable def laws_szIntS (v0 : List Int) (v1 : Int) : Option (Int) := tOf laws_szIntS.mk (vlim E 65 (laws_szIntS.c v0 v1))
def laws_toRow.c (v0 : List Int) : List Cell := ac [.d .fro (.sl (.int .i64)) v0] :: []
def laws_toRow.mk (b : (List Int)) : R := (⟨.agg, [.d .deep (.sl (.int .i64)) b]⟩, nn 1 ([]))
def laws_toRow.un (r : R) : (List Int) := ((leafR r 0).dat (.sl (.int .i64)))
noncomputable def laws_toRow (v0 : List Int) : Option ((List Int)) := tOf laws_toRow.mk (vlim E 157 (laws_toRow.c v0))
def laws_toIntS.c (v0 : List Int) : List Cell := vc (.d .fro (.sl (.int .i64)) v0) :: []
def laws_toIntS.mk (b : (List Int)) : R := (⟨.one, [.d .deep (.sl (.int .i64)) b]⟩, nn 1 ([]))
def laws_toIntS.un (r : R) : (List Int) := ((leafR r 0).dat (.sl (.int .i64)))
noncomputable def laws_toIntS (v0 : List Int) : Option ((List Int)) := tOf laws_toIntS.mk (vlim E 71 (laws_toIntS.c v0))
def spec_GoodTable.c (v0 : Int) (v1 : List (List Int × Int)) : List Cell := ac [iL v0, .d .fro (.sl (.pair (.sl (.int .i64)) (.int .i64))) v1] :: []
def spec_GoodTable.mk (b : Bool) : R := (⟨.one, [bL b]⟩, nn 1 ([]))
def spec_GoodTable.un (r : R) : Bool := ((leafR r 0).dat .bool)
noncomputable def spec_GoodTable (v0 : Int) (v1 : List (List Int × Int)) : Option (Bool) := tOf spec_GoodTable.mk (vlim E 66 (spec_GoodTable.c v0 v1))
def spec_GoodRow.c (v0 : List Int) : List Cell := ac [.d .fro (.sl (.int .i64)) v0] :: []
def spec_GoodRow.mk (b : Bool) : R := (⟨.one, [bL b]⟩, nn 1 ([]))
def spec_GoodRow.un (r : R) : Bool := ((leafR r 0).dat .bool)
noncomputable def spec_GoodRow (v0 : List Int) : Option (Bool) := tOf spec_GoodRow.mk (vlim E 134 (spec_GoodRow.c v0))
def spec_l1In.c (v0 : Int) (v1 : Int) (v2 : Int) : List Cell := vc (iL v0) :: vc (iL v1) :: vc (iL v2) :: []
def spec_l1In.mk (b : Bool) : R := (⟨.one, [bL b]⟩, nn 3 ([]))
def spec_l1In.un (r : R) : Bool := ((leafR r 0).dat .bool)
noncomputable def spec_l1In (v0 : Int) (v1 : Int) (v2 : Int) : Option (Bool) := tOf spec_l1In.mk (vlim E 137 (spec_l1In.c v0 v1 v2))
def spec_l2Weight.c (v0 : Int) : List Cell := vc (iL v0) :: []
def spec_l2Weight.mk (b : Bool) : R := (⟨.one, [bL b]⟩, nn 1 ([]))
def spec_l2Weight.un (r : R) : Bool := ((leafR r 0).dat .bool)
noncomputable def spec_l2Weight (v0 : Int) : Option (Bool) := tOf spec_l2Weight.mk (vlim E 135 (spec_l2Weight.c v0))
def spec_l1Compare.c (v0 : List Int) (v1 : List Int) : List Cell := ac [.d .fro (.sl (.int .i64)) v0] :: ac [.d .fro (.sl (.int .i64)) v1] :: []
def spec_l1Compare.mk (b : Int) : R := (⟨.one, [iL b]⟩, nn 2 ([]))
def spec_l1Compare.un (r : R) : Int := ((leafR r 0).dat (.int .i64))
noncomputable def spec_l1Compare (v0 : List Int) (v1 : List Int) : Option (Int) := tOf spec_l1Compare.mk (vlim E 136 (spec_l1Compare.c v0 v1))
def spec_l2Tell.c (v0 : Int) (v1 : List (List Int × Int)) : List Cell := vc (iL v0) :: vc (.d .fro (.sl (.pair (.sl (.int .i64)) (.int .i64))) v1) :: []
def spec_l2Tell.mk (b : Int × (List (List Int × Int)) × Bool) : R := (⟨(.tup [some 2, none]), [iL b.1, .d .deep (.sl (.pair (.sl (.int .i64)) (.int .i64))) b.2.1, bL b.2.2]⟩, nn 2 ([]))
def spec_l2Tell.un (r : R) : Int × (List (List Int × Int)) × Bool := ((leafR r 0).dat (.int .i64), (leafR r 1).dat (.sl (.pair (.sl (.int .i64)) (.int .i64))), (leafR r 2).dat .bool)
noncomputable def spec_l2Tell (v0 : Int) (v1 : List (List Int × Int)) : Option (Int × (List (List Int × Int)) × Bool) := tOf spec_l2Tell.mk (vlim E 68 (spec_l2Tell.c v0 v1))
def spec_l2OwnRow.c (v0 : List Int) : List Cell := ac [.d .fro (.sl (.int .i64)) v0] :: []
def spec_l2OwnRow.mk (b : (List Int)) : R := (⟨.agg, [.d .deep (.sl (.int .i64)) b]⟩, nn 1 ([]))
def spec_l2OwnRow.un (r : R) : (List Int) := ((leafR r 0).dat (.sl (.int .i64)))
noncomputable def spec_l2OwnRow (v0 : List Int) : Option ((List Int)) := tOf spec_l2OwnRow.mk (vlim E 138 (spec_l2OwnRow.c v0))
def impl_within.c (v0 : Int) (v1 : Int) (v2 : Int) : List Cell := vc (iL v0) :: vc (iL v1) :: vc (iL v2) :: []
def impl_within.mk (b : Bool) : R := (⟨.one, [bL b]⟩, nn 3 ([]))
def impl_within.un (r : R) : Bool := ((leafR r 0).dat .bool)
noncomputable def impl_within (v0 : Int) (v1 : Int) (v2 : Int) : Option (Bool) := tOf impl_within.mk (vlim E 158 (impl_within.c v0 v1 v2))
def impl_isRowOf.c (v0 : List Int) (v1 : Int) : List Cell := ac [.d .fro (.sl (.int .i64)) v0] :: vc (iL v1) :: []
def impl_isRowOf.mk (b : Bool) : R := (⟨.one, [bL b]⟩, nn 2 ([]))
def impl_isRowOf.un (r : R) : Bool := ((leafR r 0).dat .bool)
noncomputable def impl_isRowOf (v0 : List Int) (v1 : Int) : Option (Bool) := tOf impl_isRowOf.mk (vlim E 141 (impl_isRowOf.c v0 v1))
def impl_GoodRow.c (v0 : List Int) : List Cell := ac [.d .fro (.sl (.int .i64)) v0] :: []
def impl_GoodRow.mk (b : Bool) : R := (⟨.one, [bL b]⟩, nn 1 ([]))
def impl_GoodRow.un (r : R) : Bool := ((leafR r 0).dat .bool)
noncomputable def impl_GoodRow (v0 : List Int) : Option (Bool) := tOf impl_GoodRow.mk (vlim E 197 (impl_GoodRow.c v0))
def xi0k.c (v0 : List Int) : List Cell := vc (.d .fro (.sl (.int .i64)) v0) :: vc (.fn 223 []) :: []
def xi0k.mk (b : Bool) : R := (⟨.one, [bL b]⟩, nn 2 ([]))
def xi0k.un (r : R) : Bool := ((leafR r 0).dat .bool)
noncomputable def xi0k (v0 : List Int) : Option (Bool) := tOf xi0k.mk (vlim E 161 (xi0k.c v0))
def xs06.c (v0 : List Int) : List Cell := vc (.d .fro (.sl (.int .i64)) v0) :: vc (.fn 206 [.rp [.fn 223 []] 0]) :: []
def xs06.mk (b : Bool) : R := (⟨.one, [bL b]⟩, nn 2 ([]))
def xs06.un (r : R) : Bool := ((leafR r 0).dat .bool)
noncomputable def xs06 (v0 : List Int) : Option (Bool) := tOf xs06.mk (vlim E 205 (xs06.c v0))
def xs08.c (v0 : List Int) : List Cell := vc (.d .fro (.sl (.int .i64)) v0) :: vc (.fn 206 [.rp [.fn 223 []] 0]) :: []
def xs08.mk (b : Int) : R := (⟨.one, [iL b]⟩, nn 2 ([]))
def xs08.un (r : R) : Int := ((leafR r 0).dat (.int .i64))
noncomputable def xs08 (v0 : List Int) : Option (Int) := tOf xs08.mk (vlim E 228 (xs08.c v0))
def xi0j.c (v0 : Int) : List Cell := vc (iL v0) :: vc (.rp [.fn 223 []] 0) :: []
def xi0j.mk (b : Bool) : R := (⟨.one, [bL b]⟩, nn 2 ([]))
def xi0j.un (r : R) : Bool := ((leafR r 0).dat .bool)
noncomputable def xi0j (v0 : Int) : Option (Bool) := tOf xi0j.mk (vlim E 206 (xi0j.c v0))
def impl_isCell.c (v0 : Int) : List Cell := vc (iL v0) :: []
def impl_isCell.mk (b : Bool) : R := (⟨.one, [bL b]⟩, nn 1 ([]))
def impl_isCell.un (r : R) : Bool := ((leafR r 0).dat .bool)
noncomputable def impl_isCell (v0 : Int) : Option (Bool) := tOf impl_isCell.mk (vlim E 223 (impl_isCell.c v0))
def impl_compareRows.c (v0 : List Int) (v1 : List Int) : List Cell := ac [.d .fro (.sl (.int .i64)) v0] :: ac [.d .fro (.sl (.int .i64)) v1] :: []
def impl_compareRows.mk (b : Int) : R := (⟨.one, [iL b]⟩, nn 2 ([]))
def impl_compareRows.un (r : R) : Int := ((leafR r 0).dat (.int .i64))
noncomputable def impl_compareRows (v0 : List Int) (v1 : List Int) : Option (Int) := tOf impl_compareRows.mk (vlim E 143 (impl_compareRows.c v0 v1))
def xs0n.c (v0 : List Int) (v1 : List Int) : List Cell := vc (.d .fro (.sl (.int .i64)) v0) :: vc (.d .fro (.sl (.int .i64)) v1) :: []
def xs0n.mk (b : Int) : R := (⟨.one, [iL b]⟩, nn 2 ([]))
def xs0n.un (r : R) : Int := ((leafR r 0).dat (.int .i64))
noncomputable def xs0n (v0 : List Int) (v1 : List Int) : Option (Int) := tOf xs0n.mk (vlim E 198 (xs0n.c v0 v1))
def cmp_Compare_int.c (v0 : Int) (v1 : Int) : List Cell := vc (iL v0) :: vc (iL v1) :: []
def cmp_Compare_int.mk (b : Int) : R := (⟨.one, [iL b]⟩, nn 2 ([]))
def cmp_Compare_int.un (r : R) : Int := ((leafR r 0).dat (.int .i64))
noncomputable def cmp_Compare_int (v0 : Int) (v1 : Int) : Option (Int) := tOf cmp_Compare_int.mk (vlim E 224 (cmp_Compare_int.c v0 v1))
def cmp_isNaN_int.c (v0 : Int) : List Cell := vc (iL v0) :: []
def cmp_isNaN_int.mk (b : Bool) : R := (⟨.one, [bL b]⟩, nn 1 ([]))
def cmp_isNaN_int.un (r : R) : Bool := ((leafR r 0).dat .bool)
noncomputable def cmp_isNaN_int (v0 : Int) : Option (Bool) := tOf cmp_isNaN_int.mk (vlim E 236 (cmp_isNaN_int.c v0))
def impl_Row_own.c (v0 : List Int) : List Cell := ac [.d .fro (.sl (.int .i64)) v0] :: []
def impl_Row_own.mk (b : (List Int)) : R := (⟨.agg, [.d .deep (.sl (.int .i64)) b]⟩, nn 1 ([]))
def impl_Row_own.un (r : R) : (List Int) := ((leafR r 0).dat (.sl (.int .i64)))
noncomputable def impl_Row_own (v0 : List Int) : Option ((List Int)) := tOf impl_Row_own.mk (vlim E 152 (impl_Row_own.c v0))
def xs0r.c (v0 : List Int) : List Cell := vc (.d .fro (.sl (.int .i64)) v0) :: []
def xs0r.mk (b : (List Int)) : R := (⟨.one, [.d .deep (.sl (.int .i64)) b]⟩, nn 1 ([]))
def xs0r.un (r : R) : (List Int) := ((leafR r 0).dat (.sl (.int .i64)))
noncomputable def xs0r (v0 : List Int) : Option ((List Int)) := tOf xs0r.mk (vlim E 178 (xs0r.c v0))
def laws_eqTable.c (v0 : Int) (v1 : List (List Int × Int)) (v2 : Int) (v3 : List (List Int × Int)) : List Cell := ac [iL v0, .d .fro (.sl (.pair (.sl (.int .i64)) (.int .i64))) v1] :: ac [iL v2, .d .fro (.sl (.pair (.sl (.int .i64)) (.int .i64))) v3] :: []
def laws_eqTable.mk (b : Bool) : R := (⟨.one, [bL b]⟩, nn 2 ([]))
def laws_eqTable.un (r : R) : Bool := ((leafR r 0).dat .bool)
noncomputable def laws_eqTable (v0 : Int) (v1 : List (List Int × Int)) (v2 : Int) (v3 : List (List Int × Int)) : Option (Bool) := tOf laws_eqTable.mk (vlim E 19 (laws_eqTable.c v0 v1 v2 v3))
def laws_eqWeightedS.c (v0 : List (List Int × Int)) (v1 : List (List Int × Int)) : List Cell := vc (.d .fro (.sl (.pair (.sl (.int .i64)) (.int .i64))) v0) :: vc (.d .fro (.sl (.pair (.sl (.int .i64)) (.int .i64))) v1) :: []
def laws_eqWeightedS.mk (b : Bool) : R := (⟨.one, [bL b]⟩, nn 2 ([]))
def laws_eqWeightedS.un (r : R) : Bool := ((leafR r 0).dat .bool)
noncomputable def laws_eqWeightedS (v0 : List (List Int × Int)) (v1 : List (List Int × Int)) : Option (Bool) := tOf laws_eqWeightedS.mk (vlim E 75 (laws_eqWeightedS.c v0 v1))
def laws_eqWeighted.c (v0 : List Int) (v1 : Int) (v2 : List Int) (v3 : Int) : List Cell := ac [.d .fro (.sl (.int .i64)) v0, iL v1] :: ac [.d .fro (.sl (.int .i64)) v2, iL v3] :: []
def laws_eqWeighted.mk (b : Bool) : R := (⟨.one, [bL b]⟩, nn 2 ([]))
def laws_eqWeighted.un (r : R) : Bool := ((leafR r 0).dat .bool)
noncomputable def laws_eqWeighted (v0 : List Int) (v1 : Int) (v2 : List Int) (v3 : Int) : Option (Bool) := tOf laws_eqWeighted.mk (vlim E 149 (laws_eqWeighted.c v0 v1 v2 v3))
def laws_eqRow.c (v0 : List Int) (v1 : List Int) : List Cell := ac [.d .fro (.sl (.int .i64)) v0] :: ac [.d .fro (.sl (.int .i64)) v1] :: []
def laws_eqRow.mk (b : Bool) : R := (⟨.one, [bL b]⟩, nn 2 ([]))
def laws_eqRow.un (r : R) : Bool := ((leafR r 0).dat .bool)
noncomputable def laws_eqRow (v0 : List Int) (v1 : List Int) : Option (Bool) := tOf laws_eqRow.mk (vlim E 168 (laws_eqRow.c v0 v1))
def laws_eqIntS.c (v0 : List Int) (v1 : List Int) : List Cell := vc (.d .fro (.sl (.int .i64)) v0) :: vc (.d .fro (.sl (.int .i64)) v1) :: []
def laws_eqIntS.mk (b : Bool) : R := (⟨.one, [bL b]⟩, nn 2 ([]))
def laws_eqIntS.un (r : R) : Bool := ((leafR r 0).dat .bool)
noncomputable def laws_eqIntS (v0 : List Int) (v1 : List Int) : Option (Bool) := tOf laws_eqIntS.mk (vlim E 76 (laws_eqIntS.c v0 v1))
def laws_markTable_d7a.c (v0 : Int) (v1 : List (List Int × Int)) (v2 : Int) : List Cell := ⟨(.val .agg), [iL v0, .d .deep (.sl (.pair (.sl (.int .i64)) (.int .i64))) v1], true, false, false, 0, 0⟩ :: vc (iL v2) :: []
def laws_markTable_d7a.mk (b : Int × Int × (List (List Int × Int))) : R := (⟨.one, [iL b.1]⟩, ⟨(.val .agg), [iL b.2.1, .d .deep (.sl (.pair (.sl (.int .i64)) (.int .i64))) b.2.2], true, false, false, 0, 0⟩ :: nn 1 ([]))
def laws_markTable_d7a.un (r : R) : Int × Int × (List (List Int × Int)) := ((leafR r 0).dat (.int .i64), (leafF r 0 0).dat (.int .i64), (leafF r 0 1).dat (.sl (.pair (.sl (.int .i64)) (.int .i64))))
noncomputable def laws_markTable_d7a (v0 : Int) (v1 : List (List Int × Int)) (v2 : Int) : Option (Int × Int × (List (List Int × Int))) := tOf laws_markTable_d7a.mk (vlim E 21 (laws_markTable_d7a.c v0 v1 v2))
def xl0m.c (v0 : List (List Int × Int)) (v1 : Int) : List Cell := ⟨(.val .one), [.d .deep (.sl (.pair (.sl (.int .i64)) (.int .i64))) v0], true, false, false, 0, 0⟩ :: vc (iL v1) :: []
def xl0m.mk (b : Int × (List (List Int × Int))) : R := (⟨.one, [iL b.1]⟩, ⟨(.val .one), [.d .deep (.sl (.pair (.sl (.int .i64)) (.int .i64))) b.2], true, false, false, 0, 0⟩ :: nn 1 ([]))
def xl0m.un (r : R) : Int × (List (List Int × Int)) := ((leafR r 0).dat (.int .i64), (leafF r 0 0).dat (.sl (.pair (.sl (.int .i64)) (.int .i64))))
noncomputable def xl0m (v0 : List (List Int × Int)) (v1 : Int) : Option (Int × (List (List Int × Int))) := tOf xl0m.mk (vlim E 77 (xl0m.c v0 v1))
def laws_markIntS_83f.c (v0 : List Int) (v1 : Int) : List Cell := ⟨(.val .one), [.d .deep (.sl (.int .i64)) v0], true, false, false, 0, 0⟩ :: vc (iL v1) :: []
def laws_markIntS_83f.mk (b : Int × (List Int)) : R := (⟨.one, [iL b.1]⟩, ⟨(.val .one), [.d .deep (.sl (.int .i64)) b.2], true, false, false, 0, 0⟩ :: nn 1 ([]))
def laws_markIntS_83f.un (r : R) : Int × (List Int) := ((leafR r 0).dat (.int .i64), (leafF r 0 0).dat (.sl (.int .i64)))
noncomputable def laws_markIntS_83f (v0 : List Int) (v1 : Int) : Option (Int × (List Int)) := tOf laws_markIntS_83f.mk (vlim E 78 (laws_markIntS_83f.c v0 v1))
def laws_heldTable.c (v0 : Int) (v1 : List (List Int × Int)) (v2 : Int) : List Cell := ac [iL v0, .d .fro (.sl (.pair (.sl (.int .i64)) (.int .i64))) v1] :: vc (iL v2) :: []
def laws_heldTable.mk (b : Int) : R := (⟨.one, [iL b]⟩, nn 2 ([]))
def laws_heldTable.un (r : R) : Int := ((leafR r 0).dat (.int .i64))
noncomputable def laws_heldTable (v0 : Int) (v1 : List (List Int × Int)) (v2 : Int) : Option (Int) := tOf laws_heldTable.mk (vlim E 23 (laws_heldTable.c v0 v1 v2))
def laws_heldWeightedS.c (v0 : List (List Int × Int)) (v1 : Int) : List Cell := vc (.d .fro (.sl (.pair (.sl (.int .i64)) (.int .i64))) v0) :: vc (iL v1) :: []
def laws_heldWeightedS.mk (b : Int) : R := (⟨.one, [iL b]⟩, nn 2 ([]))
def laws_heldWeightedS.un (r : R) : Int := ((leafR r 0).dat (.int .i64))
noncomputable def laws_heldWeightedS (v0 : List (List Int × Int)) (v1 : Int) : Option (Int) := tOf laws_heldWeightedS.mk (vlim E 79 (laws_heldWeightedS.c v0 v1))
def laws_heldIntS.c (v0 : List Int) (v1 : Int) : List Cell := vc (.d .fro (.sl (.int .i64)) v0) :: vc (iL v1) :: []
def laws_heldIntS.mk (b : Int) : R := (⟨.one, [iL b]⟩, nn 2 ([]))
def laws_heldIntS.un (r : R) : Int := ((leafR r 0).dat (.int .i64))
noncomputable def laws_heldIntS (v0 : List Int) (v1 : Int) : Option (Int) := tOf laws_heldIntS.mk (vlim E 117 (laws_heldIntS.c v0 v1))
def xl0l.c (v0 : Int) (v1 : List (List Int)) : List Cell := ac [iL v0, .d .fro (.sl (.sl (.int .i64))) v1] :: []
def xl0l.mk (b : Bool) : R := (⟨.one, [bL b]⟩, nn 1 ([]))
def xl0l.un (r : R) : Bool := ((leafR r 0).dat .bool)
noncomputable def xl0l (v0 : Int) (v1 : List (List Int)) : Option (Bool) := tOf xl0l.mk (vlim E 7 (xl0l.c v0 v1))
def laws_szTableau.c (v0 : Int) (v1 : List (List Int)) (v2 : Int) : List Cell := ac [iL v0, .d .fro (.sl (.sl (.int .i64))) v1] :: vc (iL v2) :: []
def laws_szTableau.mk (b : Int) : R := (⟨.one, [iL b]⟩, nn 2 ([]))
def laws_szTableau.un (r : R) : Int := ((leafR r 0).dat (.int .i64))
noncomputable def laws_szTableau (v0 : Int) (v1 : List (List Int)) (v2 : Int) : Option (Int) := tOf laws_szTableau.mk (vlim E 31 (laws_szTableau.c v0 v1 v2))
def laws_szRowS.c (v0 : List (List Int)) (v1 : Int) : List Cell := vc (.d .fro (.sl (.sl (.int .i64))) v0) :: vc (iL v1) :: []
def laws_szRowS.mk (b : Int) : R := (⟨.one, [iL b]⟩, nn 2 ([]))
def laws_szRowS.un (r : R) : Int := ((leafR r 0).dat (.int .i64))
noncomputable def laws_szRowS (v0 : List (List Int)) (v1 : Int) : Option (Int) := tOf laws_szRowS.mk (vlim E 86 (laws_szRowS.c v0 v1))
def laws_toTableau.c (v0 : Int) (v1 : List (List Int)) : List Cell := ac [iL v0, .d .fro (.sl (.sl (.int .i64))) v1] :: []
def laws_toTableau.mk (b : Int × (List (List Int))) : R := (⟨.agg, [iL b.1, .d .deep (.sl (.sl (.int .i64))) b.2]⟩, nn 1 ([]))
def laws_toTableau.un (r : R) : Int × (List (List Int)) := ((leafR r 0).dat (.int .i64), (leafR r 1).dat (.sl (.sl (.int .i64))))
noncomputable def laws_toTableau (v0 : Int) (v1 : List (List Int)) : Option (Int × (List (List Int))) := tOf laws_toTableau.mk (vlim E 34 (laws_toTableau.c v0 v1))
def laws_toRowS.c (v0 : List (List Int)) : List Cell := vc (.d .fro (.sl (.sl (.int .i64))) v0) :: []
def laws_toRowS.mk (b : (List (List Int))) : R := (⟨.one, [.d .deep (.sl (.sl (.int .i64))) b]⟩, nn 1 ([]))
def laws_toRowS.un (r : R) : (List (List Int)) := ((leafR r 0).dat (.sl (.sl (.int .i64))))
noncomputable def laws_toRowS (v0 : List (List Int)) : Option ((List (List Int))) := tOf laws_toRowS.mk (vlim E 91 (laws_toRowS.c v0))
def spec_TableauTable.c (v0 : Int) (v1 : List (List Int)) : List Cell := ac [iL v0, .d .fro (.sl (.sl (.int .i64))) v1] :: []
def spec_TableauTable.mk (b : Int × (List (List Int × Int)) × Bool) : R := (⟨(.tup [some 2, none]), [iL b.1, .d .deep (.sl (.pair (.sl (.int .i64)) (.int .i64))) b.2.1, bL b.2.2]⟩, nn 1 ([]))
def spec_TableauTable.un (r : R) : Int × (List (List Int × Int)) × Bool := ((leafR r 0).dat (.int .i64), (leafR r 1).dat (.sl (.pair (.sl (.int .i64)) (.int .i64))), (leafR r 2).dat .bool)
noncomputable def spec_TableauTable (v0 : Int) (v1 : List (List Int)) : Option (Int × (List (List Int × Int)) × Bool) := tOf spec_TableauTable.mk (vlim E 44 (spec_TableauTable.c v0 v1))
def spec_GoodTableau.c (v0 : Int) (v1 : List (List Int)) : List Cell := ac [iL v0, .d .fro (.sl (.sl (.int .i64))) v1] :: []
def spec_GoodTableau.mk (b : Bool) : R := (⟨.one, [bL b]⟩, nn 1 ([]))
def spec_GoodTableau.un (r : R) : Bool := ((leafR r 0).dat .bool)
noncomputable def spec_GoodTableau (v0 : Int) (v1 : List (List Int)) : Option (Bool) := tOf spec_GoodTableau.mk (vlim E 88 (spec_GoodTableau.c v0 v1))
def spec_l2Put.c (v0 : List (List Int × Int)) (v1 : List Int) (v2 : Int) : List Cell := vc (.d .fro (.sl (.pair (.sl (.int .i64)) (.int .i64))) v0) :: ac [.d .fro (.sl (.int .i64)) v1] :: vc (iL v2) :: []
def spec_l2Put.mk (b : (List (List Int × Int))) : R := (⟨.one, [.d .sha (.sl (.pair (.sl (.int .i64)) (.int .i64))) b]⟩, nn 3 ([]))
def spec_l2Put.un (r : R) : (List (List Int × Int)) := ((leafR r 0).dat (.sl (.pair (.sl (.int .i64)) (.int .i64))))
noncomputable def spec_l2Put (v0 : List (List Int × Int)) (v1 : List Int) (v2 : Int) : Option ((List (List Int × Int))) := tOf spec_l2Put.mk (vlim E 103 (spec_l2Put.c v0 v1 v2))
def spec_l3Distinct.c (v0 : List (List Int × Int)) : List Cell := vc (.d .fro (.sl (.pair (.sl (.int .i64)) (.int .i64))) v0) :: []
def spec_l3Distinct.mk (b : (List (List Int × Int))) : R := (⟨.one, [.d .sha (.sl (.pair (.sl (.int .i64)) (.int .i64))) b]⟩, nn 1 ([]))
def spec_l3Distinct.un (r : R) : (List (List Int × Int)) := ((leafR r 0).dat (.sl (.pair (.sl (.int .i64)) (.int .i64))))
noncomputable def spec_l3Distinct (v0 : List (List Int × Int)) : Option ((List (List Int × Int))) := tOf spec_l3Distinct.mk (vlim E 104 (spec_l3Distinct.c v0))
def impl_TableauTable.c (v0 : Int) (v1 : List (List Int)) : List Cell := ac [iL v0, .d .fro (.sl (.sl (.int .i64))) v1] :: []
def impl_TableauTable.mk (b : Int × (List (List Int × Int)) × Bool) : R := (⟨(.tup [some 2, none]), [iL b.1, .d .deep (.sl (.pair (.sl (.int .i64)) (.int .i64))) b.2.1, bL b.2.2]⟩, nn 1 ([]))
def impl_TableauTable.un (r : R) : Int × (List (List Int × Int)) × Bool := ((leafR r 0).dat (.int .i64), (leafR r 1).dat (.sl (.pair (.sl (.int .i64)) (.int .i64))), (leafR r 2).dat .bool)
noncomputable def impl_TableauTable (v0 : Int) (v1 : List (List Int)) : Option (Int × (List (List Int × Int)) × Bool) := tOf impl_TableauTable.mk (vlim E 45 (impl_TableauTable.c v0 v1))
def impl_GoodTableau.c (v0 : Int) (v1 : List (List Int)) : List Cell := ac [iL v0, .d .fro (.sl (.sl (.int .i64))) v1] :: []
def impl_GoodTableau.mk (b : Bool) : R := (⟨.one, [bL b]⟩, nn 1 ([]))
def impl_GoodTableau.un (r : R) : Bool := ((leafR r 0).dat .bool)
noncomputable def impl_GoodTableau (v0 : Int) (v1 : List (List Int)) : Option (Bool) := tOf impl_GoodTableau.mk (vlim E 93 (impl_GoodTableau.c v0 v1))
def xi0f.c (v0 : List (List Int)) (v1 : Int) (v2 : List (List Int)) : List Cell := vc (.d .fro (.sl (.sl (.int .i64))) v0) :: vc (.fn 160 [.rp [iL v1, .d .fro (.sl (.sl (.int .i64))) v2] 0]) :: []
def xi0f.mk (b : Bool) : R := (⟨.one, [bL b]⟩, nn 2 ([]))
def xi0f.un (r : R) : Bool := ((leafR r 0).dat .bool)
noncomputable def xi0f (v0 : List (List Int)) (v1 : Int) (v2 : List (List Int)) : Option (Bool) := tOf xi0f.mk (vlim E 159 (xi0f.c v0 v1 v2))
def xs00.c (v0 : List (List Int)) (v1 : Int) (v2 : List (List Int)) : List Cell := vc (.d .fro (.sl (.sl (.int .i64))) v0) :: vc (.fn 204 [.rp [.fn 160 [.rp [iL v1, .d .fro (.sl (.sl (.int .i64))) v2] 0]] 0]) :: []
def xs00.mk (b : Bool) : R := (⟨.one, [bL b]⟩, nn 2 ([]))
def xs00.un (r : R) : Bool := ((leafR r 0).dat .bool)
noncomputable def xs00 (v0 : List (List Int)) (v1 : Int) (v2 : List (List Int)) : Option (Bool) := tOf xs00.mk (vlim E 203 (xs00.c v0 v1 v2))
def xs01.c (v0 : List (List Int)) (v1 : Int) (v2 : List (List Int)) : List Cell := vc (.d .fro (.sl (.sl (.int .i64))) v0) :: vc (.fn 204 [.rp [.fn 160 [.rp [iL v1, .d .fro (.sl (.sl (.int .i64))) v2] 0]] 0]) :: []
def xs01.mk (b : Int) : R := (⟨.one, [iL b]⟩, nn 2 ([]))
def xs01.un (r : R) : Int := ((leafR r 0).dat (.int .i64))
noncomputable def xs01 (v0 : List (List Int)) (v1 : Int) (v2 : List (List Int)) : Option (Int) := tOf xs01.mk (vlim E 227 (xs01.c v0 v1 v2))
def xi0d.c (v0 : List Int) (v1 : Int) (v2 : List (List Int)) : List Cell := ac [.d .fro (.sl (.int .i64)) v0] :: vc (.rp [.fn 160 [.rp [iL v1, .d .fro (.sl (.sl (.int .i64))) v2] 0]] 0) :: []
def xi0d.mk (b : Bool) : R := (⟨.one, [bL b]⟩, nn 2 ([]))
def xi0d.un (r : R) : Bool := ((leafR r 0).dat .bool)
noncomputable def xi0d (v0 : List Int) (v1 : Int) (v2 : List (List Int)) : Option (Bool) := tOf xi0d.mk (vlim E 204 (xi0d.c v0 v1 v2))
def impl_GoodTableau_1.c (v0 : List Int) (v1 : Int) (v2 : List (List Int)) : List Cell := ac [.d .fro (.sl (.int .i64)) v0] :: vc (.rp [iL v1, .d .fro (.sl (.sl (.int .i64))) v2] 0) :: []
def impl_GoodTableau_1.mk (b : Bool) : R := (⟨.one, [bL b]⟩, nn 2 ([]))
def impl_GoodTableau_1.un (r : R) : Bool := ((leafR r 0).dat .bool)
noncomputable def impl_GoodTableau_1 (v0 : List Int) (v1 : Int) (v2 : List (List Int)) : Option (Bool) := tOf impl_GoodTableau_1.mk (vlim E 160 (impl_GoodTableau_1.c v0 v1 v2))
def xi0i.c (v0 : List Int) : List Cell := vc (.d .fro (.sl (.int .i64)) v0) :: vc (.fn 162 []) :: []
def xi0i.mk (b : Bool) : R := (⟨.one, [bL b]⟩, nn 2 ([]))
def xi0i.un (r : R) : Bool := ((leafR r 0).dat .bool)
noncomputable def xi0i (v0 : List Int) : Option (Bool) := tOf xi0i.mk (vlim E 161 (xi0i.c v0))
def xs03.c (v0 : List Int) : List Cell := vc (.d .fro (.sl (.int .i64)) v0) :: vc (.fn 206 [.rp [.fn 162 []] 0]) :: []
def xs03.mk (b : Bool) : R := (⟨.one, [bL b]⟩, nn 2 ([]))
def xs03.un (r : R) : Bool := ((leafR r 0).dat .bool)
noncomputable def xs03 (v0 : List Int) : Option (Bool) := tOf xs03.mk (vlim E 205 (xs03.c v0))
def xs04.c (v0 : List Int) : List Cell := vc (.d .fro (.sl (.int .i64)) v0) :: vc (.fn 206 [.rp [.fn 162 []] 0]) :: []
def xs04.mk (b : Int) : R := (⟨.one, [iL b]⟩, nn 2 ([]))
def xs04.un (r : R) : Int := ((leafR r 0).dat (.int .i64))
noncomputable def xs04 (v0 : List Int) : Option (Int) := tOf xs04.mk (vlim E 228 (xs04.c v0))
def xi0g.c (v0 : Int) : List Cell := vc (iL v0) :: vc (.rp [.fn 162 []] 0) :: []
def xi0g.mk (b : Bool) : R := (⟨.one, [bL b]⟩, nn 2 ([]))
def xi0g.un (r : R) : Bool := ((leafR r 0).dat .bool)
noncomputable def xi0g (v0 : Int) : Option (Bool) := tOf xi0g.mk (vlim E 206 (xi0g.c v0))
def xi0p.c (v0 : Int) : List Cell := vc (iL v0) :: []
def xi0p.mk (b : Bool) : R := (⟨.one, [bL b]⟩, nn 1 ([]))
def xi0p.un (r : R) : Bool := ((leafR r 0).dat .bool)
noncomputable def xi0p (v0 : Int) : Option (Bool) := tOf xi0p.mk (vlim E 162 (xi0p.c v0))
def impl_summed.c (v0 : Int) (v1 : List (List (List Int × Int))) : List Cell := vc (iL v0) :: vc (.d .fro (.sl (.sl (.pair (.sl (.int .i64)) (.int .i64)))) v1) :: []
def impl_summed.mk (b : Int × (List (List Int × Int))) : R := (⟨.agg, [iL b.1, .d .deep (.sl (.pair (.sl (.int .i64)) (.int .i64))) b.2]⟩, nn 2 ([]))
def impl_summed.un (r : R) : Int × (List (List Int × Int)) := ((leafR r 0).dat (.int .i64), (leafR r 1).dat (.sl (.pair (.sl (.int .i64)) (.int .i64))))
noncomputable def impl_summed (v0 : Int) (v1 : List (List (List Int × Int))) : Option (Int × (List (List Int × Int))) := tOf impl_summed.mk (vlim E 105 (impl_summed.c v0 v1))
def xs0e.c (v0 : List (List (List Int × Int))) : List Cell := vc (.d .fro (.sl (.sl (.pair (.sl (.int .i64)) (.int .i64)))) v0) :: []
def xs0e.mk (b : (List (List Int × Int))) : R := (⟨.one, [.d .sha (.sl (.pair (.sl (.int .i64)) (.int .i64))) b]⟩, nn 1 ([]))
def xs0e.un (r : R) : (List (List Int × Int)) := ((leafR r 0).dat (.sl (.pair (.sl (.int .i64)) (.int .i64))))
noncomputable def xs0e (v0 : List (List (List Int × Int))) : Option ((List (List Int × Int))) := tOf xs0e.mk (vlim E 169 (xs0e.c v0))
def xs0c.c (v0 : Int) : List Cell := vc (.nil (.pair (.sl (.int .i64)) (.int .i64))) :: vc (iL v0) :: []
def xs0c.mk (b : (List (List Int × Int))) : R := (⟨.one, [.d .deep (.sl (.pair (.sl (.int .i64)) (.int .i64))) b]⟩, nn 2 ([]))
def xs0c.un (r : R) : (List (List Int × Int)) := ((leafR r 0).dat (.sl (.pair (.sl (.int .i64)) (.int .i64))))
noncomputable def xs0c (v0 : Int) : Option ((List (List Int × Int))) := tOf xs0c.mk (vlim E 212 (xs0c.c v0))
def xs02.c (v0 : List (List Int × Int)) : List Cell := ⟨(.val .one), [.d .sha (.sl (.pair (.sl (.int .i64)) (.int .i64))) v0], true, false, false, 0, 0⟩ :: vc (.fn 171 []) :: []
def xs02.mk (b : (List (List Int × Int))) : R := (⟨(.tup []), []⟩, ⟨(.val .one), [.d .sha (.sl (.pair (.sl (.int .i64)) (.int .i64))) b], true, false, false, 0, 0⟩ :: nn 1 ([]))
def xs02.un (r : R) : (List (List Int × Int)) := ((leafF r 0 0).dat (.sl (.pair (.sl (.int .i64)) (.int .i64))))
noncomputable def xs02 (v0 : List (List Int × Int)) : Option ((List (List Int × Int))) := tOf xs02.mk (vlim E 170 (xs02.c v0))
def xs0b.c (v0 : List (List Int × Int)) (v1 : Int) : List Cell := ⟨(.val .one), [.d .sha (.sl (.pair (.sl (.int .i64)) (.int .i64))) v0], true, false, false, 0, 0⟩ :: vc (iL v1) :: vc (.fn 171 []) :: []
def xs0b.mk (b : (List (List Int × Int))) : R := (⟨(.tup []), []⟩, ⟨(.val .one), [.d .sha (.sl (.pair (.sl (.int .i64)) (.int .i64))) b], true, false, false, 0, 0⟩ :: nn 2 ([]))
def xs0b.un (r : R) : (List (List Int × Int)) := ((leafF r 0 0).dat (.sl (.pair (.sl (.int .i64)) (.int .i64))))
noncomputable def xs0b (v0 : List (List Int × Int)) (v1 : Int) : Option ((List (List Int × Int))) := tOf xs0b.mk (vlim E 213 (xs0b.c v0 v1))
def xs05.c (v0 : List (List Int × Int)) (v1 : Int) (v2 : Int) : List Cell := ⟨(.val .one), [.d .sha (.sl (.pair (.sl (.int .i64)) (.int .i64))) v0], true, false, false, 0, 0⟩ :: vc (iL v1) :: vc (iL v2) :: vc (.fn 171 []) :: []
def xs05.mk (b : (List (List Int × Int))) : R := (⟨(.tup []), []⟩, ⟨(.val .one), [.d .sha (.sl (.pair (.sl (.int .i64)) (.int .i64))) b], true, false, false, 0, 0⟩ :: nn 3 ([]))
def xs05.un (r : R) : (List (List Int × Int)) := ((leafF r 0 0).dat (.sl (.pair (.sl (.int .i64)) (.int .i64))))
noncomputable def xs05 (v0 : List (List Int × Int)) (v1 : Int) (v2 : Int) : Option ((List (List Int × Int))) := tOf xs05.mk (vlim E 229 (xs05.c v0 v1 v2))
def impl_summed_1.c (v0 : List Int) (v1 : Int) (v2 : List Int) (v3 : Int) : List Cell := ac [.d .fro (.sl (.int .i64)) v0, iL v1] :: ac [.d .fro (.sl (.int .i64)) v2, iL v3] :: []
def impl_summed_1.mk (b : Int) : R := (⟨.one, [iL b]⟩, nn 2 ([]))
def impl_summed_1.un (r : R) : Int := ((leafR r 0).dat (.int .i64))
noncomputable def impl_summed_1 (v0 : List Int) (v1 : Int) (v2 : List Int) (v3 : Int) : Option (Int) := tOf impl_summed_1.mk (vlim E 171 (impl_summed_1.c v0 v1 v2 v3))
def xs09.c (v0 : List (List Int × Int)) (v1 : Int) (v2 : Int) (v3 : Int) : List Cell := ⟨(.val .one), [.d .sha (.sl (.pair (.sl (.int .i64)) (.int .i64))) v0], true, false, false, 0, 0⟩ :: vc (iL v1) :: vc (iL v2) :: vc (iL v3) :: vc (.fn 171 []) :: []
def xs09.mk (b : (List (List Int × Int))) : R := (⟨(.tup []), []⟩, ⟨(.val .one), [.d .sha (.sl (.pair (.sl (.int .i64)) (.int .i64))) b], true, false, false, 0, 0⟩ :: nn 4 ([]))
def xs09.un (r : R) : (List (List Int × Int)) := ((leafF r 0 0).dat (.sl (.pair (.sl (.int .i64)) (.int .i64))))
noncomputable def xs09 (v0 : List (List Int × Int)) (v1 : Int) (v2 : Int) (v3 : Int) : Option ((List (List Int × Int))) := tOf xs09.mk (vlim E 230 (xs09.c v0 v1 v2 v3))
def xs0a.c (v0 : List (List Int × Int)) (v1 : Int) (v2 : Int) (v3 : Int) : List Cell := ⟨(.val .one), [.d .sha (.sl (.pair (.sl (.int .i64)) (.int .i64))) v0], true, false, false, 0, 0⟩ :: vc (iL v1) :: vc (iL v2) :: vc (iL v3) :: vc (.fn 171 []) :: []
def xs0a.mk (b : (List (List Int × Int))) : R := (⟨(.tup []), []⟩, ⟨(.val .one), [.d .sha (.sl (.pair (.sl (.int .i64)) (.int .i64))) b], true, false, false, 0, 0⟩ :: nn 4 ([]))
def xs0a.un (r : R) : (List (List Int × Int)) := ((leafF r 0 0).dat (.sl (.pair (.sl (.int .i64)) (.int .i64))))
noncomputable def xs0a (v0 : List (List Int × Int)) (v1 : Int) (v2 : Int) (v3 : Int) : Option ((List (List Int × Int))) := tOf xs0a.mk (vlim E 237 (xs0a.c v0 v1 v2 v3))
def xs07.c (v0 : List (List Int × Int)) (v1 : Int) (v2 : Int) (v3 : Int) : List Cell := ⟨(.val .one), [.d .sha (.sl (.pair (.sl (.int .i64)) (.int .i64))) v0], true, false, false, 0, 0⟩ :: vc (iL v1) :: vc (iL v2) :: vc (iL v3) :: vc (.fn 171 []) :: []
def xs07.mk (b : (List (List Int × Int))) : R := (⟨(.tup []), []⟩, ⟨(.val .one), [.d .sha (.sl (.pair (.sl (.int .i64)) (.int .i64))) b], true, false, false, 0, 0⟩ :: nn 4 ([]))
def xs07.un (r : R) : (List (List Int × Int)) := ((leafF r 0 0).dat (.sl (.pair (.sl (.int .i64)) (.int .i64))))
noncomputable def xs07 (v0 : List (List Int × Int)) (v1 : Int) (v2 : Int) (v3 : Int) : Option ((List (List Int × Int))) := tOf xs07.mk (vlim E 241 (xs07.c v0 v1 v2 v3))
def xi0s.c (v0 : Int) (v1 : List (List Int × Int)) : List Cell := ac [iL v0, .d .fro (.sl (.pair (.sl (.int .i64)) (.int .i64))) v1] :: []
def xi0s.mk (b : Int × (List (List Int × Int))) : R := (⟨.agg, [iL b.1, .d .deep (.sl (.pair (.sl (.int .i64)) (.int .i64))) b.2]⟩, nn 1 ([]))
def xi0s.un (r : R) : Int × (List (List Int × Int)) := ((leafR r 0).dat (.int .i64), (leafR r 1).dat (.sl (.pair (.sl (.int .i64)) (.int .i64))))
noncomputable def xi0s (v0 : Int) (v1 : List (List Int × Int)) : Option (Int × (List (List Int × Int))) := tOf xi0s.mk (vlim E 106 (xi0s.c v0 v1))
def xi0h.c (v0 : Int) (v1 : List (List Int × Int)) : List Cell := ac [iL v0, .d .fro (.sl (.pair (.sl (.int .i64)) (.int .i64))) v1] :: vc (.fn 172 []) :: []
def xi0h.mk (b : Int × (List (List Int × Int))) : R := (⟨.agg, [iL b.1, .d .deep (.sl (.pair (.sl (.int .i64)) (.int .i64))) b.2]⟩, nn 2 ([]))
def xi0h.un (r : R) : Int × (List (List Int × Int)) := ((leafR r 0).dat (.int .i64), (leafR r 1).dat (.sl (.pair (.sl (.int .i64)) (.int .i64))))
noncomputable def xi0h (v0 : Int) (v1 : List (List Int × Int)) : Option (Int × (List (List Int × Int))) := tOf xi0h.mk (vlim E 122 (xi0h.c v0 v1))
def xi0o.c (v0 : List Int) (v1 : Int) : List Cell := ac [.d .fro (.sl (.int .i64)) v0, iL v1] :: []
def xi0o.mk (b : Int) : R := (⟨.one, [iL b]⟩, nn 1 ([]))
def xi0o.un (r : R) : Int := ((leafR r 0).dat (.int .i64))
noncomputable def xi0o (v0 : List Int) (v1 : Int) : Option (Int) := tOf xi0o.mk (vlim E 172 (xi0o.c v0 v1))
def impl_one.c (v0 : Int) : List Cell := vc (iL v0) :: []
def impl_one.mk (b : Int) : R := (⟨.one, [iL b]⟩, nn 1 ([]))
def impl_one.un (r : R) : Int := ((leafR r 0).dat (.int .i64))
noncomputable def impl_one (v0 : Int) : Option (Int) := tOf impl_one.mk (vlim E 125 (impl_one.c v0))
def laws_eqTableau.c (v0 : Int) (v1 : List (List Int)) (v2 : Int) (v3 : List (List Int)) : List Cell := ac [iL v0, .d .fro (.sl (.sl (.int .i64))) v1] :: ac [iL v2, .d .fro (.sl (.sl (.int .i64))) v3] :: []
def laws_eqTableau.mk (b : Bool) : R := (⟨.one, [bL b]⟩, nn 2 ([]))
def laws_eqTableau.un (r : R) : Bool := ((leafR r 0).dat .bool)
noncomputable def laws_eqTableau (v0 : Int) (v1 : List (List Int)) (v2 : Int) (v3 : List (List Int)) : Option (Bool) := tOf laws_eqTableau.mk (vlim E 37 (laws_eqTableau.c v0 v1 v2 v3))
def laws_eqRowS.c (v0 : List (List Int)) (v1 : List (List Int)) : List Cell := vc (.d .fro (.sl (.sl (.int .i64))) v0) :: vc (.d .fro (.sl (.sl (.int .i64))) v1) :: []
def laws_eqRowS.mk (b : Bool) : R := (⟨.one, [bL b]⟩, nn 2 ([]))
def laws_eqRowS.un (r : R) : Bool := ((leafR r 0).dat .bool)
noncomputable def laws_eqRowS (v0 : List (List Int)) (v1 : List (List Int)) : Option (Bool) := tOf laws_eqRowS.mk (vlim E 97 (laws_eqRowS.c v0 v1))
def xl0q.c (v0 : Int) (v1 : List (List Int)) (v2 : Int) : List Cell := ⟨(.val .agg), [iL v0, .d .deep (.sl (.sl (.int .i64))) v1], true, false, false, 0, 0⟩ :: vc (iL v2) :: []
def xl0q.mk (b : Int × Int × (List (List Int))) : R := (⟨.one, [iL b.1]⟩, ⟨(.val .agg), [iL b.2.1, .d .deep (.sl (.sl (.int .i64))) b.2.2], true, false, false, 0, 0⟩ :: nn 1 ([]))
def xl0q.un (r : R) : Int × Int × (List (List Int)) := ((leafR r 0).dat (.int .i64), (leafF r 0 0).dat (.int .i64), (leafF r 0 1).dat (.sl (.sl (.int .i64))))
noncomputable def xl0q (v0 : Int) (v1 : List (List Int)) (v2 : Int) : Option (Int × Int × (List (List Int))) := tOf xl0q.mk (vlim E 39 (xl0q.c v0 v1 v2))
def laws_markRowS_1f6.c (v0 : List (List Int)) (v1 : Int) : List Cell := ⟨(.val .one), [.d .deep (.sl (.sl (.int .i64))) v0], true, false, false, 0, 0⟩ :: vc (iL v1) :: []
def laws_markRowS_1f6.mk (b : Int × (List (List Int))) : R := (⟨.one, [iL b.1]⟩, ⟨(.val .one), [.d .deep (.sl (.sl (.int .i64))) b.2], true, false, false, 0, 0⟩ :: nn 1 ([]))
def laws_markRowS_1f6.un (r : R) : Int × (List (List Int)) := ((leafR r 0).dat (.int .i64), (leafF r 0 0).dat (.sl (.sl (.int .i64))))
noncomputable def laws_markRowS_1f6 (v0 : List (List Int)) (v1 : Int) : Option (Int × (List (List Int))) := tOf laws_markRowS_1f6.mk (vlim E 99 (laws_markRowS_1f6.c v0 v1))
def tabT : List (Nat × List (List Cell × Tb)) := [
 (7, [(xl0l.c 0 [], ⟨Bool, xl0l.mk⟩)]),
 (19, [(laws_eqTable.c 0 [] 0 [], ⟨Bool, laws_eqTable.mk⟩)]),
 (21, [(laws_markTable_d7a.c 0 [] 0, ⟨Int × Int × (List (List Int × Int)), laws_markTable_d7a.mk⟩)]),
 (23, [(laws_heldTable.c 0 [] 0, ⟨Int, laws_heldTable.mk⟩)]),
 (31, [(laws_szTableau.c 0 [] 0, ⟨Int, laws_szTableau.mk⟩)]),
 (34, [(laws_toTableau.c 0 [], ⟨Int × (List (List Int)), laws_toTableau.mk⟩)]),
 (37, [(laws_eqTableau.c 0 [] 0 [], ⟨Bool, laws_eqTableau.mk⟩)]),
 (39, [(xl0q.c 0 [] 0, ⟨Int × Int × (List (List Int)), xl0q.mk⟩)]),
 (44, [(spec_TableauTable.c 0 [], ⟨Int × (List (List Int × Int)) × Bool, spec_TableauTable.mk⟩)]),
 (45, [(impl_TableauTable.c 0 [], ⟨Int × (List (List Int × Int)) × Bool, impl_TableauTable.mk⟩)]),
 (65, [(laws_szIntS.c [] 0, ⟨Int, laws_szIntS.mk⟩)]),
 (66, [(spec_GoodTable.c 0 [], ⟨Bool, spec_GoodTable.mk⟩)]),
 (68, [(spec_l2Tell.c 0 [], ⟨Int × (List (List Int × Int)) × Bool, spec_l2Tell.mk⟩)]),
 (71, [(laws_toIntS.c [], ⟨(List Int), laws_toIntS.mk⟩)]),
 (75, [(laws_eqWeightedS.c [] [], ⟨Bool, laws_eqWeightedS.mk⟩)]),
 (76, [(laws_eqIntS.c [] [], ⟨Bool, laws_eqIntS.mk⟩)]),
 (77, [(xl0m.c [] 0, ⟨Int × (List (List Int × Int)), xl0m.mk⟩)]),
 (78, [(laws_markIntS_83f.c [] 0, ⟨Int × (List Int), laws_markIntS_83f.mk⟩)]),
 (79, [(laws_heldWeightedS.c [] 0, ⟨Int, laws_heldWeightedS.mk⟩)]),
 (86, [(laws_szRowS.c [] 0, ⟨Int, laws_szRowS.mk⟩)]),
 (88, [(spec_GoodTableau.c 0 [], ⟨Bool, spec_GoodTableau.mk⟩)]),
 (91, [(laws_toRowS.c [], ⟨(List (List Int)), laws_toRowS.mk⟩)]),
 (93, [(impl_GoodTableau.c 0 [], ⟨Bool, impl_GoodTableau.mk⟩)]),
 (97, [(laws_eqRowS.c [] [], ⟨Bool, laws_eqRowS.mk⟩)]),
 (99, [(laws_markRowS_1f6.c [] 0, ⟨Int × (List (List Int)), laws_markRowS_1f6.mk⟩)]),
 (103, [(spec_l2Put.c [] [] 0, ⟨(List (List Int × Int)), spec_l2Put.mk⟩)]),
 (104, [(spec_l3Distinct.c [], ⟨(List (List Int × Int)), spec_l3Distinct.mk⟩)]),
 (105, [(impl_summed.c 0 [], ⟨Int × (List (List Int × Int)), impl_summed.mk⟩)]),
 (106, [(xi0s.c 0 [], ⟨Int × (List (List Int × Int)), xi0s.mk⟩)]),
 (117, [(laws_heldIntS.c [] 0, ⟨Int, laws_heldIntS.mk⟩)]),
 (122, [(xi0h.c 0 [], ⟨Int × (List (List Int × Int)), xi0h.mk⟩)]),
 (125, [(impl_one.c 0, ⟨Int, impl_one.mk⟩)]),
 (134, [(spec_GoodRow.c [], ⟨Bool, spec_GoodRow.mk⟩)]),
 (135, [(spec_l2Weight.c 0, ⟨Bool, spec_l2Weight.mk⟩)]),
 (136, [(spec_l1Compare.c [] [], ⟨Int, spec_l1Compare.mk⟩)]),
 (137, [(spec_l1In.c 0 0 0, ⟨Bool, spec_l1In.mk⟩)]),
 (138, [(spec_l2OwnRow.c [], ⟨(List Int), spec_l2OwnRow.mk⟩)]),
 (141, [(impl_isRowOf.c [] 0, ⟨Bool, impl_isRowOf.mk⟩)]),
 (143, [(impl_compareRows.c [] [], ⟨Int, impl_compareRows.mk⟩)]),
 (149, [(laws_eqWeighted.c [] 0 [] 0, ⟨Bool, laws_eqWeighted.mk⟩)]),
 (152, [(impl_Row_own.c [], ⟨(List Int), impl_Row_own.mk⟩)]),
 (153, [(laws_szRow.c [] 0, ⟨Int, laws_szRow.mk⟩)]),
 (157, [(laws_toRow.c [], ⟨(List Int), laws_toRow.mk⟩)]),
 (158, [(impl_within.c 0 0 0, ⟨Bool, impl_within.mk⟩)]),
 (159, [(xi0f.c [] 0 [], ⟨Bool, xi0f.mk⟩)]),
 (160, [(impl_GoodTableau_1.c [] 0 [], ⟨Bool, impl_GoodTableau_1.mk⟩)]),
 (161, [(xi0k.c [], ⟨Bool, xi0k.mk⟩), (xi0i.c [], ⟨Bool, xi0i.mk⟩)]),
 (162, [(xi0p.c 0, ⟨Bool, xi0p.mk⟩)]),
 (168, [(laws_eqRow.c [] [], ⟨Bool, laws_eqRow.mk⟩)]),
 (169, [(xs0e.c [], ⟨(List (List Int × Int)), xs0e.mk⟩)]),
 (170, [(xs02.c [], ⟨(List (List Int × Int)), xs02.mk⟩)]),
 (171, [(impl_summed_1.c [] 0 [] 0, ⟨Int, impl_summed_1.mk⟩)]),
 (172, [(xi0o.c [] 0, ⟨Int, xi0o.mk⟩)]),
 (178, [(xs0r.c [], ⟨(List Int), xs0r.mk⟩)]),
 (197, [(impl_GoodRow.c [], ⟨Bool, impl_GoodRow.mk⟩)]),
 (198, [(xs0n.c [] [], ⟨Int, xs0n.mk⟩)]),
 (203, [(xs00.c [] 0 [], ⟨Bool, xs00.mk⟩)]),
 (204, [(xi0d.c [] 0 [], ⟨Bool, xi0d.mk⟩)]),
 (205, [(xs06.c [], ⟨Bool, xs06.mk⟩), (xs03.c [], ⟨Bool, xs03.mk⟩)]),
 (206, [(xi0j.c 0, ⟨Bool, xi0j.mk⟩), (xi0g.c 0, ⟨Bool, xi0g.mk⟩)]),
 (212, [(xs0c.c 0, ⟨(List (List Int × Int)), xs0c.mk⟩)]),
 (213, [(xs0b.c [] 0, ⟨(List (List Int × Int)), xs0b.mk⟩)]),
 (223, [(impl_isCell.c 0, ⟨Bool, impl_isCell.mk⟩)]),
 (224, [(cmp_Compare_int.c 0 0, ⟨Int, cmp_Compare_int.mk⟩)]),
 (227, [(xs01.c [] 0 [], ⟨Int, xs01.mk⟩)]),
 (228, [(xs08.c [], ⟨Int, xs08.mk⟩), (xs04.c [], ⟨Int, xs04.mk⟩)]),
 (229, [(xs05.c [] 0 0, ⟨(List (List Int × Int)), xs05.mk⟩)]),
 (230, [(xs09.c [] 0 0 0, ⟨(List (List Int × Int)), xs09.mk⟩)]),
 (236, [(cmp_isNaN_int.c 0, ⟨Bool, cmp_isNaN_int.mk⟩)]),
 (237, [(xs0a.c [] 0 0 0, ⟨(List (List Int × Int)), xs0a.mk⟩)]),
 (241, [(xs07.c [] 0 0 0, ⟨(List (List Int × Int)), xs07.mk⟩)])]
def tab : FuncId → List Cell → Tb := fun g cs => match assoc tabT g with | some l => pickT l cs | none => ⟨Unit, fun _ => (⟨.one, []⟩, [])⟩
end GoV

/- Equations of the program's functions (printed by wip/tools/emit.py). -/
namespace GoV
open Go Go.Proofs
set_option maxRecDepth 100000

noncomputable def laws_szRow.t {γ : Type} (ret : (Int) → Option γ) (v0 : List Int) (v1 : Int) : Option γ :=
 (laws_szIntS (v0) (v1)).bind fun (r0 : Int) =>
 bif decide (r0 < (0 : Int)) then
  ret ((-1 : Int))
 else
  ret (r0)
theorem laws_szRow.k (v0 : List Int) (v1 : Int) : topL E (callT E tab) 153 Try.f153 (laws_szRow.c v0 v1) = laws_szRow.t (fun b => some (laws_szRow.mk b)) v0 v1 := by kernel_rfl
theorem laws_szRow.eq (v0 : List Int) (v1 : Int) {b : Int} (h : laws_szRow.t some v0 v1 = some b) : laws_szRow v0 v1 = some b := tOf_intro laws_szRow.un (fun _ => by kernel_rfl) (vlim_fn (callT_le E tab) rfl rfl rfl ((laws_szRow.k v0 v1).trans ((by unfold laws_szRow.t; repeat' first | exact Sub.ret | exact Sub.none | exact Sub.loop | apply Sub.cond | (apply Sub.bind; intro _) : Sub laws_szRow.mk _ _) b h)))
noncomputable def laws_szIntS.t {γ : Type} (ret : (Int) → Option γ) (v0 : List Int) (v1 : Int) : Option γ :=
 bif decide (IntKind.i64.wrap (v1 - (↑v0.length : Int)) < (0 : Int)) then
  ret ((-1 : Int))
 else
  ret (IntKind.i64.wrap (v1 - (↑v0.length : Int)))
theorem laws_szIntS.k (v0 : List Int) (v1 : Int) : topL E (callT E tab) 65 Try.f65 (laws_szIntS.c v0 v1) = laws_szIntS.t (fun b => some (laws_szIntS.mk b)) v0 v1 := by kernel_rfl
theorem laws_szIntS.eq (v0 : List Int) (v1 : Int) {b : Int} (h : laws_szIntS.t some v0 v1 = some b) : laws_szIntS v0 v1 = some b := tOf_intro laws_szIntS.un (fun _ => by kernel_rfl) (vlim_fn (callT_le E tab) rfl rfl rfl ((laws_szIntS.k v0 v1).trans ((by unfold laws_szIntS.t; repeat' first | exact Sub.ret | exact Sub.none | exact Sub.loop | apply Sub.cond | (apply Sub.bind; intro _) : Sub laws_szIntS.mk _ _) b h)))
noncomputable def laws_toRow.t {γ : Type} (ret : ((List Int)) → Option γ) (v0 : List Int) : Option γ :=
 (laws_toIntS (v0)).bind fun (r0 : (List Int)) =>
 ret (r0)
theorem laws_toRow.k (v0 : List Int) : topL E (callT E tab) 157 Try.f157 (laws_toRow.c v0) = laws_toRow.t (fun b => some (laws_toRow.mk b)) v0 := by kernel_rfl
theorem laws_toRow.eq (v0 : List Int) {b : (List Int)} (h : laws_toRow.t some v0 = some b) : laws_toRow v0 = some b := tOf_intro laws_toRow.un (fun _ => by kernel_rfl) (vlim_fn (callT_le E tab) rfl rfl rfl ((laws_toRow.k v0).trans ((by unfold laws_toRow.t; repeat' first | exact Sub.ret | exact Sub.none | exact Sub.loop | apply Sub.cond | (apply Sub.bind; intro _) : Sub laws_toRow.mk _ _) b h)))
noncomputable def laws_toIntS.q3 (v0 : List Int) (v1 : List Int) (v2 : Int) : Option R := loopAtL E (callT E tab) 71 Try.f71 1 [.r, .r, .l, .r, .b] (vc (.d .fro (.sl (.int .i64)) v0) :: nn 2 (vc (.d .deep (.sl (.int .i64)) v1) :: vc (iL v2) :: nn 17 ([])))
noncomputable def laws_toIntS.l3 (v0 : List Int) (v1 : List Int) (v2 : Int) : Option ((List Int)) := tOf laws_toIntS.mk (laws_toIntS.q3 v0 v1 v2)
noncomputable def laws_toIntS.t {γ : Type} (ret : ((List Int)) → Option γ) (lp3 : (List Int) → (List Int) → Int → Option γ) (v0 : List Int) : Option γ :=
 bif decide ((↑v0.length : Int) = (↑v0.length : Int)) then
  bif decide ((↑v0.length : Int) ≤ (↑(4294967296 : Nat) : Int)) then
   lp3 (v0) (List.replicate (↑v0.length : Int).toNat (0 : Int)) ((0 : Int))
  else
   none
 else
  none
noncomputable def laws_toIntS.t3 {γ : Type} (ret : ((List Int)) → Option γ) (lp3 : (List Int) → (List Int) → Int → Option γ) (v0 : List Int) (v1 : List Int) (v2 : Int) : Option γ :=
 bif decide (v2 < (↑v0.length : Int)) then
  bif decide ((0 : Int) ≤ v2) then
   bif decide (v2.toNat < v0.length) then
    bif decide ((0 : Int) ≤ v2) then
     bif decide (v2.toNat < v1.length) then
      bif decide (v2.toNat < v1.length) then
       lp3 (v0) (v1.set v2.toNat (v0.getD v2.toNat (0 : Int))) (IntKind.i64.wrap (v2 + (1 : Int)))
      else
       none
     else
      none
    else
     none
   else
    none
  else
   none
 else
  ret (v1)
theorem laws_toIntS.k (v0 : List Int) : topL E (callT E tab) 71 Try.f71 (laws_toIntS.c v0) = laws_toIntS.t (fun b => some (laws_toIntS.mk b)) laws_toIntS.q3 v0 := by kernel_rfl
theorem laws_toIntS.k3 (v0 : List Int) (v1 : List Int) (v2 : Int) : roundL E (callT E tab) 71 Try.f71 1 [.r, .r, .l, .r, .b] (vc (.d .fro (.sl (.int .i64)) v0) :: nn 2 (vc (.d .deep (.sl (.int .i64)) v1) :: vc (iL v2) :: nn 17 ([]))) = laws_toIntS.t3 (fun b => some (laws_toIntS.mk b)) laws_toIntS.q3 v0 v1 v2 := by kernel_rfl
theorem laws_toIntS.eq (v0 : List Int) {b : (List Int)} (h : laws_toIntS.t some laws_toIntS.l3 v0 = some b) : laws_toIntS v0 = some b := tOf_intro laws_toIntS.un (fun _ => by kernel_rfl) (vlim_fn (callT_le E tab) rfl rfl rfl ((laws_toIntS.k v0).trans ((by unfold laws_toIntS.t; repeat' first | exact Sub.ret | exact Sub.none | exact Sub.loop | apply Sub.cond | (apply Sub.bind; intro _) : Sub laws_toIntS.mk _ _) b h)))
theorem laws_toIntS.eq3 (v0 : List Int) (v1 : List Int) (v2 : Int) {b : (List Int)} (h : laws_toIntS.t3 some laws_toIntS.l3 v0 v1 v2 = some b) : laws_toIntS.l3 v0 v1 v2 = some b := tOf_intro laws_toIntS.un (fun _ => by kernel_rfl) (loopAtL_step ((laws_toIntS.k3 v0 v1 v2).trans ((by unfold laws_toIntS.t3; repeat' first | exact Sub.ret | exact Sub.none | exact Sub.loop | apply Sub.cond | (apply Sub.bind; intro _) : Sub laws_toIntS.mk _ _) b h)))
noncomputable def spec_GoodTable.q2 (v0 : Int) (v1 : List (List Int × Int)) (v2 : List (List Int × Int)) (v3 : Int) (v4 : Int) : Option R := loopAtL E (callT E tab) 66 Try.f66 1 [.r, .l, .r, .b] (nn 1 (⟨(.box false), [iL v0, .d .fro (.sl (.pair (.sl (.int .i64)) (.int .i64))) v1], false, false, false, 0, 0⟩ :: nn 4 (vc (.d .fro (.sl (.pair (.sl (.int .i64)) (.int .i64))) v2) :: vc (iL v3) :: vc (iL v4) :: nn 55 ([]))))
noncomputable def spec_GoodTable.l2 (v0 : Int) (v1 : List (List Int × Int)) (v2 : List (List Int × Int)) (v3 : Int) (v4 : Int) : Option (Bool) := tOf spec_GoodTable.mk (spec_GoodTable.q2 v0 v1 v2 v3 v4)
noncomputable def spec_GoodTable.t {γ : Type} (ret : (Bool) → Option γ) (lp2 : Int → (List (List Int × Int)) → (List (List Int × Int)) → Int → Int → Option γ) (v0 : Int) (v1 : List (List Int × Int)) : Option γ :=
 lp2 (v0) (v1) (v1) ((↑v1.length : Int)) ((0 : Int))
noncomputable def spec_GoodTable.t2 {γ : Type} (ret : (Bool) → Option γ) (lp2 : Int → (List (List Int × Int)) → (List (List Int × Int)) → Int → Int → Option γ) (v0 : Int) (v1 : List (List Int × Int)) (v2 : List (List Int × Int)) (v3 : Int) (v4 : Int) : Option γ :=
 bif decide (v4 < v3) then
  bif decide ((0 : Int) ≤ v4) then
   bif decide (v4.toNat < v2.length) then
    (spec_GoodRow ((v2.getD v4.toNat ([], (0 : Int))).fst)).bind fun (r0 : Bool) =>
    bif !r0 then
     ret (Bool.false)
    else
     bif (↑(v2.getD v4.toNat ([], (0 : Int))).fst.length : Int) != v0 then
      ret (Bool.false)
     else
      (spec_l2Weight ((v2.getD v4.toNat ([], (0 : Int))).snd)).bind fun (r1 : Bool) =>
      bif !r1 then
       ret (Bool.false)
      else
       bif (v2.getD v4.toNat ([], (0 : Int))).snd == (0 : Int) then
        ret (Bool.false)
       else
        bif decide (v4 > (0 : Int)) then
         bif decide ((0 : Int) ≤ IntKind.i64.wrap (v4 - (1 : Int))) then
          bif decide ((IntKind.i64.wrap (v4 - (1 : Int))).toNat < v1.length) then
           (spec_l1Compare ((v1.getD (IntKind.i64.wrap (v4 - (1 : Int))).toNat ([], (0 : Int))).fst) ((v2.getD v4.toNat ([], (0 : Int))).fst)).bind fun (r2 : Int) =>
           bif decide (r2 ≥ (0 : Int)) then
            ret (Bool.false)
           else
            lp2 (v0) (v1) (v2) (v3) (IntKind.i64.wrap (v4 + (1 : Int)))
          else
           none
         else
          none
        else
         lp2 (v0) (v1) (v2) (v3) (IntKind.i64.wrap (v4 + (1 : Int)))
   else
    none
  else
   none
 else
  (spec_l1In (v0) ((0 : Int)) ((6 : Int))).bind fun (r3 : Bool) =>
  bif r3 then
   ret (decide ((↑v1.length : Int) ≤ (60 : Int)))
  else
   ret (Bool.false)
theorem spec_GoodTable.k (v0 : Int) (v1 : List (List Int × Int)) : topL E (callT E tab) 66 Try.f66 (spec_GoodTable.c v0 v1) = spec_GoodTable.t (fun b => some (spec_GoodTable.mk b)) spec_GoodTable.q2 v0 v1 := by kernel_rfl
theorem spec_GoodTable.k2 (v0 : Int) (v1 : List (List Int × Int)) (v2 : List (List Int × Int)) (v3 : Int) (v4 : Int) : roundL E (callT E tab) 66 Try.f66 1 [.r, .l, .r, .b] (nn 1 (⟨(.box false), [iL v0, .d .fro (.sl (.pair (.sl (.int .i64)) (.int .i64))) v1], false, false, false, 0, 0⟩ :: nn 4 (vc (.d .fro (.sl (.pair (.sl (.int .i64)) (.int .i64))) v2) :: vc (iL v3) :: vc (iL v4) :: nn 55 ([])))) = spec_GoodTable.t2 (fun b => some (spec_GoodTable.mk b)) spec_GoodTable.q2 v0 v1 v2 v3 v4 := by kernel_rfl
theorem spec_GoodTable.eq (v0 : Int) (v1 : List (List Int × Int)) {b : Bool} (h : spec_GoodTable.t some spec_GoodTable.l2 v0 v1 = some b) : spec_GoodTable v0 v1 = some b := tOf_intro spec_GoodTable.un (fun _ => by kernel_rfl) (vlim_fn (callT_le E tab) rfl rfl rfl ((spec_GoodTable.k v0 v1).trans ((by unfold spec_GoodTable.t; repeat' first | exact Sub.ret | exact Sub.none | exact Sub.loop | apply Sub.cond | (apply Sub.bind; intro _) : Sub spec_GoodTable.mk _ _) b h)))
theorem spec_GoodTable.eq2 (v0 : Int) (v1 : List (List Int × Int)) (v2 : List (List Int × Int)) (v3 : Int) (v4 : Int) {b : Bool} (h : spec_GoodTable.t2 some spec_GoodTable.l2 v0 v1 v2 v3 v4 = some b) : spec_GoodTable.l2 v0 v1 v2 v3 v4 = some b := tOf_intro spec_GoodTable.un (fun _ => by kernel_rfl) (loopAtL_step ((spec_GoodTable.k2 v0 v1 v2 v3 v4).trans ((by unfold spec_GoodTable.t2; repeat' first | exact Sub.ret | exact Sub.none | exact Sub.loop | apply Sub.cond | (apply Sub.bind; intro _) : Sub spec_GoodTable.mk _ _) b h)))
noncomputable def spec_GoodRow.q2 (v0 : List Int) (v1 : List Int) (v2 : Int) (v3 : Int) : Option R := loopAtL E (callT E tab) 134 Try.f134 1 [.r, .l, .r, .b] (nn 1 (⟨(.box false), [.d .fro (.sl (.int .i64)) v0], false, false, false, 0, 0⟩ :: nn 4 (vc (.d .fro (.sl (.int .i64)) v1) :: vc (iL v2) :: vc (iL v3) :: nn 11 ([]))))
noncomputable def spec_GoodRow.l2 (v0 : List Int) (v1 : List Int) (v2 : Int) (v3 : Int) : Option (Bool) := tOf spec_GoodRow.mk (spec_GoodRow.q2 v0 v1 v2 v3)
noncomputable def spec_GoodRow.t {γ : Type} (ret : (Bool) → Option γ) (lp2 : (List Int) → (List Int) → Int → Int → Option γ) (v0 : List Int) : Option γ :=
 lp2 (v0) (v0) ((↑v0.length : Int)) ((0 : Int))
noncomputable def spec_GoodRow.t2 {γ : Type} (ret : (Bool) → Option γ) (lp2 : (List Int) → (List Int) → Int → Int → Option γ) (v0 : List Int) (v1 : List Int) (v2 : Int) (v3 : Int) : Option γ :=
 bif decide (v3 < v2) then
  bif decide ((0 : Int) ≤ v3) then
   bif decide (v3.toNat < v1.length) then
    (spec_l1In (v1.getD v3.toNat (0 : Int)) ((-100000 : Int)) ((100000 : Int))).bind fun (r0 : Bool) =>
    bif !r0 then
     ret (Bool.false)
    else
     lp2 (v0) (v1) (v2) (IntKind.i64.wrap (v3 + (1 : Int)))
   else
    none
  else
   none
 else
  ret (decide ((↑v0.length : Int) ≤ (6 : Int)))
theorem spec_GoodRow.k (v0 : List Int) : topL E (callT E tab) 134 Try.f134 (spec_GoodRow.c v0) = spec_GoodRow.t (fun b => some (spec_GoodRow.mk b)) spec_GoodRow.q2 v0 := by kernel_rfl
theorem spec_GoodRow.k2 (v0 : List Int) (v1 : List Int) (v2 : Int) (v3 : Int) : roundL E (callT E tab) 134 Try.f134 1 [.r, .l, .r, .b] (nn 1 (⟨(.box false), [.d .fro (.sl (.int .i64)) v0], false, false, false, 0, 0⟩ :: nn 4 (vc (.d .fro (.sl (.int .i64)) v1) :: vc (iL v2) :: vc (iL v3) :: nn 11 ([])))) = spec_GoodRow.t2 (fun b => some (spec_GoodRow.mk b)) spec_GoodRow.q2 v0 v1 v2 v3 := by kernel_rfl
theorem spec_GoodRow.eq (v0 : List Int) {b : Bool} (h : spec_GoodRow.t some spec_GoodRow.l2 v0 = some b) : spec_GoodRow v0 = some b := tOf_intro spec_GoodRow.un (fun _ => by kernel_rfl) (vlim_fn (callT_le E tab) rfl rfl rfl ((spec_GoodRow.k v0).trans ((by unfold spec_GoodRow.t; repeat' first | exact Sub.ret | exact Sub.none | exact Sub.loop | apply Sub.cond | (apply Sub.bind; intro _) : Sub spec_GoodRow.mk _ _) b h)))
theorem spec_GoodRow.eq2 (v0 : List Int) (v1 : List Int) (v2 : Int) (v3 : Int) {b : Bool} (h : spec_GoodRow.t2 some spec_GoodRow.l2 v0 v1 v2 v3 = some b) : spec_GoodRow.l2 v0 v1 v2 v3 = some b := tOf_intro spec_GoodRow.un (fun _ => by kernel_rfl) (loopAtL_step ((spec_GoodRow.k2 v0 v1 v2 v3).trans ((by unfold spec_GoodRow.t2; repeat' first | exact Sub.ret | exact Sub.none | exact Sub.loop | apply Sub.cond | (apply Sub.bind; intro _) : Sub spec_GoodRow.mk _ _) b h)))
noncomputable def spec_l1In.t {γ : Type} (ret : (Bool) → Option γ) (v0 : Int) (v1 : Int) (v2 : Int) : Option γ :=
 bif decide (v0 ≥ v1) then
  ret (decide (v0 ≤ v2))
 else
  ret (Bool.false)
theorem spec_l1In.k (v0 : Int) (v1 : Int) (v2 : Int) : topL E (callT E tab) 137 Try.f137 (spec_l1In.c v0 v1 v2) = spec_l1In.t (fun b => some (spec_l1In.mk b)) v0 v1 v2 := by kernel_rfl
theorem spec_l1In.eq (v0 : Int) (v1 : Int) (v2 : Int) {b : Bool} (h : spec_l1In.t some v0 v1 v2 = some b) : spec_l1In v0 v1 v2 = some b := tOf_intro spec_l1In.un (fun _ => by kernel_rfl) (vlim_fn (callT_le E tab) rfl rfl rfl ((spec_l1In.k v0 v1 v2).trans ((by unfold spec_l1In.t; repeat' first | exact Sub.ret | exact Sub.none | exact Sub.loop | apply Sub.cond | (apply Sub.bind; intro _) : Sub spec_l1In.mk _ _) b h)))
noncomputable def spec_l2Weight.t {γ : Type} (ret : (Bool) → Option γ) (v0 : Int) : Option γ :=
 (spec_l1In (v0) ((-1000000 : Int)) ((1000000 : Int))).bind fun (r0 : Bool) =>
 ret (r0)
theorem spec_l2Weight.k (v0 : Int) : topL E (callT E tab) 135 Try.f135 (spec_l2Weight.c v0) = spec_l2Weight.t (fun b => some (spec_l2Weight.mk b)) v0 := by kernel_rfl
theorem spec_l2Weight.eq (v0 : Int) {b : Bool} (h : spec_l2Weight.t some v0 = some b) : spec_l2Weight v0 = some b := tOf_intro spec_l2Weight.un (fun _ => by kernel_rfl) (vlim_fn (callT_le E tab) rfl rfl rfl ((spec_l2Weight.k v0).trans ((by unfold spec_l2Weight.t; repeat' first | exact Sub.ret | exact Sub.none | exact Sub.loop | apply Sub.cond | (apply Sub.bind; intro _) : Sub spec_l2Weight.mk _ _) b h)))
noncomputable def spec_l1Compare.q2 (v0 : List Int) (v1 : List Int) (v2 : Int) : Option R := loopAtL E (callT E tab) 136 Try.f136 2 [.r, .l, .r, .b] (nn 2 (⟨(.box false), [.d .fro (.sl (.int .i64)) v0], false, false, false, 0, 0⟩ :: ⟨(.box false), [.d .fro (.sl (.int .i64)) v1], false, false, false, 0, 0⟩ :: nn 1 (vc (iL v2) :: nn 52 ([]))))
noncomputable def spec_l1Compare.l2 (v0 : List Int) (v1 : List Int) (v2 : Int) : Option (Int) := tOf spec_l1Compare.mk (spec_l1Compare.q2 v0 v1 v2)
noncomputable def spec_l1Compare.t {γ : Type} (ret : (Int) → Option γ) (lp2 : (List Int) → (List Int) → Int → Option γ) (v0 : List Int) (v1 : List Int) : Option γ :=
 lp2 (v0) (v1) ((0 : Int))
noncomputable def spec_l1Compare.t2 {γ : Type} (ret : (Int) → Option γ) (lp2 : (List Int) → (List Int) → Int → Option γ) (v0 : List Int) (v1 : List Int) (v2 : Int) : Option γ :=
 bif decide (v2 < (↑v0.length : Int)) then
  bif decide (v2 < (↑v1.length : Int)) then
   bif decide ((0 : Int) ≤ v2) then
    bif decide (v2.toNat < v0.length) then
     bif decide ((0 : Int) ≤ v2) then
      bif decide (v2.toNat < v1.length) then
       bif decide (v0.getD v2.toNat (0 : Int) < v1.getD v2.toNat (0 : Int)) then
        ret ((-1 : Int))
       else
        bif decide ((0 : Int) ≤ v2) then
         bif decide (v2.toNat < v0.length) then
          bif decide ((0 : Int) ≤ v2) then
           bif decide (v2.toNat < v1.length) then
            bif decide (v0.getD v2.toNat (0 : Int) > v1.getD v2.toNat (0 : Int)) then
             ret ((1 : Int))
            else
             lp2 (v0) (v1) (IntKind.i64.wrap (v2 + (1 : Int)))
           else
            none
          else
           none
         else
          none
        else
         none
      else
       none
     else
      none
    else
     none
   else
    none
  else
   bif decide ((↑v0.length : Int) < (↑v1.length : Int)) then
    ret ((-1 : Int))
   else
    bif decide ((↑v0.length : Int) > (↑v1.length : Int)) then
     ret ((1 : Int))
    else
     ret ((0 : Int))
 else
  bif decide ((↑v0.length : Int) < (↑v1.length : Int)) then
   ret ((-1 : Int))
  else
   bif decide ((↑v0.length : Int) > (↑v1.length : Int)) then
    ret ((1 : Int))
   else
    ret ((0 : Int))
theorem spec_l1Compare.k (v0 : List Int) (v1 : List Int) : topL E (callT E tab) 136 Try.f136 (spec_l1Compare.c v0 v1) = spec_l1Compare.t (fun b => some (spec_l1Compare.mk b)) spec_l1Compare.q2 v0 v1 := by kernel_rfl
theorem spec_l1Compare.k2 (v0 : List Int) (v1 : List Int) (v2 : Int) : roundL E (callT E tab) 136 Try.f136 2 [.r, .l, .r, .b] (nn 2 (⟨(.box false), [.d .fro (.sl (.int .i64)) v0], false, false, false, 0, 0⟩ :: ⟨(.box false), [.d .fro (.sl (.int .i64)) v1], false, false, false, 0, 0⟩ :: nn 1 (vc (iL v2) :: nn 52 ([])))) = spec_l1Compare.t2 (fun b => some (spec_l1Compare.mk b)) spec_l1Compare.q2 v0 v1 v2 := by kernel_rfl
theorem spec_l1Compare.eq (v0 : List Int) (v1 : List Int) {b : Int} (h : spec_l1Compare.t some spec_l1Compare.l2 v0 v1 = some b) : spec_l1Compare v0 v1 = some b := tOf_intro spec_l1Compare.un (fun _ => by kernel_rfl) (vlim_fn (callT_le E tab) rfl rfl rfl ((spec_l1Compare.k v0 v1).trans ((by unfold spec_l1Compare.t; repeat' first | exact Sub.ret | exact Sub.none | exact Sub.loop | apply Sub.cond | (apply Sub.bind; intro _) : Sub spec_l1Compare.mk _ _) b h)))
theorem spec_l1Compare.eq2 (v0 : List Int) (v1 : List Int) (v2 : Int) {b : Int} (h : spec_l1Compare.t2 some spec_l1Compare.l2 v0 v1 v2 = some b) : spec_l1Compare.l2 v0 v1 v2 = some b := tOf_intro spec_l1Compare.un (fun _ => by kernel_rfl) (loopAtL_step ((spec_l1Compare.k2 v0 v1 v2).trans ((by unfold spec_l1Compare.t2; repeat' first | exact Sub.ret | exact Sub.none | exact Sub.loop | apply Sub.cond | (apply Sub.bind; intro _) : Sub spec_l1Compare.mk _ _) b h)))
noncomputable def spec_l2Tell.q3 (v0 : Int) (v1 : List (List Int × Int)) (v2 : Int) (v3 : List (List Int × Int)) (v4 : List (List Int × Int)) (v5 : Int) (v6 : Int) : Option R := loopAtL E (callT E tab) 68 Try.f68 2 [.r, .r, .l, .r, .b] (nn 4 (⟨(.box false), [iL v0, .d .deep (.sl (.pair (.sl (.int .i64)) (.int .i64))) v1], false, false, false, 0, 0⟩ :: nn 1 (⟨(.box false), [iL v2, .d .deep (.sl (.pair (.sl (.int .i64)) (.int .i64))) v3], false, false, false, 0, 0⟩ :: nn 4 (vc (.d .fro (.sl (.pair (.sl (.int .i64)) (.int .i64))) v4) :: vc (iL v5) :: vc (iL v6) :: nn 20 ([])))))
noncomputable def spec_l2Tell.l3 (v0 : Int) (v1 : List (List Int × Int)) (v2 : Int) (v3 : List (List Int × Int)) (v4 : List (List Int × Int)) (v5 : Int) (v6 : Int) : Option (Int × (List (List Int × Int)) × Bool) := tOf spec_l2Tell.mk (spec_l2Tell.q3 v0 v1 v2 v3 v4 v5 v6)
noncomputable def spec_l2Tell.t {γ : Type} (ret : (Int × (List (List Int × Int)) × Bool) → Option γ) (lp3 : Int → (List (List Int × Int)) → Int → (List (List Int × Int)) → (List (List Int × Int)) → Int → Int → Option γ) (v0 : Int) (v1 : List (List Int × Int)) : Option γ :=
 lp3 ((0 : Int)) ([]) (v0) ([]) (v1) ((↑v1.length : Int)) ((0 : Int))
noncomputable def spec_l2Tell.t3 {γ : Type} (ret : (Int × (List (List Int × Int)) × Bool) → Option γ) (lp3 : Int → (List (List Int × Int)) → Int → (List (List Int × Int)) → (List (List Int × Int)) → Int → Int → Option γ) (v0 : Int) (v1 : List (List Int × Int)) (v2 : Int) (v3 : List (List Int × Int)) (v4 : List (List Int × Int)) (v5 : Int) (v6 : Int) : Option γ :=
 bif decide (v6 < v5) then
  bif decide ((0 : Int) ≤ v6) then
   bif decide (v6.toNat < v4.length) then
    (spec_l2OwnRow ((v4.getD v6.toNat ([], (0 : Int))).fst)).bind fun (r0 : (List Int)) =>
    bif decide (v3.length + [(r0, (v4.getD v6.toNat ([], (0 : Int))).snd)].length ≤ (4294967296 : Nat)) then
     lp3 (v0) (v1) (v2) (v3 ++ [(r0, (v4.getD v6.toNat ([], (0 : Int))).snd)]) (v4) (v5) (IntKind.i64.wrap (v6 + (1 : Int)))
    else
     none
   else
    none
  else
   none
 else
  (spec_GoodTable (v2) (v3)).bind fun (r1 : Bool) =>
  bif !r1 then
   ret ((0 : Int), [], Bool.false)
  else
   ret (v2, v3, Bool.true)
theorem spec_l2Tell.k (v0 : Int) (v1 : List (List Int × Int)) : topL E (callT E tab) 68 Try.f68 (spec_l2Tell.c v0 v1) = spec_l2Tell.t (fun b => some (spec_l2Tell.mk b)) spec_l2Tell.q3 v0 v1 := by kernel_rfl
theorem spec_l2Tell.k3 (v0 : Int) (v1 : List (List Int × Int)) (v2 : Int) (v3 : List (List Int × Int)) (v4 : List (List Int × Int)) (v5 : Int) (v6 : Int) : roundL E (callT E tab) 68 Try.f68 2 [.r, .r, .l, .r, .b] (nn 4 (⟨(.box false), [iL v0, .d .deep (.sl (.pair (.sl (.int .i64)) (.int .i64))) v1], false, false, false, 0, 0⟩ :: nn 1 (⟨(.box false), [iL v2, .d .deep (.sl (.pair (.sl (.int .i64)) (.int .i64))) v3], false, false, false, 0, 0⟩ :: nn 4 (vc (.d .fro (.sl (.pair (.sl (.int .i64)) (.int .i64))) v4) :: vc (iL v5) :: vc (iL v6) :: nn 20 ([]))))) = spec_l2Tell.t3 (fun b => some (spec_l2Tell.mk b)) spec_l2Tell.q3 v0 v1 v2 v3 v4 v5 v6 := by kernel_rfl
theorem spec_l2Tell.eq (v0 : Int) (v1 : List (List Int × Int)) {b : Int × (List (List Int × Int)) × Bool} (h : spec_l2Tell.t some spec_l2Tell.l3 v0 v1 = some b) : spec_l2Tell v0 v1 = some b := tOf_intro spec_l2Tell.un (fun _ => by kernel_rfl) (vlim_fn (callT_le E tab) rfl rfl rfl ((spec_l2Tell.k v0 v1).trans ((by unfold spec_l2Tell.t; repeat' first | exact Sub.ret | exact Sub.none | exact Sub.loop | apply Sub.cond | (apply Sub.bind; intro _) : Sub spec_l2Tell.mk _ _) b h)))
theorem spec_l2Tell.eq3 (v0 : Int) (v1 : List (List Int × Int)) (v2 : Int) (v3 : List (List Int × Int)) (v4 : List (List Int × Int)) (v5 : Int) (v6 : Int) {b : Int × (List (List Int × Int)) × Bool} (h : spec_l2Tell.t3 some spec_l2Tell.l3 v0 v1 v2 v3 v4 v5 v6 = some b) : spec_l2Tell.l3 v0 v1 v2 v3 v4 v5 v6 = some b := tOf_intro spec_l2Tell.un (fun _ => by kernel_rfl) (loopAtL_step ((spec_l2Tell.k3 v0 v1 v2 v3 v4 v5 v6).trans ((by unfold spec_l2Tell.t3; repeat' first | exact Sub.ret | exact Sub.none | exact Sub.loop | apply Sub.cond | (apply Sub.bind; intro _) : Sub spec_l2Tell.mk _ _) b h)))
noncomputable def spec_l2OwnRow.t {γ : Type} (ret : ((List Int)) → Option γ) (v0 : List Int) : Option γ :=
 bif decide (([] : List Int).length + v0.length ≤ (4294967296 : Nat)) then
  ret ([] ++ v0)
 else
  none
theorem spec_l2OwnRow.k (v0 : List Int) : topL E (callT E tab) 138 Try.f138 (spec_l2OwnRow.c v0) = spec_l2OwnRow.t (fun b => some (spec_l2OwnRow.mk b)) v0 := by kernel_rfl
theorem spec_l2OwnRow.eq (v0 : List Int) {b : (List Int)} (h : spec_l2OwnRow.t some v0 = some b) : spec_l2OwnRow v0 = some b := tOf_intro spec_l2OwnRow.un (fun _ => by kernel_rfl) (vlim_fn (callT_le E tab) rfl rfl rfl ((spec_l2OwnRow.k v0).trans ((by unfold spec_l2OwnRow.t; repeat' first | exact Sub.ret | exact Sub.none | exact Sub.loop | apply Sub.cond | (apply Sub.bind; intro _) : Sub spec_l2OwnRow.mk _ _) b h)))
noncomputable def impl_within.t {γ : Type} (ret : (Bool) → Option γ) (v0 : Int) (v1 : Int) (v2 : Int) : Option γ :=
 bif decide (v1 ≤ v0) then
  ret (decide (v0 ≤ v2))
 else
  ret (Bool.false)
theorem impl_within.k (v0 : Int) (v1 : Int) (v2 : Int) : topL E (callT E tab) 158 Try.f158 (impl_within.c v0 v1 v2) = impl_within.t (fun b => some (impl_within.mk b)) v0 v1 v2 := by kernel_rfl
theorem impl_within.eq (v0 : Int) (v1 : Int) (v2 : Int) {b : Bool} (h : impl_within.t some v0 v1 v2 = some b) : impl_within v0 v1 v2 = some b := tOf_intro impl_within.un (fun _ => by kernel_rfl) (vlim_fn (callT_le E tab) rfl rfl rfl ((impl_within.k v0 v1 v2).trans ((by unfold impl_within.t; repeat' first | exact Sub.ret | exact Sub.none | exact Sub.loop | apply Sub.cond | (apply Sub.bind; intro _) : Sub impl_within.mk _ _) b h)))
noncomputable def impl_isRowOf.t {γ : Type} (ret : (Bool) → Option γ) (v0 : List Int) (v1 : Int) : Option γ :=
 (impl_GoodRow (v0)).bind fun (r0 : Bool) =>
 bif r0 then
  ret ((↑v0.length : Int) == v1)
 else
  ret (Bool.false)
theorem impl_isRowOf.k (v0 : List Int) (v1 : Int) : topL E (callT E tab) 141 Try.f141 (impl_isRowOf.c v0 v1) = impl_isRowOf.t (fun b => some (impl_isRowOf.mk b)) v0 v1 := by kernel_rfl
theorem impl_isRowOf.eq (v0 : List Int) (v1 : Int) {b : Bool} (h : impl_isRowOf.t some v0 v1 = some b) : impl_isRowOf v0 v1 = some b := tOf_intro impl_isRowOf.un (fun _ => by kernel_rfl) (vlim_fn (callT_le E tab) rfl rfl rfl ((impl_isRowOf.k v0 v1).trans ((by unfold impl_isRowOf.t; repeat' first | exact Sub.ret | exact Sub.none | exact Sub.loop | apply Sub.cond | (apply Sub.bind; intro _) : Sub impl_isRowOf.mk _ _) b h)))
noncomputable def impl_GoodRow.t {γ : Type} (ret : (Bool) → Option γ) (v0 : List Int) : Option γ :=
 bif decide ((↑v0.length : Int) ≤ (6 : Int)) then
  (xi0k (v0)).bind fun (r0 : Bool) =>
  ret (r0)
 else
  ret (Bool.false)
theorem impl_GoodRow.k (v0 : List Int) : topL E (callT E tab) 197 Try.f197 (impl_GoodRow.c v0) = impl_GoodRow.t (fun b => some (impl_GoodRow.mk b)) v0 := by kernel_rfl
theorem impl_GoodRow.eq (v0 : List Int) {b : Bool} (h : impl_GoodRow.t some v0 = some b) : impl_GoodRow v0 = some b := tOf_intro impl_GoodRow.un (fun _ => by kernel_rfl) (vlim_fn (callT_le E tab) rfl rfl rfl ((impl_GoodRow.k v0).trans ((by unfold impl_GoodRow.t; repeat' first | exact Sub.ret | exact Sub.none | exact Sub.loop | apply Sub.cond | (apply Sub.bind; intro _) : Sub impl_GoodRow.mk _ _) b h)))
noncomputable def xi0k.t {γ : Type} (ret : (Bool) → Option γ) (v0 : List Int) : Option γ :=
 (xs06 (v0)).bind fun (r0 : Bool) =>
 ret (!r0)
theorem xi0k.k (v0 : List Int) : topL E (callT E tab) 161 Try.f161 (xi0k.c v0) = xi0k.t (fun b => some (xi0k.mk b)) v0 := by kernel_rfl
theorem xi0k.eq (v0 : List Int) {b : Bool} (h : xi0k.t some v0 = some b) : xi0k v0 = some b := tOf_intro xi0k.un (fun _ => by kernel_rfl) (vlim_fn (callT_le E tab) rfl rfl rfl ((xi0k.k v0).trans ((by unfold xi0k.t; repeat' first | exact Sub.ret | exact Sub.none | exact Sub.loop | apply Sub.cond | (apply Sub.bind; intro _) : Sub xi0k.mk _ _) b h)))
noncomputable def xs06.t {γ : Type} (ret : (Bool) → Option γ) (v0 : List Int) : Option γ :=
 (xs08 (v0)).bind fun (r0 : Int) =>
 ret (decide (r0 ≥ (0 : Int)))
theorem xs06.k (v0 : List Int) : topL E (callT E tab) 205 Try.f205 (xs06.c v0) = xs06.t (fun b => some (xs06.mk b)) v0 := by kernel_rfl
theorem xs06.eq (v0 : List Int) {b : Bool} (h : xs06.t some v0 = some b) : xs06 v0 = some b := tOf_intro xs06.un (fun _ => by kernel_rfl) (vlim_fn (callT_le E tab) rfl rfl rfl ((xs06.k v0).trans ((by unfold xs06.t; repeat' first | exact Sub.ret | exact Sub.none | exact Sub.loop | apply Sub.cond | (apply Sub.bind; intro _) : Sub xs06.mk _ _) b h)))
noncomputable def xs08.q2 (v0 : List Int) (v1 : Int) (v2 : Int) : Option R := loopAtL E (callT E tab) 228 Try.f228 2 [.r, .l, .r, .b] (vc (.d .fro (.sl (.int .i64)) v0) :: vc (.fn 206 [.rp [.fn 223 []] 0]) :: nn 5 (vc (iL v1) :: vc (iL v2) :: nn 10 ([])))
noncomputable def xs08.l2 (v0 : List Int) (v1 : Int) (v2 : Int) : Option (Int) := tOf xs08.mk (xs08.q2 v0 v1 v2)
noncomputable def xs08.t {γ : Type} (ret : (Int) → Option γ) (lp2 : (List Int) → Int → Int → Option γ) (v0 : List Int) : Option γ :=
 lp2 (v0) ((↑v0.length : Int)) ((0 : Int))
noncomputable def xs08.t2 {γ : Type} (ret : (Int) → Option γ) (lp2 : (List Int) → Int → Int → Option γ) (v0 : List Int) (v1 : Int) (v2 : Int) : Option γ :=
 bif decide (v2 < v1) then
  bif decide ((0 : Int) ≤ v2) then
   bif decide (v2.toNat < v0.length) then
    (xi0j (v0.getD v2.toNat (0 : Int))).bind fun (r0 : Bool) =>
    bif r0 then
     ret (v2)
    else
     lp2 (v0) (v1) (IntKind.i64.wrap (v2 + (1 : Int)))
   else
    none
  else
   none
 else
  ret ((-1 : Int))
theorem xs08.k (v0 : List Int) : topL E (callT E tab) 228 Try.f228 (xs08.c v0) = xs08.t (fun b => some (xs08.mk b)) xs08.q2 v0 := by kernel_rfl
theorem xs08.k2 (v0 : List Int) (v1 : Int) (v2 : Int) : roundL E (callT E tab) 228 Try.f228 2 [.r, .l, .r, .b] (vc (.d .fro (.sl (.int .i64)) v0) :: vc (.fn 206 [.rp [.fn 223 []] 0]) :: nn 5 (vc (iL v1) :: vc (iL v2) :: nn 10 ([]))) = xs08.t2 (fun b => some (xs08.mk b)) xs08.q2 v0 v1 v2 := by kernel_rfl
theorem xs08.eq (v0 : List Int) {b : Int} (h : xs08.t some xs08.l2 v0 = some b) : xs08 v0 = some b := tOf_intro xs08.un (fun _ => by kernel_rfl) (vlim_fn (callT_le E tab) rfl rfl rfl ((xs08.k v0).trans ((by unfold xs08.t; repeat' first | exact Sub.ret | exact Sub.none | exact Sub.loop | apply Sub.cond | (apply Sub.bind; intro _) : Sub xs08.mk _ _) b h)))
theorem xs08.eq2 (v0 : List Int) (v1 : Int) (v2 : Int) {b : Int} (h : xs08.t2 some xs08.l2 v0 v1 v2 = some b) : xs08.l2 v0 v1 v2 = some b := tOf_intro xs08.un (fun _ => by kernel_rfl) (loopAtL_step ((xs08.k2 v0 v1 v2).trans ((by unfold xs08.t2; repeat' first | exact Sub.ret | exact Sub.none | exact Sub.loop | apply Sub.cond | (apply Sub.bind; intro _) : Sub xs08.mk _ _) b h)))
noncomputable def xi0j.t {γ : Type} (ret : (Bool) → Option γ) (v0 : Int) : Option γ :=
 (impl_isCell (v0)).bind fun (r0 : Bool) =>
 ret (!r0)
theorem xi0j.k (v0 : Int) : topL E (callT E tab) 206 Try.f206 (xi0j.c v0) = xi0j.t (fun b => some (xi0j.mk b)) v0 := by kernel_rfl
theorem xi0j.eq (v0 : Int) {b : Bool} (h : xi0j.t some v0 = some b) : xi0j v0 = some b := tOf_intro xi0j.un (fun _ => by kernel_rfl) (vlim_fn (callT_le E tab) rfl rfl rfl ((xi0j.k v0).trans ((by unfold xi0j.t; repeat' first | exact Sub.ret | exact Sub.none | exact Sub.loop | apply Sub.cond | (apply Sub.bind; intro _) : Sub xi0j.mk _ _) b h)))
noncomputable def impl_isCell.t {γ : Type} (ret : (Bool) → Option γ) (v0 : Int) : Option γ :=
 (impl_within (v0) ((-100000 : Int)) ((100000 : Int))).bind fun (r0 : Bool) =>
 ret (r0)
theorem impl_isCell.k (v0 : Int) : topL E (callT E tab) 223 Try.f223 (impl_isCell.c v0) = impl_isCell.t (fun b => some (impl_isCell.mk b)) v0 := by kernel_rfl
theorem impl_isCell.eq (v0 : Int) {b : Bool} (h : impl_isCell.t some v0 = some b) : impl_isCell v0 = some b := tOf_intro impl_isCell.un (fun _ => by kernel_rfl) (vlim_fn (callT_le E tab) rfl rfl rfl ((impl_isCell.k v0).trans ((by unfold impl_isCell.t; repeat' first | exact Sub.ret | exact Sub.none | exact Sub.loop | apply Sub.cond | (apply Sub.bind; intro _) : Sub impl_isCell.mk _ _) b h)))
noncomputable def impl_compareRows.t {γ : Type} (ret : (Int) → Option γ) (v0 : List Int) (v1 : List Int) : Option γ :=
 (xs0n (v0) (v1)).bind fun (r0 : Int) =>
 ret (r0)
theorem impl_compareRows.k (v0 : List Int) (v1 : List Int) : topL E (callT E tab) 143 Try.f143 (impl_compareRows.c v0 v1) = impl_compareRows.t (fun b => some (impl_compareRows.mk b)) v0 v1 := by kernel_rfl
theorem impl_compareRows.eq (v0 : List Int) (v1 : List Int) {b : Int} (h : impl_compareRows.t some v0 v1 = some b) : impl_compareRows v0 v1 = some b := tOf_intro impl_compareRows.un (fun _ => by kernel_rfl) (vlim_fn (callT_le E tab) rfl rfl rfl ((impl_compareRows.k v0 v1).trans ((by unfold impl_compareRows.t; repeat' first | exact Sub.ret | exact Sub.none | exact Sub.loop | apply Sub.cond | (apply Sub.bind; intro _) : Sub impl_compareRows.mk _ _) b h)))
end GoV

/- Equations of the program's functions (printed by wip/tools/emit.py). -/
namespace GoV
open Go Go.Proofs
set_option maxRecDepth 100000

noncomputable def xs0n.q2 (v0 : List Int) (v1 : List Int) (v2 : List Int) (v3 : Int) (v4 : Int) : Option R := loopAtL E (callT E tab) 198 Try.f198 2 [.r, .l, .r, .b] (vc (.d .fro (.sl (.int .i64)) v0) :: vc (.d .fro (.sl (.int .i64)) v1) :: nn 7 (vc (.d .fro (.sl (.int .i64)) v2) :: vc (iL v3) :: vc (iL v4) :: nn 24 ([])))
noncomputable def xs0n.l2 (v0 : List Int) (v1 : List Int) (v2 : List Int) (v3 : Int) (v4 : Int) : Option (Int) := tOf xs0n.mk (xs0n.q2 v0 v1 v2 v3 v4)
noncomputable def xs0n.t {γ : Type} (ret : (Int) → Option γ) (lp2 : (List Int) → (List Int) → (List Int) → Int → Int → Option γ) (v0 : List Int) (v1 : List Int) : Option γ :=
 lp2 (v0) (v1) (v0) ((↑v0.length : Int)) ((0 : Int))
noncomputable def xs0n.t2 {γ : Type} (ret : (Int) → Option γ) (lp2 : (List Int) → (List Int) → (List Int) → Int → Int → Option γ) (v0 : List Int) (v1 : List Int) (v2 : List Int) (v3 : Int) (v4 : Int) : Option γ :=
 bif decide (v4 < v3) then
  bif decide ((0 : Int) ≤ v4) then
   bif decide (v4.toNat < v2.length) then
    bif decide (v4 ≥ (↑v1.length : Int)) then
     ret ((1 : Int))
    else
     bif decide ((0 : Int) ≤ v4) then
      bif decide (v4.toNat < v1.length) then
       (cmp_Compare_int (v2.getD v4.toNat (0 : Int)) (v1.getD v4.toNat (0 : Int))).bind fun (r0 : Int) =>
       bif r0 != (0 : Int) then
        ret (r0)
       else
        lp2 (v0) (v1) (v2) (v3) (IntKind.i64.wrap (v4 + (1 : Int)))
      else
       none
     else
      none
   else
    none
  else
   none
 else
  bif decide ((↑v0.length : Int) < (↑v1.length : Int)) then
   ret ((-1 : Int))
  else
   ret ((0 : Int))
theorem xs0n.k (v0 : List Int) (v1 : List Int) : topL E (callT E tab) 198 Try.f198 (xs0n.c v0 v1) = xs0n.t (fun b => some (xs0n.mk b)) xs0n.q2 v0 v1 := by kernel_rfl
theorem xs0n.k2 (v0 : List Int) (v1 : List Int) (v2 : List Int) (v3 : Int) (v4 : Int) : roundL E (callT E tab) 198 Try.f198 2 [.r, .l, .r, .b] (vc (.d .fro (.sl (.int .i64)) v0) :: vc (.d .fro (.sl (.int .i64)) v1) :: nn 7 (vc (.d .fro (.sl (.int .i64)) v2) :: vc (iL v3) :: vc (iL v4) :: nn 24 ([]))) = xs0n.t2 (fun b => some (xs0n.mk b)) xs0n.q2 v0 v1 v2 v3 v4 := by kernel_rfl
theorem xs0n.eq (v0 : List Int) (v1 : List Int) {b : Int} (h : xs0n.t some xs0n.l2 v0 v1 = some b) : xs0n v0 v1 = some b := tOf_intro xs0n.un (fun _ => by kernel_rfl) (vlim_fn (callT_le E tab) rfl rfl rfl ((xs0n.k v0 v1).trans ((by unfold xs0n.t; repeat' first | exact Sub.ret | exact Sub.none | exact Sub.loop | apply Sub.cond | (apply Sub.bind; intro _) : Sub xs0n.mk _ _) b h)))
theorem xs0n.eq2 (v0 : List Int) (v1 : List Int) (v2 : List Int) (v3 : Int) (v4 : Int) {b : Int} (h : xs0n.t2 some xs0n.l2 v0 v1 v2 v3 v4 = some b) : xs0n.l2 v0 v1 v2 v3 v4 = some b := tOf_intro xs0n.un (fun _ => by kernel_rfl) (loopAtL_step ((xs0n.k2 v0 v1 v2 v3 v4).trans ((by unfold xs0n.t2; repeat' first | exact Sub.ret | exact Sub.none | exact Sub.loop | apply Sub.cond | (apply Sub.bind; intro _) : Sub xs0n.mk _ _) b h)))
noncomputable def cmp_Compare_int.t {γ : Type} (ret : (Int) → Option γ) (v0 : Int) (v1 : Int) : Option γ :=
 (cmp_isNaN_int (v0)).bind fun (r0 : Bool) =>
 (cmp_isNaN_int (v1)).bind fun (r1 : Bool) =>
 bif r0 then
  bif r1 then
   ret ((0 : Int))
  else
   ret ((-1 : Int))
 else
  bif r1 then
   ret ((1 : Int))
  else
   bif decide (v0 < v1) then
    ret ((-1 : Int))
   else
    bif decide (v0 > v1) then
     ret ((1 : Int))
    else
     ret ((0 : Int))
theorem cmp_Compare_int.k (v0 : Int) (v1 : Int) : topL E (callT E tab) 224 Try.f224 (cmp_Compare_int.c v0 v1) = cmp_Compare_int.t (fun b => some (cmp_Compare_int.mk b)) v0 v1 := by kernel_rfl
theorem cmp_Compare_int.eq (v0 : Int) (v1 : Int) {b : Int} (h : cmp_Compare_int.t some v0 v1 = some b) : cmp_Compare_int v0 v1 = some b := tOf_intro cmp_Compare_int.un (fun _ => by kernel_rfl) (vlim_fn (callT_le E tab) rfl rfl rfl ((cmp_Compare_int.k v0 v1).trans ((by unfold cmp_Compare_int.t; repeat' first | exact Sub.ret | exact Sub.none | exact Sub.loop | apply Sub.cond | (apply Sub.bind; intro _) : Sub cmp_Compare_int.mk _ _) b h)))
noncomputable def cmp_isNaN_int.t {γ : Type} (ret : (Bool) → Option γ) (v0 : Int) : Option γ :=
 ret (v0 != v0)
theorem cmp_isNaN_int.k (v0 : Int) : topL E (callT E tab) 236 Try.f236 (cmp_isNaN_int.c v0) = cmp_isNaN_int.t (fun b => some (cmp_isNaN_int.mk b)) v0 := by kernel_rfl
theorem cmp_isNaN_int.eq (v0 : Int) {b : Bool} (h : cmp_isNaN_int.t some v0 = some b) : cmp_isNaN_int v0 = some b := tOf_intro cmp_isNaN_int.un (fun _ => by kernel_rfl) (vlim_fn (callT_le E tab) rfl rfl rfl ((cmp_isNaN_int.k v0).trans ((by unfold cmp_isNaN_int.t; repeat' first | exact Sub.ret | exact Sub.none | exact Sub.loop | apply Sub.cond | (apply Sub.bind; intro _) : Sub cmp_isNaN_int.mk _ _) b h)))
noncomputable def impl_Row_own.t {γ : Type} (ret : ((List Int)) → Option γ) (v0 : List Int) : Option γ :=
 (xs0r (v0)).bind fun (r0 : (List Int)) =>
 ret (r0)
theorem impl_Row_own.k (v0 : List Int) : topL E (callT E tab) 152 Try.f152 (impl_Row_own.c v0) = impl_Row_own.t (fun b => some (impl_Row_own.mk b)) v0 := by kernel_rfl
theorem impl_Row_own.eq (v0 : List Int) {b : (List Int)} (h : impl_Row_own.t some v0 = some b) : impl_Row_own v0 = some b := tOf_intro impl_Row_own.un (fun _ => by kernel_rfl) (vlim_fn (callT_le E tab) rfl rfl rfl ((impl_Row_own.k v0).trans ((by unfold impl_Row_own.t; repeat' first | exact Sub.ret | exact Sub.none | exact Sub.loop | apply Sub.cond | (apply Sub.bind; intro _) : Sub impl_Row_own.mk _ _) b h)))
noncomputable def xs0r.t {γ : Type} (ret : ((List Int)) → Option γ) (v0 : List Int) : Option γ :=
 bif decide (v0.length ≤ (4294967296 : Nat)) then
  ret (v0)
 else
  none
theorem xs0r.k (v0 : List Int) : extOf 178 (xs0r.c v0) = xs0r.t (fun b => some (xs0r.mk b)) v0 := by kernel_rfl
theorem xs0r.eq (v0 : List Int) {b : (List Int)} (h : xs0r.t some v0 = some b) : xs0r v0 = some b := tOf_intro xs0r.un (fun _ => by kernel_rfl) (vlim_ext (g := extOf 178) rfl ((xs0r.k v0).trans ((by unfold xs0r.t; repeat' first | exact Sub.ret | exact Sub.none | exact Sub.loop | apply Sub.cond | (apply Sub.bind; intro _) : Sub xs0r.mk _ _) b h)))
noncomputable def laws_eqTable.t {γ : Type} (ret : (Bool) → Option γ) (v0 : Int) (v1 : List (List Int × Int)) (v2 : Int) (v3 : List (List Int × Int)) : Option γ :=
 bif v0 != v2 then
  ret (Bool.false)
 else
  (laws_eqWeightedS (v1) (v3)).bind fun (r0 : Bool) =>
  bif !r0 then
   ret (Bool.false)
  else
   ret (Bool.true)
theorem laws_eqTable.k (v0 : Int) (v1 : List (List Int × Int)) (v2 : Int) (v3 : List (List Int × Int)) : topL E (callT E tab) 19 Try.f19 (laws_eqTable.c v0 v1 v2 v3) = laws_eqTable.t (fun b => some (laws_eqTable.mk b)) v0 v1 v2 v3 := by kernel_rfl
theorem laws_eqTable.eq (v0 : Int) (v1 : List (List Int × Int)) (v2 : Int) (v3 : List (List Int × Int)) {b : Bool} (h : laws_eqTable.t some v0 v1 v2 v3 = some b) : laws_eqTable v0 v1 v2 v3 = some b := tOf_intro laws_eqTable.un (fun _ => by kernel_rfl) (vlim_fn (callT_le E tab) rfl rfl rfl ((laws_eqTable.k v0 v1 v2 v3).trans ((by unfold laws_eqTable.t; repeat' first | exact Sub.ret | exact Sub.none | exact Sub.loop | apply Sub.cond | (apply Sub.bind; intro _) : Sub laws_eqTable.mk _ _) b h)))
noncomputable def laws_eqWeightedS.q4 (v0 : List (List Int × Int)) (v1 : List (List Int × Int)) (v2 : Int) : Option R := loopAtL E (callT E tab) 75 Try.f75 2 [.r, .r, .l, .r, .b] (vc (.d .fro (.sl (.pair (.sl (.int .i64)) (.int .i64))) v0) :: vc (.d .fro (.sl (.pair (.sl (.int .i64)) (.int .i64))) v1) :: nn 3 (vc (iL v2) :: nn 21 ([])))
noncomputable def laws_eqWeightedS.l4 (v0 : List (List Int × Int)) (v1 : List (List Int × Int)) (v2 : Int) : Option (Bool) := tOf laws_eqWeightedS.mk (laws_eqWeightedS.q4 v0 v1 v2)
noncomputable def laws_eqWeightedS.t {γ : Type} (ret : (Bool) → Option γ) (lp4 : (List (List Int × Int)) → (List (List Int × Int)) → Int → Option γ) (v0 : List (List Int × Int)) (v1 : List (List Int × Int)) : Option γ :=
 bif (↑v0.length : Int) != (↑v1.length : Int) then
  ret (Bool.false)
 else
  lp4 (v0) (v1) ((0 : Int))
noncomputable def laws_eqWeightedS.t4 {γ : Type} (ret : (Bool) → Option γ) (lp4 : (List (List Int × Int)) → (List (List Int × Int)) → Int → Option γ) (v0 : List (List Int × Int)) (v1 : List (List Int × Int)) (v2 : Int) : Option γ :=
 bif decide (v2 < (↑v0.length : Int)) then
  bif decide ((0 : Int) ≤ v2) then
   bif decide (v2.toNat < v0.length) then
    bif decide ((0 : Int) ≤ v2) then
     bif decide (v2.toNat < v1.length) then
      (laws_eqWeighted ((v0.getD v2.toNat ([], (0 : Int))).fst) ((v0.getD v2.toNat ([], (0 : Int))).snd) ((v1.getD v2.toNat ([], (0 : Int))).fst) ((v1.getD v2.toNat ([], (0 : Int))).snd)).bind fun (r0 : Bool) =>
      bif !r0 then
       ret (Bool.false)
      else
       lp4 (v0) (v1) (IntKind.i64.wrap (v2 + (1 : Int)))
     else
      none
    else
     none
   else
    none
  else
   none
 else
  ret (Bool.true)
theorem laws_eqWeightedS.k (v0 : List (List Int × Int)) (v1 : List (List Int × Int)) : topL E (callT E tab) 75 Try.f75 (laws_eqWeightedS.c v0 v1) = laws_eqWeightedS.t (fun b => some (laws_eqWeightedS.mk b)) laws_eqWeightedS.q4 v0 v1 := by kernel_rfl
theorem laws_eqWeightedS.k4 (v0 : List (List Int × Int)) (v1 : List (List Int × Int)) (v2 : Int) : roundL E (callT E tab) 75 Try.f75 2 [.r, .r, .l, .r, .b] (vc (.d .fro (.sl (.pair (.sl (.int .i64)) (.int .i64))) v0) :: vc (.d .fro (.sl (.pair (.sl (.int .i64)) (.int .i64))) v1) :: nn 3 (vc (iL v2) :: nn 21 ([]))) = laws_eqWeightedS.t4 (fun b => some (laws_eqWeightedS.mk b)) laws_eqWeightedS.q4 v0 v1 v2 := by kernel_rfl
theorem laws_eqWeightedS.eq (v0 : List (List Int × Int)) (v1 : List (List Int × Int)) {b : Bool} (h : laws_eqWeightedS.t some laws_eqWeightedS.l4 v0 v1 = some b) : laws_eqWeightedS v0 v1 = some b := tOf_intro laws_eqWeightedS.un (fun _ => by kernel_rfl) (vlim_fn (callT_le E tab) rfl rfl rfl ((laws_eqWeightedS.k v0 v1).trans ((by unfold laws_eqWeightedS.t; repeat' first | exact Sub.ret | exact Sub.none | exact Sub.loop | apply Sub.cond | (apply Sub.bind; intro _) : Sub laws_eqWeightedS.mk _ _) b h)))
theorem laws_eqWeightedS.eq4 (v0 : List (List Int × Int)) (v1 : List (List Int × Int)) (v2 : Int) {b : Bool} (h : laws_eqWeightedS.t4 some laws_eqWeightedS.l4 v0 v1 v2 = some b) : laws_eqWeightedS.l4 v0 v1 v2 = some b := tOf_intro laws_eqWeightedS.un (fun _ => by kernel_rfl) (loopAtL_step ((laws_eqWeightedS.k4 v0 v1 v2).trans ((by unfold laws_eqWeightedS.t4; repeat' first | exact Sub.ret | exact Sub.none | exact Sub.loop | apply Sub.cond | (apply Sub.bind; intro _) : Sub laws_eqWeightedS.mk _ _) b h)))
noncomputable def laws_eqWeighted.t {γ : Type} (ret : (Bool) → Option γ) (v0 : List Int) (v1 : Int) (v2 : List Int) (v3 : Int) : Option γ :=
 (laws_eqRow (v0) (v2)).bind fun (r0 : Bool) =>
 bif !r0 then
  ret (Bool.false)
 else
  bif v1 != v3 then
   ret (Bool.false)
  else
   ret (Bool.true)
theorem laws_eqWeighted.k (v0 : List Int) (v1 : Int) (v2 : List Int) (v3 : Int) : topL E (callT E tab) 149 Try.f149 (laws_eqWeighted.c v0 v1 v2 v3) = laws_eqWeighted.t (fun b => some (laws_eqWeighted.mk b)) v0 v1 v2 v3 := by kernel_rfl
theorem laws_eqWeighted.eq (v0 : List Int) (v1 : Int) (v2 : List Int) (v3 : Int) {b : Bool} (h : laws_eqWeighted.t some v0 v1 v2 v3 = some b) : laws_eqWeighted v0 v1 v2 v3 = some b := tOf_intro laws_eqWeighted.un (fun _ => by kernel_rfl) (vlim_fn (callT_le E tab) rfl rfl rfl ((laws_eqWeighted.k v0 v1 v2 v3).trans ((by unfold laws_eqWeighted.t; repeat' first | exact Sub.ret | exact Sub.none | exact Sub.loop | apply Sub.cond | (apply Sub.bind; intro _) : Sub laws_eqWeighted.mk _ _) b h)))
noncomputable def laws_eqRow.t {γ : Type} (ret : (Bool) → Option γ) (v0 : List Int) (v1 : List Int) : Option γ :=
 (laws_eqIntS (v0) (v1)).bind fun (r0 : Bool) =>
 bif !r0 then
  ret (Bool.false)
 else
  ret (Bool.true)
theorem laws_eqRow.k (v0 : List Int) (v1 : List Int) : topL E (callT E tab) 168 Try.f168 (laws_eqRow.c v0 v1) = laws_eqRow.t (fun b => some (laws_eqRow.mk b)) v0 v1 := by kernel_rfl
theorem laws_eqRow.eq (v0 : List Int) (v1 : List Int) {b : Bool} (h : laws_eqRow.t some v0 v1 = some b) : laws_eqRow v0 v1 = some b := tOf_intro laws_eqRow.un (fun _ => by kernel_rfl) (vlim_fn (callT_le E tab) rfl rfl rfl ((laws_eqRow.k v0 v1).trans ((by unfold laws_eqRow.t; repeat' first | exact Sub.ret | exact Sub.none | exact Sub.loop | apply Sub.cond | (apply Sub.bind; intro _) : Sub laws_eqRow.mk _ _) b h)))
noncomputable def laws_eqIntS.q4 (v0 : List Int) (v1 : List Int) (v2 : Int) : Option R := loopAtL E (callT E tab) 76 Try.f76 2 [.r, .r, .l, .r, .b] (vc (.d .fro (.sl (.int .i64)) v0) :: vc (.d .fro (.sl (.int .i64)) v1) :: nn 3 (vc (iL v2) :: nn 20 ([])))
noncomputable def laws_eqIntS.l4 (v0 : List Int) (v1 : List Int) (v2 : Int) : Option (Bool) := tOf laws_eqIntS.mk (laws_eqIntS.q4 v0 v1 v2)
noncomputable def laws_eqIntS.t {γ : Type} (ret : (Bool) → Option γ) (lp4 : (List Int) → (List Int) → Int → Option γ) (v0 : List Int) (v1 : List Int) : Option γ :=
 bif (↑v0.length : Int) != (↑v1.length : Int) then
  ret (Bool.false)
 else
  lp4 (v0) (v1) ((0 : Int))
noncomputable def laws_eqIntS.t4 {γ : Type} (ret : (Bool) → Option γ) (lp4 : (List Int) → (List Int) → Int → Option γ) (v0 : List Int) (v1 : List Int) (v2 : Int) : Option γ :=
 bif decide (v2 < (↑v0.length : Int)) then
  bif decide ((0 : Int) ≤ v2) then
   bif decide (v2.toNat < v0.length) then
    bif decide ((0 : Int) ≤ v2) then
     bif decide (v2.toNat < v1.length) then
      bif v0.getD v2.toNat (0 : Int) != v1.getD v2.toNat (0 : Int) then
       ret (Bool.false)
      else
       lp4 (v0) (v1) (IntKind.i64.wrap (v2 + (1 : Int)))
     else
      none
    else
     none
   else
    none
  else
   none
 else
  ret (Bool.true)
theorem laws_eqIntS.k (v0 : List Int) (v1 : List Int) : topL E (callT E tab) 76 Try.f76 (laws_eqIntS.c v0 v1) = laws_eqIntS.t (fun b => some (laws_eqIntS.mk b)) laws_eqIntS.q4 v0 v1 := by kernel_rfl
theorem laws_eqIntS.k4 (v0 : List Int) (v1 : List Int) (v2 : Int) : roundL E (callT E tab) 76 Try.f76 2 [.r, .r, .l, .r, .b] (vc (.d .fro (.sl (.int .i64)) v0) :: vc (.d .fro (.sl (.int .i64)) v1) :: nn 3 (vc (iL v2) :: nn 20 ([]))) = laws_eqIntS.t4 (fun b => some (laws_eqIntS.mk b)) laws_eqIntS.q4 v0 v1 v2 := by kernel_rfl
theorem laws_eqIntS.eq (v0 : List Int) (v1 : List Int) {b : Bool} (h : laws_eqIntS.t some laws_eqIntS.l4 v0 v1 = some b) : laws_eqIntS v0 v1 = some b := tOf_intro laws_eqIntS.un (fun _ => by kernel_rfl) (vlim_fn (callT_le E tab) rfl rfl rfl ((laws_eqIntS.k v0 v1).trans ((by unfold laws_eqIntS.t; repeat' first | exact Sub.ret | exact Sub.none | exact Sub.loop | apply Sub.cond | (apply Sub.bind; intro _) : Sub laws_eqIntS.mk _ _) b h)))
theorem laws_eqIntS.eq4 (v0 : List Int) (v1 : List Int) (v2 : Int) {b : Bool} (h : laws_eqIntS.t4 some laws_eqIntS.l4 v0 v1 v2 = some b) : laws_eqIntS.l4 v0 v1 v2 = some b := tOf_intro laws_eqIntS.un (fun _ => by kernel_rfl) (loopAtL_step ((laws_eqIntS.k4 v0 v1 v2).trans ((by unfold laws_eqIntS.t4; repeat' first | exact Sub.ret | exact Sub.none | exact Sub.loop | apply Sub.cond | (apply Sub.bind; intro _) : Sub laws_eqIntS.mk _ _) b h)))
noncomputable def laws_markTable_d7a.t {γ : Type} (ret : (Int × Int × (List (List Int × Int))) → Option γ) (v0 : Int) (v1 : List (List Int × Int)) (v2 : Int) : Option γ :=
 (xl0m (v1) (v2)).bind fun (r0 : Int × (List (List Int × Int))) =>
 ret (r0.fst, v0, r0.snd)
theorem laws_markTable_d7a.k (v0 : Int) (v1 : List (List Int × Int)) (v2 : Int) : topL E (callT E tab) 21 Try.f21 (laws_markTable_d7a.c v0 v1 v2) = laws_markTable_d7a.t (fun b => some (laws_markTable_d7a.mk b)) v0 v1 v2 := by kernel_rfl
theorem laws_markTable_d7a.eq (v0 : Int) (v1 : List (List Int × Int)) (v2 : Int) {b : Int × Int × (List (List Int × Int))} (h : laws_markTable_d7a.t some v0 v1 v2 = some b) : laws_markTable_d7a v0 v1 v2 = some b := tOf_intro laws_markTable_d7a.un (fun _ => by kernel_rfl) (vlim_fn (callT_le E tab) rfl rfl rfl ((laws_markTable_d7a.k v0 v1 v2).trans ((by unfold laws_markTable_d7a.t; repeat' first | exact Sub.ret | exact Sub.none | exact Sub.loop | apply Sub.cond | (apply Sub.bind; intro _) : Sub laws_markTable_d7a.mk _ _) b h)))
noncomputable def xl0m.q2 (v0 : List (List Int × Int)) (v1 : Int) (v2 : Int) : Option R := loopAtL E (callT E tab) 77 Try.f77 2 [.r, .l, .r, .b] (⟨(.val .one), [.d .deep (.sl (.pair (.sl (.int .i64)) (.int .i64))) v0], true, false, false, 0, 0⟩ :: vc (iL v1) :: nn 3 (vc (iL v2) :: nn 22 ([])))
noncomputable def xl0m.l2 (v0 : List (List Int × Int)) (v1 : Int) (v2 : Int) : Option (Int × (List (List Int × Int))) := tOf xl0m.mk (xl0m.q2 v0 v1 v2)
noncomputable def xl0m.t {γ : Type} (ret : (Int × (List (List Int × Int))) → Option γ) (lp2 : (List (List Int × Int)) → Int → Int → Option γ) (v0 : List (List Int × Int)) (v1 : Int) : Option γ :=
 lp2 (v0) (v1) ((0 : Int))
noncomputable def xl0m.t2 {γ : Type} (ret : (Int × (List (List Int × Int))) → Option γ) (lp2 : (List (List Int × Int)) → Int → Int → Option γ) (v0 : List (List Int × Int)) (v1 : Int) (v2 : Int) : Option γ :=
 bif decide (v2 < (↑v0.length : Int)) then
  bif decide ((0 : Int) ≤ v2) then
   bif decide (v2.toNat < v0.length) then
    bif decide (v2.toNat < v0.length) then
     bif decide (v2.toNat < v0.length) then
      (laws_markIntS_83f ((v0.getD v2.toNat ([], (0 : Int))).fst) (v1)).bind fun (r0 : Int × (List Int)) =>
      bif decide (v2.toNat = v2.toNat) &&   (decide ((0 : Nat) + (0 : Nat) + (0 : Nat) = (0 : Nat) + (0 : Nat) + (0 : Nat)) &&     decide ((1 : Nat) + (1 : Nat) = (1 : Nat) + (1 : Nat))) then
       bif decide (v2.toNat < v0.length) then
        bif decide ((0 : Int) ≤ v2) then
         bif decide (v2.toNat < (v0.set v2.toNat (r0.snd, (v0.getD v2.toNat ([], (0 : Int))).snd)).length) then
          bif decide (v2.toNat < (v0.set v2.toNat (r0.snd, (v0.getD v2.toNat ([], (0 : Int))).snd)).length) then
           lp2 ((v0.set v2.toNat (r0.snd, (v0.getD v2.toNat ([], (0 : Int))).snd)).set v2.toNat   (((v0.set v2.toNat (r0.snd, (v0.getD v2.toNat ([], (0 : Int))).snd)).getD v2.toNat ([], (0 : Int))).fst, r0.fst)) (IntKind.i64.wrap (r0.fst + (1 : Int))) (IntKind.i64.wrap (v2 + (1 : Int)))
          else
           none
         else
          none
        else
         none
       else
        none
      else
       none
     else
      none
    else
     none
   else
    none
  else
   none
 else
  ret (v1, v0)
theorem xl0m.k (v0 : List (List Int × Int)) (v1 : Int) : topL E (callT E tab) 77 Try.f77 (xl0m.c v0 v1) = xl0m.t (fun b => some (xl0m.mk b)) xl0m.q2 v0 v1 := by kernel_rfl
theorem xl0m.k2 (v0 : List (List Int × Int)) (v1 : Int) (v2 : Int) : roundL E (callT E tab) 77 Try.f77 2 [.r, .l, .r, .b] (⟨(.val .one), [.d .deep (.sl (.pair (.sl (.int .i64)) (.int .i64))) v0], true, false, false, 0, 0⟩ :: vc (iL v1) :: nn 3 (vc (iL v2) :: nn 22 ([]))) = xl0m.t2 (fun b => some (xl0m.mk b)) xl0m.q2 v0 v1 v2 := by kernel_rfl
theorem xl0m.eq (v0 : List (List Int × Int)) (v1 : Int) {b : Int × (List (List Int × Int))} (h : xl0m.t some xl0m.l2 v0 v1 = some b) : xl0m v0 v1 = some b := tOf_intro xl0m.un (fun _ => by kernel_rfl) (vlim_fn (callT_le E tab) rfl rfl rfl ((xl0m.k v0 v1).trans ((by unfold xl0m.t; repeat' first | exact Sub.ret | exact Sub.none | exact Sub.loop | apply Sub.cond | (apply Sub.bind; intro _) : Sub xl0m.mk _ _) b h)))
theorem xl0m.eq2 (v0 : List (List Int × Int)) (v1 : Int) (v2 : Int) {b : Int × (List (List Int × Int))} (h : xl0m.t2 some xl0m.l2 v0 v1 v2 = some b) : xl0m.l2 v0 v1 v2 = some b := tOf_intro xl0m.un (fun _ => by kernel_rfl) (loopAtL_step ((xl0m.k2 v0 v1 v2).trans ((by unfold xl0m.t2; repeat' first | exact Sub.ret | exact Sub.none | exact Sub.loop | apply Sub.cond | (apply Sub.bind; intro _) : Sub xl0m.mk _ _) b h)))
noncomputable def laws_markIntS_83f.q2 (v0 : List Int) (v1 : Int) (v2 : Int) : Option R := loopAtL E (callT E tab) 78 Try.f78 2 [.r, .l, .r, .b] (⟨(.val .one), [.d .deep (.sl (.int .i64)) v0], true, false, false, 0, 0⟩ :: vc (iL v1) :: nn 3 (vc (iL v2) :: nn 13 ([])))
noncomputable def laws_markIntS_83f.l2 (v0 : List Int) (v1 : Int) (v2 : Int) : Option (Int × (List Int)) := tOf laws_markIntS_83f.mk (laws_markIntS_83f.q2 v0 v1 v2)
noncomputable def laws_markIntS_83f.t {γ : Type} (ret : (Int × (List Int)) → Option γ) (lp2 : (List Int) → Int → Int → Option γ) (v0 : List Int) (v1 : Int) : Option γ :=
 lp2 (v0) (v1) ((0 : Int))
noncomputable def laws_markIntS_83f.t2 {γ : Type} (ret : (Int × (List Int)) → Option γ) (lp2 : (List Int) → Int → Int → Option γ) (v0 : List Int) (v1 : Int) (v2 : Int) : Option γ :=
 bif decide (v2 < (↑v0.length : Int)) then
  bif decide ((0 : Int) ≤ v2) then
   bif decide (v2.toNat < v0.length) then
    bif decide (v2.toNat < v0.length) then
     lp2 (v0.set v2.toNat v1) (IntKind.i64.wrap (v1 + (1 : Int))) (IntKind.i64.wrap (v2 + (1 : Int)))
    else
     none
   else
    none
  else
   none
 else
  ret (v1, v0)
theorem laws_markIntS_83f.k (v0 : List Int) (v1 : Int) : topL E (callT E tab) 78 Try.f78 (laws_markIntS_83f.c v0 v1) = laws_markIntS_83f.t (fun b => some (laws_markIntS_83f.mk b)) laws_markIntS_83f.q2 v0 v1 := by kernel_rfl
theorem laws_markIntS_83f.k2 (v0 : List Int) (v1 : Int) (v2 : Int) : roundL E (callT E tab) 78 Try.f78 2 [.r, .l, .r, .b] (⟨(.val .one), [.d .deep (.sl (.int .i64)) v0], true, false, false, 0, 0⟩ :: vc (iL v1) :: nn 3 (vc (iL v2) :: nn 13 ([]))) = laws_markIntS_83f.t2 (fun b => some (laws_markIntS_83f.mk b)) laws_markIntS_83f.q2 v0 v1 v2 := by kernel_rfl
theorem laws_markIntS_83f.eq (v0 : List Int) (v1 : Int) {b : Int × (List Int)} (h : laws_markIntS_83f.t some laws_markIntS_83f.l2 v0 v1 = some b) : laws_markIntS_83f v0 v1 = some b := tOf_intro laws_markIntS_83f.un (fun _ => by kernel_rfl) (vlim_fn (callT_le E tab) rfl rfl rfl ((laws_markIntS_83f.k v0 v1).trans ((by unfold laws_markIntS_83f.t; repeat' first | exact Sub.ret | exact Sub.none | exact Sub.loop | apply Sub.cond | (apply Sub.bind; intro _) : Sub laws_markIntS_83f.mk _ _) b h)))
theorem laws_markIntS_83f.eq2 (v0 : List Int) (v1 : Int) (v2 : Int) {b : Int × (List Int)} (h : laws_markIntS_83f.t2 some laws_markIntS_83f.l2 v0 v1 v2 = some b) : laws_markIntS_83f.l2 v0 v1 v2 = some b := tOf_intro laws_markIntS_83f.un (fun _ => by kernel_rfl) (loopAtL_step ((laws_markIntS_83f.k2 v0 v1 v2).trans ((by unfold laws_markIntS_83f.t2; repeat' first | exact Sub.ret | exact Sub.none | exact Sub.loop | apply Sub.cond | (apply Sub.bind; intro _) : Sub laws_markIntS_83f.mk _ _) b h)))
noncomputable def laws_heldTable.t {γ : Type} (ret : (Int) → Option γ) (v0 : Int) (v1 : List (List Int × Int)) (v2 : Int) : Option γ :=
 (laws_heldWeightedS (v1) (v2)).bind fun (r0 : Int) =>
 bif decide (r0 < (0 : Int)) then
  ret ((-1 : Int))
 else
  ret (r0)
theorem laws_heldTable.k (v0 : Int) (v1 : List (List Int × Int)) (v2 : Int) : topL E (callT E tab) 23 Try.f23 (laws_heldTable.c v0 v1 v2) = laws_heldTable.t (fun b => some (laws_heldTable.mk b)) v0 v1 v2 := by kernel_rfl
theorem laws_heldTable.eq (v0 : Int) (v1 : List (List Int × Int)) (v2 : Int) {b : Int} (h : laws_heldTable.t some v0 v1 v2 = some b) : laws_heldTable v0 v1 v2 = some b := tOf_intro laws_heldTable.un (fun _ => by kernel_rfl) (vlim_fn (callT_le E tab) rfl rfl rfl ((laws_heldTable.k v0 v1 v2).trans ((by unfold laws_heldTable.t; repeat' first | exact Sub.ret | exact Sub.none | exact Sub.loop | apply Sub.cond | (apply Sub.bind; intro _) : Sub laws_heldTable.mk _ _) b h)))
noncomputable def laws_heldWeightedS.q2 (v0 : List (List Int × Int)) (v1 : Int) (v2 : Int) : Option R := loopAtL E (callT E tab) 79 Try.f79 2 [.r, .l, .r, .b] (vc (.d .fro (.sl (.pair (.sl (.int .i64)) (.int .i64))) v0) :: vc (iL v1) :: nn 3 (vc (iL v2) :: nn 26 ([])))
noncomputable def laws_heldWeightedS.l2 (v0 : List (List Int × Int)) (v1 : Int) (v2 : Int) : Option (Int) := tOf laws_heldWeightedS.mk (laws_heldWeightedS.q2 v0 v1 v2)
noncomputable def laws_heldWeightedS.t {γ : Type} (ret : (Int) → Option γ) (lp2 : (List (List Int × Int)) → Int → Int → Option γ) (v0 : List (List Int × Int)) (v1 : Int) : Option γ :=
 lp2 (v0) (v1) ((0 : Int))
noncomputable def laws_heldWeightedS.t2 {γ : Type} (ret : (Int) → Option γ) (lp2 : (List (List Int × Int)) → Int → Int → Option γ) (v0 : List (List Int × Int)) (v1 : Int) (v2 : Int) : Option γ :=
 bif decide (v2 < (↑v0.length : Int)) then
  bif decide ((0 : Int) ≤ v2) then
   bif decide (v2.toNat < v0.length) then
    (laws_heldIntS ((v0.getD v2.toNat ([], (0 : Int))).fst) (v1)).bind fun (r0 : Int) =>
    bif decide (r0 < (0 : Int)) then
     ret ((-1 : Int))
    else
     bif decide ((0 : Int) ≤ v2) then
      bif decide (v2.toNat < v0.length) then
       bif (v0.getD v2.toNat ([], (0 : Int))).snd != r0 then
        ret ((-1 : Int))
       else
        lp2 (v0) (IntKind.i64.wrap (r0 + (1 : Int))) (IntKind.i64.wrap (v2 + (1 : Int)))
      else
       none
     else
      none
   else
    none
  else
   none
 else
  ret (v1)
theorem laws_heldWeightedS.k (v0 : List (List Int × Int)) (v1 : Int) : topL E (callT E tab) 79 Try.f79 (laws_heldWeightedS.c v0 v1) = laws_heldWeightedS.t (fun b => some (laws_heldWeightedS.mk b)) laws_heldWeightedS.q2 v0 v1 := by kernel_rfl
theorem laws_heldWeightedS.k2 (v0 : List (List Int × Int)) (v1 : Int) (v2 : Int) : roundL E (callT E tab) 79 Try.f79 2 [.r, .l, .r, .b] (vc (.d .fro (.sl (.pair (.sl (.int .i64)) (.int .i64))) v0) :: vc (iL v1) :: nn 3 (vc (iL v2) :: nn 26 ([]))) = laws_heldWeightedS.t2 (fun b => some (laws_heldWeightedS.mk b)) laws_heldWeightedS.q2 v0 v1 v2 := by kernel_rfl
theorem laws_heldWeightedS.eq (v0 : List (List Int × Int)) (v1 : Int) {b : Int} (h : laws_heldWeightedS.t some laws_heldWeightedS.l2 v0 v1 = some b) : laws_heldWeightedS v0 v1 = some b := tOf_intro laws_heldWeightedS.un (fun _ => by kernel_rfl) (vlim_fn (callT_le E tab) rfl rfl rfl ((laws_heldWeightedS.k v0 v1).trans ((by unfold laws_heldWeightedS.t; repeat' first | exact Sub.ret | exact Sub.none | exact Sub.loop | apply Sub.cond | (apply Sub.bind; intro _) : Sub laws_heldWeightedS.mk _ _) b h)))
theorem laws_heldWeightedS.eq2 (v0 : List (List Int × Int)) (v1 : Int) (v2 : Int) {b : Int} (h : laws_heldWeightedS.t2 some laws_heldWeightedS.l2 v0 v1 v2 = some b) : laws_heldWeightedS.l2 v0 v1 v2 = some b := tOf_intro laws_heldWeightedS.un (fun _ => by kernel_rfl) (loopAtL_step ((laws_heldWeightedS.k2 v0 v1 v2).trans ((by unfold laws_heldWeightedS.t2; repeat' first | exact Sub.ret | exact Sub.none | exact Sub.loop | apply Sub.cond | (apply Sub.bind; intro _) : Sub laws_heldWeightedS.mk _ _) b h)))
noncomputable def laws_heldIntS.q2 (v0 : List Int) (v1 : Int) (v2 : Int) : Option R := loopAtL E (callT E tab) 117 Try.f117 2 [.r, .l, .r, .b] (vc (.d .fro (.sl (.int .i64)) v0) :: vc (iL v1) :: nn 3 (vc (iL v2) :: nn 15 ([])))
noncomputable def laws_heldIntS.l2 (v0 : List Int) (v1 : Int) (v2 : Int) : Option (Int) := tOf laws_heldIntS.mk (laws_heldIntS.q2 v0 v1 v2)
noncomputable def laws_heldIntS.t {γ : Type} (ret : (Int) → Option γ) (lp2 : (List Int) → Int → Int → Option γ) (v0 : List Int) (v1 : Int) : Option γ :=
 lp2 (v0) (v1) ((0 : Int))
noncomputable def laws_heldIntS.t2 {γ : Type} (ret : (Int) → Option γ) (lp2 : (List Int) → Int → Int → Option γ) (v0 : List Int) (v1 : Int) (v2 : Int) : Option γ :=
 bif decide (v2 < (↑v0.length : Int)) then
  bif decide ((0 : Int) ≤ v2) then
   bif decide (v2.toNat < v0.length) then
    bif v0.getD v2.toNat (0 : Int) != v1 then
     ret ((-1 : Int))
    else
     lp2 (v0) (IntKind.i64.wrap (v1 + (1 : Int))) (IntKind.i64.wrap (v2 + (1 : Int)))
   else
    none
  else
   none
 else
  ret (v1)
theorem laws_heldIntS.k (v0 : List Int) (v1 : Int) : topL E (callT E tab) 117 Try.f117 (laws_heldIntS.c v0 v1) = laws_heldIntS.t (fun b => some (laws_heldIntS.mk b)) laws_heldIntS.q2 v0 v1 := by kernel_rfl
theorem laws_heldIntS.k2 (v0 : List Int) (v1 : Int) (v2 : Int) : roundL E (callT E tab) 117 Try.f117 2 [.r, .l, .r, .b] (vc (.d .fro (.sl (.int .i64)) v0) :: vc (iL v1) :: nn 3 (vc (iL v2) :: nn 15 ([]))) = laws_heldIntS.t2 (fun b => some (laws_heldIntS.mk b)) laws_heldIntS.q2 v0 v1 v2 := by kernel_rfl
theorem laws_heldIntS.eq (v0 : List Int) (v1 : Int) {b : Int} (h : laws_heldIntS.t some laws_heldIntS.l2 v0 v1 = some b) : laws_heldIntS v0 v1 = some b := tOf_intro laws_heldIntS.un (fun _ => by kernel_rfl) (vlim_fn (callT_le E tab) rfl rfl rfl ((laws_heldIntS.k v0 v1).trans ((by unfold laws_heldIntS.t; repeat' first | exact Sub.ret | exact Sub.none | exact Sub.loop | apply Sub.cond | (apply Sub.bind; intro _) : Sub laws_heldIntS.mk _ _) b h)))
theorem laws_heldIntS.eq2 (v0 : List Int) (v1 : Int) (v2 : Int) {b : Int} (h : laws_heldIntS.t2 some laws_heldIntS.l2 v0 v1 v2 = some b) : laws_heldIntS.l2 v0 v1 v2 = some b := tOf_intro laws_heldIntS.un (fun _ => by kernel_rfl) (loopAtL_step ((laws_heldIntS.k2 v0 v1 v2).trans ((by unfold laws_heldIntS.t2; repeat' first | exact Sub.ret | exact Sub.none | exact Sub.loop | apply Sub.cond | (apply Sub.bind; intro _) : Sub laws_heldIntS.mk _ _) b h)))
noncomputable def xl0l.t {γ : Type} (ret : (Bool) → Option γ) (v0 : Int) (v1 : List (List Int)) : Option γ :=
 (laws_szTableau (v0) (v1) ((1048576 : Int))).bind fun (r0 : Int) =>
 bif decide (r0 < (0 : Int)) then
  ret (Bool.true)
 else
  (laws_toTableau (v0) (v1)).bind fun (r1 : Int × (List (List Int))) =>
  (spec_TableauTable (r1.fst) (r1.snd)).bind fun (r2 : Int × (List (List Int × Int)) × Bool) =>
  (laws_toTableau (v0) (v1)).bind fun (r3 : Int × (List (List Int))) =>
  (impl_TableauTable (r3.fst) (r3.snd)).bind fun (r4 : Int × (List (List Int × Int)) × Bool) =>
  (laws_eqTable (r4.fst) (r4.snd.fst) (r2.fst) (r2.snd.fst)).bind fun (r5 : Bool) =>
  bif !r5 then
   ret (Bool.false)
  else
   bif !r4.snd.snd == r2.snd.snd then
    ret (Bool.false)
   else
    (laws_toTableau (v0) (v1)).bind fun (r6 : Int × (List (List Int))) =>
    (laws_eqTableau (r3.fst) (r3.snd) (r6.fst) (r6.snd)).bind fun (r7 : Bool) =>
    bif !r7 then
     ret (Bool.false)
    else
     (xl0q (r3.fst) (r3.snd) ((1 : Int))).bind fun (r8 : Int × Int × (List (List Int))) =>
     bif decide (r8.fst < (0 : Int)) then
      ret (Bool.false)
     else
      (laws_eqTable (r4.fst) (r4.snd.fst) (r2.fst) (r2.snd.fst)).bind fun (r9 : Bool) =>
      bif !r9 then
       ret (Bool.false)
      else
       bif !r4.snd.snd == r2.snd.snd then
        ret (Bool.false)
       else
        (laws_markTable_d7a (r4.fst) (r4.snd.fst) ((1 : Int))).bind fun (r10 : Int × Int × (List (List Int × Int))) =>
        (laws_heldTable (r4.fst) (r10.snd.snd) ((1 : Int))).bind fun (r11 : Int) =>
        bif decide (r11 < (0 : Int)) then
         ret (Bool.false)
        else
         bif r11 != r10.fst then
          ret (Bool.false)
         else
          (laws_toTableau (v0) (v1)).bind fun (r12 : Int × (List (List Int))) =>
          (impl_TableauTable (r12.fst) (r12.snd)).bind fun (r13 : Int × (List (List Int × Int)) × Bool) =>
          (laws_eqTable (r13.fst) (r13.snd.fst) (r2.fst) (r2.snd.fst)).bind fun (r14 : Bool) =>
          bif !r14 then
           ret (Bool.false)
          else
           bif !r13.snd.snd == r2.snd.snd then
            ret (Bool.false)
           else
            (laws_heldTable (r4.fst) (r10.snd.snd) ((1 : Int))).bind fun (r15 : Int) =>
            bif decide (r15 < (0 : Int)) then
             ret (Bool.false)
            else
             bif r15 != r10.fst then
              ret (Bool.false)
             else
              ret (Bool.true)
theorem xl0l.k (v0 : Int) (v1 : List (List Int)) : topL E (callT E tab) 7 Try.f7 (xl0l.c v0 v1) = xl0l.t (fun b => some (xl0l.mk b)) v0 v1 := by kernel_rfl
theorem xl0l.eq (v0 : Int) (v1 : List (List Int)) {b : Bool} (h : xl0l.t some v0 v1 = some b) : xl0l v0 v1 = some b := tOf_intro xl0l.un (fun _ => by kernel_rfl) (vlim_fn (callT_le E tab) rfl rfl rfl ((xl0l.k v0 v1).trans ((by unfold xl0l.t; repeat' first | exact Sub.ret | exact Sub.none | exact Sub.loop | apply Sub.cond | (apply Sub.bind; intro _) : Sub xl0l.mk _ _) b h)))
noncomputable def laws_szTableau.t {γ : Type} (ret : (Int) → Option γ) (v0 : Int) (v1 : List (List Int)) (v2 : Int) : Option γ :=
 (laws_szRowS (v1) (v2)).bind fun (r0 : Int) =>
 bif decide (r0 < (0 : Int)) then
  ret ((-1 : Int))
 else
  ret (r0)
theorem laws_szTableau.k (v0 : Int) (v1 : List (List Int)) (v2 : Int) : topL E (callT E tab) 31 Try.f31 (laws_szTableau.c v0 v1 v2) = laws_szTableau.t (fun b => some (laws_szTableau.mk b)) v0 v1 v2 := by kernel_rfl
theorem laws_szTableau.eq (v0 : Int) (v1 : List (List Int)) (v2 : Int) {b : Int} (h : laws_szTableau.t some v0 v1 v2 = some b) : laws_szTableau v0 v1 v2 = some b := tOf_intro laws_szTableau.un (fun _ => by kernel_rfl) (vlim_fn (callT_le E tab) rfl rfl rfl ((laws_szTableau.k v0 v1 v2).trans ((by unfold laws_szTableau.t; repeat' first | exact Sub.ret | exact Sub.none | exact Sub.loop | apply Sub.cond | (apply Sub.bind; intro _) : Sub laws_szTableau.mk _ _) b h)))
noncomputable def laws_szRowS.q5 (v0 : List (List Int)) (v1 : Int) (v2 : Int) : Option R := loopAtL E (callT E tab) 86 Try.f86 2 [.r, .r, .r, .l, .r, .b] (vc (.d .fro (.sl (.sl (.int .i64))) v0) :: vc (iL v1) :: nn 3 (vc (iL v2) :: nn 21 ([])))
noncomputable def laws_szRowS.l5 (v0 : List (List Int)) (v1 : Int) (v2 : Int) : Option (Int) := tOf laws_szRowS.mk (laws_szRowS.q5 v0 v1 v2)
noncomputable def laws_szRowS.t {γ : Type} (ret : (Int) → Option γ) (lp5 : (List (List Int)) → Int → Int → Option γ) (v0 : List (List Int)) (v1 : Int) : Option γ :=
 bif decide (IntKind.i64.wrap (v1 - (↑v0.length : Int)) < (0 : Int)) then
  ret ((-1 : Int))
 else
  lp5 (v0) (IntKind.i64.wrap (v1 - (↑v0.length : Int))) ((0 : Int))
noncomputable def laws_szRowS.t5 {γ : Type} (ret : (Int) → Option γ) (lp5 : (List (List Int)) → Int → Int → Option γ) (v0 : List (List Int)) (v1 : Int) (v2 : Int) : Option γ :=
 bif decide (v2 < (↑v0.length : Int)) then
  bif decide ((0 : Int) ≤ v2) then
   bif decide (v2.toNat < v0.length) then
    (laws_szRow (v0.getD v2.toNat []) (v1)).bind fun (r0 : Int) =>
    bif decide (r0 < (0 : Int)) then
     ret ((-1 : Int))
    else
     lp5 (v0) (r0) (IntKind.i64.wrap (v2 + (1 : Int)))
   else
    none
  else
   none
 else
  ret (v1)
theorem laws_szRowS.k (v0 : List (List Int)) (v1 : Int) : topL E (callT E tab) 86 Try.f86 (laws_szRowS.c v0 v1) = laws_szRowS.t (fun b => some (laws_szRowS.mk b)) laws_szRowS.q5 v0 v1 := by kernel_rfl
theorem laws_szRowS.k5 (v0 : List (List Int)) (v1 : Int) (v2 : Int) : roundL E (callT E tab) 86 Try.f86 2 [.r, .r, .r, .l, .r, .b] (vc (.d .fro (.sl (.sl (.int .i64))) v0) :: vc (iL v1) :: nn 3 (vc (iL v2) :: nn 21 ([]))) = laws_szRowS.t5 (fun b => some (laws_szRowS.mk b)) laws_szRowS.q5 v0 v1 v2 := by kernel_rfl
theorem laws_szRowS.eq (v0 : List (List Int)) (v1 : Int) {b : Int} (h : laws_szRowS.t some laws_szRowS.l5 v0 v1 = some b) : laws_szRowS v0 v1 = some b := tOf_intro laws_szRowS.un (fun _ => by kernel_rfl) (vlim_fn (callT_le E tab) rfl rfl rfl ((laws_szRowS.k v0 v1).trans ((by unfold laws_szRowS.t; repeat' first | exact Sub.ret | exact Sub.none | exact Sub.loop | apply Sub.cond | (apply Sub.bind; intro _) : Sub laws_szRowS.mk _ _) b h)))
theorem laws_szRowS.eq5 (v0 : List (List Int)) (v1 : Int) (v2 : Int) {b : Int} (h : laws_szRowS.t5 some laws_szRowS.l5 v0 v1 v2 = some b) : laws_szRowS.l5 v0 v1 v2 = some b := tOf_intro laws_szRowS.un (fun _ => by kernel_rfl) (loopAtL_step ((laws_szRowS.k5 v0 v1 v2).trans ((by unfold laws_szRowS.t5; repeat' first | exact Sub.ret | exact Sub.none | exact Sub.loop | apply Sub.cond | (apply Sub.bind; intro _) : Sub laws_szRowS.mk _ _) b h)))
noncomputable def laws_toTableau.t {γ : Type} (ret : (Int × (List (List Int))) → Option γ) (v0 : Int) (v1 : List (List Int)) : Option γ :=
 (laws_toRowS (v1)).bind fun (r0 : (List (List Int))) =>
 ret (v0, r0)
theorem laws_toTableau.k (v0 : Int) (v1 : List (List Int)) : topL E (callT E tab) 34 Try.f34 (laws_toTableau.c v0 v1) = laws_toTableau.t (fun b => some (laws_toTableau.mk b)) v0 v1 := by kernel_rfl
theorem laws_toTableau.eq (v0 : Int) (v1 : List (List Int)) {b : Int × (List (List Int))} (h : laws_toTableau.t some v0 v1 = some b) : laws_toTableau v0 v1 = some b := tOf_intro laws_toTableau.un (fun _ => by kernel_rfl) (vlim_fn (callT_le E tab) rfl rfl rfl ((laws_toTableau.k v0 v1).trans ((by unfold laws_toTableau.t; repeat' first | exact Sub.ret | exact Sub.none | exact Sub.loop | apply Sub.cond | (apply Sub.bind; intro _) : Sub laws_toTableau.mk _ _) b h)))
end GoV

/- Equations of the program's functions (printed by wip/tools/emit.py). -/
namespace GoV
open Go Go.Proofs
set_option maxRecDepth 100000

noncomputable def laws_toRowS.q3 (v0 : List (List Int)) (v1 : List (List Int)) (v2 : Int) : Option R := loopAtL E (callT E tab) 91 Try.f91 1 [.r, .r, .l, .r, .b] (vc (.d .fro (.sl (.sl (.int .i64))) v0) :: nn 2 (vc (.d .deep (.sl (.sl (.int .i64))) v1) :: vc (iL v2) :: nn 18 ([])))
noncomputable def laws_toRowS.l3 (v0 : List (List Int)) (v1 : List (List Int)) (v2 : Int) : Option ((List (List Int))) := tOf laws_toRowS.mk (laws_toRowS.q3 v0 v1 v2)
noncomputable def laws_toRowS.t {γ : Type} (ret : ((List (List Int))) → Option γ) (lp3 : (List (List Int)) → (List (List Int)) → Int → Option γ) (v0 : List (List Int)) : Option γ :=
 bif decide ((↑v0.length : Int) = (↑v0.length : Int)) then
  bif decide ((↑v0.length : Int) ≤ (↑(4294967296 : Nat) : Int)) then
   lp3 (v0) (List.replicate (↑v0.length : Int).toNat []) ((0 : Int))
  else
   none
 else
  none
noncomputable def laws_toRowS.t3 {γ : Type} (ret : ((List (List Int))) → Option γ) (lp3 : (List (List Int)) → (List (List Int)) → Int → Option γ) (v0 : List (List Int)) (v1 : List (List Int)) (v2 : Int) : Option γ :=
 bif decide (v2 < (↑v0.length : Int)) then
  bif decide ((0 : Int) ≤ v2) then
   bif decide (v2.toNat < v0.length) then
    (laws_toRow (v0.getD v2.toNat [])).bind fun (r0 : (List Int)) =>
    bif decide ((0 : Int) ≤ v2) then
     bif decide (v2.toNat < v1.length) then
      bif decide (v2.toNat < v1.length) then
       lp3 (v0) (v1.set v2.toNat r0) (IntKind.i64.wrap (v2 + (1 : Int)))
      else
       none
     else
      none
    else
     none
   else
    none
  else
   none
 else
  ret (v1)
theorem laws_toRowS.k (v0 : List (List Int)) : topL E (callT E tab) 91 Try.f91 (laws_toRowS.c v0) = laws_toRowS.t (fun b => some (laws_toRowS.mk b)) laws_toRowS.q3 v0 := by kernel_rfl
theorem laws_toRowS.k3 (v0 : List (List Int)) (v1 : List (List Int)) (v2 : Int) : roundL E (callT E tab) 91 Try.f91 1 [.r, .r, .l, .r, .b] (vc (.d .fro (.sl (.sl (.int .i64))) v0) :: nn 2 (vc (.d .deep (.sl (.sl (.int .i64))) v1) :: vc (iL v2) :: nn 18 ([]))) = laws_toRowS.t3 (fun b => some (laws_toRowS.mk b)) laws_toRowS.q3 v0 v1 v2 := by kernel_rfl
theorem laws_toRowS.eq (v0 : List (List Int)) {b : (List (List Int))} (h : laws_toRowS.t some laws_toRowS.l3 v0 = some b) : laws_toRowS v0 = some b := tOf_intro laws_toRowS.un (fun _ => by kernel_rfl) (vlim_fn (callT_le E tab) rfl rfl rfl ((laws_toRowS.k v0).trans ((by unfold laws_toRowS.t; repeat' first | exact Sub.ret | exact Sub.none | exact Sub.loop | apply Sub.cond | (apply Sub.bind; intro _) : Sub laws_toRowS.mk _ _) b h)))
theorem laws_toRowS.eq3 (v0 : List (List Int)) (v1 : List (List Int)) (v2 : Int) {b : (List (List Int))} (h : laws_toRowS.t3 some laws_toRowS.l3 v0 v1 v2 = some b) : laws_toRowS.l3 v0 v1 v2 = some b := tOf_intro laws_toRowS.un (fun _ => by kernel_rfl) (loopAtL_step ((laws_toRowS.k3 v0 v1 v2).trans ((by unfold laws_toRowS.t3; repeat' first | exact Sub.ret | exact Sub.none | exact Sub.loop | apply Sub.cond | (apply Sub.bind; intro _) : Sub laws_toRowS.mk _ _) b h)))
noncomputable def spec_TableauTable.q5 (v0 : Int) (v1 : List (List Int)) (v2 : Int) (v3 : List (List Int × Int)) (v4 : List (List Int × Int)) (v5 : List (List Int)) (v6 : Int) (v7 : Int) : Option R := loopAtL E (callT E tab) 44 Try.f44 1 [.r, .r, .r, .l, .r, .b] (nn 1 (⟨(.box false), [iL v0, .d .fro (.sl (.sl (.int .i64))) v1], false, false, false, 0, 0⟩ :: ⟨(.box false), [iL v2, .d .deep (.sl (.pair (.sl (.int .i64)) (.int .i64))) v3], false, false, false, 0, 0⟩ :: nn 1 (vc (.d .sha (.sl (.pair (.sl (.int .i64)) (.int .i64))) v4) :: nn 7 (vc (.d .fro (.sl (.sl (.int .i64))) v5) :: vc (iL v6) :: vc (iL v7) :: nn 14 ([])))))
noncomputable def spec_TableauTable.l5 (v0 : Int) (v1 : List (List Int)) (v2 : Int) (v3 : List (List Int × Int)) (v4 : List (List Int × Int)) (v5 : List (List Int)) (v6 : Int) (v7 : Int) : Option (Int × (List (List Int × Int)) × Bool) := tOf spec_TableauTable.mk (spec_TableauTable.q5 v0 v1 v2 v3 v4 v5 v6 v7)
noncomputable def spec_TableauTable.t {γ : Type} (ret : (Int × (List (List Int × Int)) × Bool) → Option γ) (lp5 : Int → (List (List Int)) → Int → (List (List Int × Int)) → (List (List Int × Int)) → (List (List Int)) → Int → Int → Option γ) (v0 : Int) (v1 : List (List Int)) : Option γ :=
 (spec_GoodTableau (v0) (v1)).bind fun (r0 : Bool) =>
 bif !r0 then
  ret ((0 : Int), [], Bool.false)
 else
  lp5 (v0) (v1) ((0 : Int)) ([]) ([]) (v1) ((↑v1.length : Int)) ((0 : Int))
noncomputable def spec_TableauTable.t5 {γ : Type} (ret : (Int × (List (List Int × Int)) × Bool) → Option γ) (lp5 : Int → (List (List Int)) → Int → (List (List Int × Int)) → (List (List Int × Int)) → (List (List Int)) → Int → Int → Option γ) (v0 : Int) (v1 : List (List Int)) (v2 : Int) (v3 : List (List Int × Int)) (v4 : List (List Int × Int)) (v5 : List (List Int)) (v6 : Int) (v7 : Int) : Option γ :=
 bif decide (v7 < v6) then
  bif decide ((0 : Int) ≤ v7) then
   bif decide (v7.toNat < v5.length) then
    (spec_l2Put (v4) (v5.getD v7.toNat []) ((1 : Int))).bind fun (r1 : (List (List Int × Int))) =>
    lp5 (v0) (v1) (v2) (v3) (r1) (v5) (v6) (IntKind.i64.wrap (v7 + (1 : Int)))
   else
    none
  else
   none
 else
  (spec_l3Distinct (v4)).bind fun (r2 : (List (List Int × Int))) =>
  (spec_l2Tell (v0) (r2)).bind fun (r3 : Int × (List (List Int × Int)) × Bool) =>
  ret (r3.fst, r3.snd.fst, r3.snd.snd)
theorem spec_TableauTable.k (v0 : Int) (v1 : List (List Int)) : topL E (callT E tab) 44 Try.f44 (spec_TableauTable.c v0 v1) = spec_TableauTable.t (fun b => some (spec_TableauTable.mk b)) spec_TableauTable.q5 v0 v1 := by kernel_rfl
theorem spec_TableauTable.k5 (v0 : Int) (v1 : List (List Int)) (v2 : Int) (v3 : List (List Int × Int)) (v4 : List (List Int × Int)) (v5 : List (List Int)) (v6 : Int) (v7 : Int) : roundL E (callT E tab) 44 Try.f44 1 [.r, .r, .r, .l, .r, .b] (nn 1 (⟨(.box false), [iL v0, .d .fro (.sl (.sl (.int .i64))) v1], false, false, false, 0, 0⟩ :: ⟨(.box false), [iL v2, .d .deep (.sl (.pair (.sl (.int .i64)) (.int .i64))) v3], false, false, false, 0, 0⟩ :: nn 1 (vc (.d .sha (.sl (.pair (.sl (.int .i64)) (.int .i64))) v4) :: nn 7 (vc (.d .fro (.sl (.sl (.int .i64))) v5) :: vc (iL v6) :: vc (iL v7) :: nn 14 ([]))))) = spec_TableauTable.t5 (fun b => some (spec_TableauTable.mk b)) spec_TableauTable.q5 v0 v1 v2 v3 v4 v5 v6 v7 := by kernel_rfl
theorem spec_TableauTable.eq (v0 : Int) (v1 : List (List Int)) {b : Int × (List (List Int × Int)) × Bool} (h : spec_TableauTable.t some spec_TableauTable.l5 v0 v1 = some b) : spec_TableauTable v0 v1 = some b := tOf_intro spec_TableauTable.un (fun _ => by kernel_rfl) (vlim_fn (callT_le E tab) rfl rfl rfl ((spec_TableauTable.k v0 v1).trans ((by unfold spec_TableauTable.t; repeat' first | exact Sub.ret | exact Sub.none | exact Sub.loop | apply Sub.cond | (apply Sub.bind; intro _) : Sub spec_TableauTable.mk _ _) b h)))
theorem spec_TableauTable.eq5 (v0 : Int) (v1 : List (List Int)) (v2 : Int) (v3 : List (List Int × Int)) (v4 : List (List Int × Int)) (v5 : List (List Int)) (v6 : Int) (v7 : Int) {b : Int × (List (List Int × Int)) × Bool} (h : spec_TableauTable.t5 some spec_TableauTable.l5 v0 v1 v2 v3 v4 v5 v6 v7 = some b) : spec_TableauTable.l5 v0 v1 v2 v3 v4 v5 v6 v7 = some b := tOf_intro spec_TableauTable.un (fun _ => by kernel_rfl) (loopAtL_step ((spec_TableauTable.k5 v0 v1 v2 v3 v4 v5 v6 v7).trans ((by unfold spec_TableauTable.t5; repeat' first | exact Sub.ret | exact Sub.none | exact Sub.loop | apply Sub.cond | (apply Sub.bind; intro _) : Sub spec_TableauTable.mk _ _) b h)))
noncomputable def spec_GoodTableau.q7 (v0 : Int) (v1 : List (List Int)) (v2 : List (List Int)) (v3 : Int) (v4 : Int) (v5 : List Int) (v6 : Int) (v7 : Int) : Option R := loopAtL E (callT E tab) 88 Try.f88 1 [.r, .l, .r, .b, .o, .r, .r, .l, .b, .r, .r, .r, .b] (nn 1 (⟨(.box false), [iL v0, .d .fro (.sl (.sl (.int .i64))) v1], false, false, false, 0, 0⟩ :: nn 6 (vc (.d .fro (.sl (.sl (.int .i64))) v2) :: vc (iL v3) :: vc (iL v4) :: nn 15 (vc (.d .fro (.sl (.int .i64)) v5) :: vc (iL v6) :: vc (iL v7) :: nn 16 ([])))))
noncomputable def spec_GoodTableau.l7 (v0 : Int) (v1 : List (List Int)) (v2 : List (List Int)) (v3 : Int) (v4 : Int) (v5 : List Int) (v6 : Int) (v7 : Int) : Option (Bool) := tOf spec_GoodTableau.mk (spec_GoodTableau.q7 v0 v1 v2 v3 v4 v5 v6 v7)
noncomputable def spec_GoodTableau.q2 (v0 : Int) (v1 : List (List Int)) (v2 : List (List Int)) (v3 : Int) (v4 : Int) : Option R := loopAtL E (callT E tab) 88 Try.f88 1 [.r, .l, .r, .b] (nn 1 (⟨(.box false), [iL v0, .d .fro (.sl (.sl (.int .i64))) v1], false, false, false, 0, 0⟩ :: nn 6 (vc (.d .fro (.sl (.sl (.int .i64))) v2) :: vc (iL v3) :: vc (iL v4) :: nn 34 ([]))))
noncomputable def spec_GoodTableau.l2 (v0 : Int) (v1 : List (List Int)) (v2 : List (List Int)) (v3 : Int) (v4 : Int) : Option (Bool) := tOf spec_GoodTableau.mk (spec_GoodTableau.q2 v0 v1 v2 v3 v4)
noncomputable def spec_GoodTableau.t {γ : Type} (ret : (Bool) → Option γ) (lp7 : Int → (List (List Int)) → (List (List Int)) → Int → Int → (List Int) → Int → Int → Option γ) (lp2 : Int → (List (List Int)) → (List (List Int)) → Int → Int → Option γ) (v0 : Int) (v1 : List (List Int)) : Option γ :=
 lp2 (v0) (v1) (v1) ((↑v1.length : Int)) ((0 : Int))
noncomputable def spec_GoodTableau.t7 {γ : Type} (ret : (Bool) → Option γ) (lp7 : Int → (List (List Int)) → (List (List Int)) → Int → Int → (List Int) → Int → Int → Option γ) (lp2 : Int → (List (List Int)) → (List (List Int)) → Int → Int → Option γ) (v0 : Int) (v1 : List (List Int)) (v2 : List (List Int)) (v3 : Int) (v4 : Int) (v5 : List Int) (v6 : Int) (v7 : Int) : Option γ :=
 bif decide (v7 < v6) then
  bif decide ((0 : Int) ≤ v7) then
   bif decide (v7.toNat < v5.length) then
    bif decide (v5.getD v7.toNat (0 : Int) < (0 : Int)) then
     ret (Bool.false)
    else
     lp7 (v0) (v1) (v2) (v3) (v4) (v5) (v6) (IntKind.i64.wrap (v7 + (1 : Int)))
   else
    none
  else
   none
 else
  lp2 (v0) (v1) (v2) (v3) (IntKind.i64.wrap (v4 + (1 : Int)))
noncomputable def spec_GoodTableau.t2 {γ : Type} (ret : (Bool) → Option γ) (lp7 : Int → (List (List Int)) → (List (List Int)) → Int → Int → (List Int) → Int → Int → Option γ) (lp2 : Int → (List (List Int)) → (List (List Int)) → Int → Int → Option γ) (v0 : Int) (v1 : List (List Int)) (v2 : List (List Int)) (v3 : Int) (v4 : Int) : Option γ :=
 bif decide (v4 < v3) then
  bif decide ((0 : Int) ≤ v4) then
   bif decide (v4.toNat < v2.length) then
    (spec_GoodRow (v2.getD v4.toNat [])).bind fun (r0 : Bool) =>
    bif !r0 then
     ret (Bool.false)
    else
     bif (↑(v2.getD v4.toNat []).length : Int) != v0 then
      ret (Bool.false)
     else
      lp7 (v0) (v1) (v2) (v3) (v4) (v2.getD v4.toNat []) ((↑(v2.getD v4.toNat []).length : Int)) ((0 : Int))
   else
    none
  else
   none
 else
  (spec_l1In (v0) ((1 : Int)) ((6 : Int))).bind fun (r1 : Bool) =>
  bif r1 then
   (spec_l1In ((↑v1.length : Int)) ((1 : Int)) ((8 : Int))).bind fun (r2 : Bool) =>
   ret (r2)
  else
   ret (Bool.false)
theorem spec_GoodTableau.k (v0 : Int) (v1 : List (List Int)) : topL E (callT E tab) 88 Try.f88 (spec_GoodTableau.c v0 v1) = spec_GoodTableau.t (fun b => some (spec_GoodTableau.mk b)) spec_GoodTableau.q7 spec_GoodTableau.q2 v0 v1 := by kernel_rfl
theorem spec_GoodTableau.k7 (v0 : Int) (v1 : List (List Int)) (v2 : List (List Int)) (v3 : Int) (v4 : Int) (v5 : List Int) (v6 : Int) (v7 : Int) : roundL E (callT E tab) 88 Try.f88 1 [.r, .l, .r, .b, .o, .r, .r, .l, .b, .r, .r, .r, .b] (nn 1 (⟨(.box false), [iL v0, .d .fro (.sl (.sl (.int .i64))) v1], false, false, false, 0, 0⟩ :: nn 6 (vc (.d .fro (.sl (.sl (.int .i64))) v2) :: vc (iL v3) :: vc (iL v4) :: nn 15 (vc (.d .fro (.sl (.int .i64)) v5) :: vc (iL v6) :: vc (iL v7) :: nn 16 ([]))))) = spec_GoodTableau.t7 (fun b => some (spec_GoodTableau.mk b)) spec_GoodTableau.q7 spec_GoodTableau.q2 v0 v1 v2 v3 v4 v5 v6 v7 := by kernel_rfl
theorem spec_GoodTableau.k2 (v0 : Int) (v1 : List (List Int)) (v2 : List (List Int)) (v3 : Int) (v4 : Int) : roundL E (callT E tab) 88 Try.f88 1 [.r, .l, .r, .b] (nn 1 (⟨(.box false), [iL v0, .d .fro (.sl (.sl (.int .i64))) v1], false, false, false, 0, 0⟩ :: nn 6 (vc (.d .fro (.sl (.sl (.int .i64))) v2) :: vc (iL v3) :: vc (iL v4) :: nn 34 ([])))) = spec_GoodTableau.t2 (fun b => some (spec_GoodTableau.mk b)) spec_GoodTableau.q7 spec_GoodTableau.q2 v0 v1 v2 v3 v4 := by kernel_rfl
theorem spec_GoodTableau.eq (v0 : Int) (v1 : List (List Int)) {b : Bool} (h : spec_GoodTableau.t some spec_GoodTableau.l7 spec_GoodTableau.l2 v0 v1 = some b) : spec_GoodTableau v0 v1 = some b := tOf_intro spec_GoodTableau.un (fun _ => by kernel_rfl) (vlim_fn (callT_le E tab) rfl rfl rfl ((spec_GoodTableau.k v0 v1).trans ((by unfold spec_GoodTableau.t; repeat' first | exact Sub.ret | exact Sub.none | exact Sub.loop | apply Sub.cond | (apply Sub.bind; intro _) : Sub spec_GoodTableau.mk _ _) b h)))
theorem spec_GoodTableau.eq7 (v0 : Int) (v1 : List (List Int)) (v2 : List (List Int)) (v3 : Int) (v4 : Int) (v5 : List Int) (v6 : Int) (v7 : Int) {b : Bool} (h : spec_GoodTableau.t7 some spec_GoodTableau.l7 spec_GoodTableau.l2 v0 v1 v2 v3 v4 v5 v6 v7 = some b) : spec_GoodTableau.l7 v0 v1 v2 v3 v4 v5 v6 v7 = some b := tOf_intro spec_GoodTableau.un (fun _ => by kernel_rfl) (loopAtL_step ((spec_GoodTableau.k7 v0 v1 v2 v3 v4 v5 v6 v7).trans ((by unfold spec_GoodTableau.t7; repeat' first | exact Sub.ret | exact Sub.none | exact Sub.loop | apply Sub.cond | (apply Sub.bind; intro _) : Sub spec_GoodTableau.mk _ _) b h)))
theorem spec_GoodTableau.eq2 (v0 : Int) (v1 : List (List Int)) (v2 : List (List Int)) (v3 : Int) (v4 : Int) {b : Bool} (h : spec_GoodTableau.t2 some spec_GoodTableau.l7 spec_GoodTableau.l2 v0 v1 v2 v3 v4 = some b) : spec_GoodTableau.l2 v0 v1 v2 v3 v4 = some b := tOf_intro spec_GoodTableau.un (fun _ => by kernel_rfl) (loopAtL_step ((spec_GoodTableau.k2 v0 v1 v2 v3 v4).trans ((by unfold spec_GoodTableau.t2; repeat' first | exact Sub.ret | exact Sub.none | exact Sub.loop | apply Sub.cond | (apply Sub.bind; intro _) : Sub spec_GoodTableau.mk _ _) b h)))
noncomputable def spec_l2Put.q2 (v0 : List (List Int × Int)) (v1 : Int) (v2 : List Int) (v3 : Int) : Option R := loopAtL E (callT E tab) 103 Try.f103 3 [.r, .r, .l, .b] (vc (.d .fro (.sl (.pair (.sl (.int .i64)) (.int .i64))) v0) :: nn 1 (vc (iL v1) :: nn 1 (⟨(.box false), [.d .fro (.sl (.int .i64)) v2], false, false, false, 0, 0⟩ :: nn 2 (vc (iL v3) :: nn 64 ([])))))
noncomputable def spec_l2Put.l2 (v0 : List (List Int × Int)) (v1 : Int) (v2 : List Int) (v3 : Int) : Option ((List (List Int × Int))) := tOf spec_l2Put.mk (spec_l2Put.q2 v0 v1 v2 v3)
noncomputable def spec_l2Put.t {γ : Type} (ret : ((List (List Int × Int))) → Option γ) (lp2 : (List (List Int × Int)) → Int → (List Int) → Int → Option γ) (v0 : List (List Int × Int)) (v1 : List Int) (v2 : Int) : Option γ :=
 lp2 (v0) (v2) (v1) ((0 : Int))
noncomputable def spec_l2Put.t2 {γ : Type} (ret : ((List (List Int × Int))) → Option γ) (lp2 : (List (List Int × Int)) → Int → (List Int) → Int → Option γ) (v0 : List (List Int × Int)) (v1 : Int) (v2 : List Int) (v3 : Int) : Option γ :=
 bif decide (v3 < (↑v0.length : Int)) then
  bif decide ((0 : Int) ≤ v3) then
   bif decide (v3.toNat < v0.length) then
    (spec_l1Compare ((v0.getD v3.toNat ([], (0 : Int))).fst) (v2)).bind fun (r0 : Int) =>
    bif decide (r0 < (0 : Int)) then
     lp2 (v0) (v1) (v2) (IntKind.i64.wrap (v3 + (1 : Int)))
    else
     bif decide (Option.none.getD (0 : Int) ≤ v3) then
      bif decide (v3 ≤ (↑v0.length : Int)) then
       bif decide   ((List.take (v3 - Option.none.getD (0 : Int)).toNat (List.drop (Option.none.getD (0 : Int)).toNat v0)).length ≤     (4294967296 : Nat)) then
        (spec_l2OwnRow (v2)).bind fun (r1 : (List Int)) =>
        bif decide (v3 < (↑v0.length : Int)) then
         bif decide ((0 : Int) ≤ v3) then
          bif decide (v3.toNat < v0.length) then
           (spec_l1Compare ((v0.getD v3.toNat ([], (0 : Int))).fst) (v2)).bind fun (r2 : Int) =>
           bif r2 == (0 : Int) then
            bif decide ((0 : Int) ≤ v3) then
             bif decide (v3.toNat < v0.length) then
              bif IntKind.i64.wrap (v1 + (v0.getD v3.toNat ([], (0 : Int))).snd) != (0 : Int) then
               bif decide   ((List.take (v3 - Option.none.getD (0 : Int)).toNat (List.drop (Option.none.getD (0 : Int)).toNat v0)).length +       [(r1, IntKind.i64.wrap (v1 + (v0.getD v3.toNat ([], (0 : Int))).snd))].length ≤     (4294967296 : Nat)) then
                bif decide ((0 : Int) ≤ (Option.some (IntKind.i64.wrap (v3 + (1 : Int)))).getD (0 : Int)) then
                 bif decide ((Option.some (IntKind.i64.wrap (v3 + (1 : Int)))).getD (0 : Int) ≤ (↑v0.length : Int)) then
                  bif decide   ((List.take (v3 - Option.none.getD (0 : Int)).toNat (List.drop (Option.none.getD (0 : Int)).toNat v0) ++           [(r1, IntKind.i64.wrap (v1 + (v0.getD v3.toNat ([], (0 : Int))).snd))]).length +       (List.drop ((Option.some (IntKind.i64.wrap (v3 + (1 : Int)))).getD (0 : Int)).toNat v0).length ≤     (4294967296 : Nat)) then
                   ret (List.take (v3 - Option.none.getD (0 : Int)).toNat (List.drop (Option.none.getD (0 : Int)).toNat v0) ++     [(r1, IntKind.i64.wrap (v1 + (v0.getD v3.toNat ([], (0 : Int))).snd))] ++   List.drop ((Option.some (IntKind.i64.wrap (v3 + (1 : Int)))).getD (0 : Int)).toNat v0)
                  else
                   none
                 else
                  none
                else
                 none
               else
                none
              else
               bif decide ((0 : Int) ≤ (Option.some (IntKind.i64.wrap (v3 + (1 : Int)))).getD (0 : Int)) then
                bif decide ((Option.some (IntKind.i64.wrap (v3 + (1 : Int)))).getD (0 : Int) ≤ (↑v0.length : Int)) then
                 bif decide   ((List.take (v3 - Option.none.getD (0 : Int)).toNat (List.drop (Option.none.getD (0 : Int)).toNat v0)).length +       (List.drop ((Option.some (IntKind.i64.wrap (v3 + (1 : Int)))).getD (0 : Int)).toNat v0).length ≤     (4294967296 : Nat)) then
                  ret (List.take (v3 - Option.none.getD (0 : Int)).toNat (List.drop (Option.none.getD (0 : Int)).toNat v0) ++   List.drop ((Option.some (IntKind.i64.wrap (v3 + (1 : Int)))).getD (0 : Int)).toNat v0)
                 else
                  none
                else
                 none
               else
                none
             else
              none
            else
             none
           else
            bif v1 != (0 : Int) then
             bif decide   ((List.take (v3 - Option.none.getD (0 : Int)).toNat (List.drop (Option.none.getD (0 : Int)).toNat v0)).length +       [(r1, v1)].length ≤     (4294967296 : Nat)) then
              bif decide ((0 : Int) ≤ (Option.some v3).getD (0 : Int)) then
               bif decide ((Option.some v3).getD (0 : Int) ≤ (↑v0.length : Int)) then
                bif decide   ((List.take (v3 - Option.none.getD (0 : Int)).toNat (List.drop (Option.none.getD (0 : Int)).toNat v0) ++           [(r1, v1)]).length +       (List.drop ((Option.some v3).getD (0 : Int)).toNat v0).length ≤     (4294967296 : Nat)) then
                 ret (List.take (v3 - Option.none.getD (0 : Int)).toNat (List.drop (Option.none.getD (0 : Int)).toNat v0) ++ [(r1, v1)] ++   List.drop ((Option.some v3).getD (0 : Int)).toNat v0)
                else
                 none
               else
                none
              else
               none
             else
              none
            else
             bif decide ((0 : Int) ≤ (Option.some v3).getD (0 : Int)) then
              bif decide ((Option.some v3).getD (0 : Int) ≤ (↑v0.length : Int)) then
               bif decide   ((List.take (v3 - Option.none.getD (0 : Int)).toNat (List.drop (Option.none.getD (0 : Int)).toNat v0)).length +       (List.drop ((Option.some v3).getD (0 : Int)).toNat v0).length ≤     (4294967296 : Nat)) then
                ret (List.take (v3 - Option.none.getD (0 : Int)).toNat (List.drop (Option.none.getD (0 : Int)).toNat v0) ++   List.drop ((Option.some v3).getD (0 : Int)).toNat v0)
               else
                none
              else
               none
             else
              none
          else
           none
         else
          none
        else
         bif v1 != (0 : Int) then
          bif decide   ((List.take (v3 - Option.none.getD (0 : Int)).toNat (List.drop (Option.none.getD (0 : Int)).toNat v0)).length +       [(r1, v1)].length ≤     (4294967296 : Nat)) then
           bif decide ((0 : Int) ≤ (Option.some v3).getD (0 : Int)) then
            bif decide ((Option.some v3).getD (0 : Int) ≤ (↑v0.length : Int)) then
             bif decide   ((List.take (v3 - Option.none.getD (0 : Int)).toNat (List.drop (Option.none.getD (0 : Int)).toNat v0) ++           [(r1, v1)]).length +       (List.drop ((Option.some v3).getD (0 : Int)).toNat v0).length ≤     (4294967296 : Nat)) then
              ret (List.take (v3 - Option.none.getD (0 : Int)).toNat (List.drop (Option.none.getD (0 : Int)).toNat v0) ++ [(r1, v1)] ++   List.drop ((Option.some v3).getD (0 : Int)).toNat v0)
             else
              none
            else
             none
           else
            none
          else
           none
         else
          bif decide ((0 : Int) ≤ (Option.some v3).getD (0 : Int)) then
           bif decide ((Option.some v3).getD (0 : Int) ≤ (↑v0.length : Int)) then
            bif decide   ((List.take (v3 - Option.none.getD (0 : Int)).toNat (List.drop (Option.none.getD (0 : Int)).toNat v0)).length +       (List.drop ((Option.some v3).getD (0 : Int)).toNat v0).length ≤     (4294967296 : Nat)) then
             ret (List.take (v3 - Option.none.getD (0 : Int)).toNat (List.drop (Option.none.getD (0 : Int)).toNat v0) ++   List.drop ((Option.some v3).getD (0 : Int)).toNat v0)
            else
             none
           else
            none
          else
           none
       else
        none
      else
       none
     else
      none
   else
    none
  else
   none
 else
  bif decide (Option.none.getD (0 : Int) ≤ v3) then
   bif decide (v3 ≤ (↑v0.length : Int)) then
    bif decide   ((List.take (v3 - Option.none.getD (0 : Int)).toNat (List.drop (Option.none.getD (0 : Int)).toNat v0)).length ≤     (4294967296 : Nat)) then
     (spec_l2OwnRow (v2)).bind fun (r3 : (List Int)) =>
     bif decide (v3 < (↑v0.length : Int)) then
      bif decide ((0 : Int) ≤ v3) then
       bif decide (v3.toNat < v0.length) then
        (spec_l1Compare ((v0.getD v3.toNat ([], (0 : Int))).fst) (v2)).bind fun (r4 : Int) =>
        bif r4 == (0 : Int) then
         bif decide ((0 : Int) ≤ v3) then
          bif decide (v3.toNat < v0.length) then
           bif IntKind.i64.wrap (v1 + (v0.getD v3.toNat ([], (0 : Int))).snd) != (0 : Int) then
            bif decide   ((List.take (v3 - Option.none.getD (0 : Int)).toNat (List.drop (Option.none.getD (0 : Int)).toNat v0)).length +       [(r3, IntKind.i64.wrap (v1 + (v0.getD v3.toNat ([], (0 : Int))).snd))].length ≤     (4294967296 : Nat)) then
             bif decide ((0 : Int) ≤ (Option.some (IntKind.i64.wrap (v3 + (1 : Int)))).getD (0 : Int)) then
              bif decide ((Option.some (IntKind.i64.wrap (v3 + (1 : Int)))).getD (0 : Int) ≤ (↑v0.length : Int)) then
               bif decide   ((List.take (v3 - Option.none.getD (0 : Int)).toNat (List.drop (Option.none.getD (0 : Int)).toNat v0) ++           [(r3, IntKind.i64.wrap (v1 + (v0.getD v3.toNat ([], (0 : Int))).snd))]).length +       (List.drop ((Option.some (IntKind.i64.wrap (v3 + (1 : Int)))).getD (0 : Int)).toNat v0).length ≤     (4294967296 : Nat)) then
                ret (List.take (v3 - Option.none.getD (0 : Int)).toNat (List.drop (Option.none.getD (0 : Int)).toNat v0) ++     [(r3, IntKind.i64.wrap (v1 + (v0.getD v3.toNat ([], (0 : Int))).snd))] ++   List.drop ((Option.some (IntKind.i64.wrap (v3 + (1 : Int)))).getD (0 : Int)).toNat v0)
               else
                none
              else
               none
             else
              none
            else
             none
           else
            bif decide ((0 : Int) ≤ (Option.some (IntKind.i64.wrap (v3 + (1 : Int)))).getD (0 : Int)) then
             bif decide ((Option.some (IntKind.i64.wrap (v3 + (1 : Int)))).getD (0 : Int) ≤ (↑v0.length : Int)) then
              bif decide   ((List.take (v3 - Option.none.getD (0 : Int)).toNat (List.drop (Option.none.getD (0 : Int)).toNat v0)).length +       (List.drop ((Option.some (IntKind.i64.wrap (v3 + (1 : Int)))).getD (0 : Int)).toNat v0).length ≤     (4294967296 : Nat)) then
               ret (List.take (v3 - Option.none.getD (0 : Int)).toNat (List.drop (Option.none.getD (0 : Int)).toNat v0) ++   List.drop ((Option.some (IntKind.i64.wrap (v3 + (1 : Int)))).getD (0 : Int)).toNat v0)
              else
               none
             else
              none
            else
             none
          else
           none
         else
          none
        else
         bif v1 != (0 : Int) then
          bif decide   ((List.take (v3 - Option.none.getD (0 : Int)).toNat (List.drop (Option.none.getD (0 : Int)).toNat v0)).length +       [(r3, v1)].length ≤     (4294967296 : Nat)) then
           bif decide ((0 : Int) ≤ (Option.some v3).getD (0 : Int)) then
            bif decide ((Option.some v3).getD (0 : Int) ≤ (↑v0.length : Int)) then
             bif decide   ((List.take (v3 - Option.none.getD (0 : Int)).toNat (List.drop (Option.none.getD (0 : Int)).toNat v0) ++           [(r3, v1)]).length +       (List.drop ((Option.some v3).getD (0 : Int)).toNat v0).length ≤     (4294967296 : Nat)) then
              ret (List.take (v3 - Option.none.getD (0 : Int)).toNat (List.drop (Option.none.getD (0 : Int)).toNat v0) ++ [(r3, v1)] ++   List.drop ((Option.some v3).getD (0 : Int)).toNat v0)
             else
              none
            else
             none
           else
            none
          else
           none
         else
          bif decide ((0 : Int) ≤ (Option.some v3).getD (0 : Int)) then
           bif decide ((Option.some v3).getD (0 : Int) ≤ (↑v0.length : Int)) then
            bif decide   ((List.take (v3 - Option.none.getD (0 : Int)).toNat (List.drop (Option.none.getD (0 : Int)).toNat v0)).length +       (List.drop ((Option.some v3).getD (0 : Int)).toNat v0).length ≤     (4294967296 : Nat)) then
             ret (List.take (v3 - Option.none.getD (0 : Int)).toNat (List.drop (Option.none.getD (0 : Int)).toNat v0) ++   List.drop ((Option.some v3).getD (0 : Int)).toNat v0)
            else
             none
           else
            none
          else
           none
       else
        none
      else
       none
     else
      bif v1 != (0 : Int) then
       bif decide   ((List.take (v3 - Option.none.getD (0 : Int)).toNat (List.drop (Option.none.getD (0 : Int)).toNat v0)).length +       [(r3, v1)].length ≤     (4294967296 : Nat)) then
        bif decide ((0 : Int) ≤ (Option.some v3).getD (0 : Int)) then
         bif decide ((Option.some v3).getD (0 : Int) ≤ (↑v0.length : Int)) then
          bif decide   ((List.take (v3 - Option.none.getD (0 : Int)).toNat (List.drop (Option.none.getD (0 : Int)).toNat v0) ++           [(r3, v1)]).length +       (List.drop ((Option.some v3).getD (0 : Int)).toNat v0).length ≤     (4294967296 : Nat)) then
           ret (List.take (v3 - Option.none.getD (0 : Int)).toNat (List.drop (Option.none.getD (0 : Int)).toNat v0) ++ [(r3, v1)] ++   List.drop ((Option.some v3).getD (0 : Int)).toNat v0)
          else
           none
         else
          none
        else
         none
       else
        none
      else
       bif decide ((0 : Int) ≤ (Option.some v3).getD (0 : Int)) then
        bif decide ((Option.some v3).getD (0 : Int) ≤ (↑v0.length : Int)) then
         bif decide   ((List.take (v3 - Option.none.getD (0 : Int)).toNat (List.drop (Option.none.getD (0 : Int)).toNat v0)).length +       (List.drop ((Option.some v3).getD (0 : Int)).toNat v0).length ≤     (4294967296 : Nat)) then
          ret (List.take (v3 - Option.none.getD (0 : Int)).toNat (List.drop (Option.none.getD (0 : Int)).toNat v0) ++   List.drop ((Option.some v3).getD (0 : Int)).toNat v0)
         else
          none
        else
         none
       else
        none
    else
     none
   else
    none
  else
   none
theorem spec_l2Put.k (v0 : List (List Int × Int)) (v1 : List Int) (v2 : Int) : topL E (callT E tab) 103 Try.f103 (spec_l2Put.c v0 v1 v2) = spec_l2Put.t (fun b => some (spec_l2Put.mk b)) spec_l2Put.q2 v0 v1 v2 := by kernel_rfl
theorem spec_l2Put.k2 (v0 : List (List Int × Int)) (v1 : Int) (v2 : List Int) (v3 : Int) : roundL E (callT E tab) 103 Try.f103 3 [.r, .r, .l, .b] (vc (.d .fro (.sl (.pair (.sl (.int .i64)) (.int .i64))) v0) :: nn 1 (vc (iL v1) :: nn 1 (⟨(.box false), [.d .fro (.sl (.int .i64)) v2], false, false, false, 0, 0⟩ :: nn 2 (vc (iL v3) :: nn 64 ([]))))) = spec_l2Put.t2 (fun b => some (spec_l2Put.mk b)) spec_l2Put.q2 v0 v1 v2 v3 := by kernel_rfl
theorem spec_l2Put.eq (v0 : List (List Int × Int)) (v1 : List Int) (v2 : Int) {b : (List (List Int × Int))} (h : spec_l2Put.t some spec_l2Put.l2 v0 v1 v2 = some b) : spec_l2Put v0 v1 v2 = some b := tOf_intro spec_l2Put.un (fun _ => by kernel_rfl) (vlim_fn (callT_le E tab) rfl rfl rfl ((spec_l2Put.k v0 v1 v2).trans ((by unfold spec_l2Put.t; repeat' first | exact Sub.ret | exact Sub.none | exact Sub.loop | apply Sub.cond | (apply Sub.bind; intro _) : Sub spec_l2Put.mk _ _) b h)))
theorem spec_l2Put.eq2 (v0 : List (List Int × Int)) (v1 : Int) (v2 : List Int) (v3 : Int) {b : (List (List Int × Int))} (h : spec_l2Put.t2 some spec_l2Put.l2 v0 v1 v2 v3 = some b) : spec_l2Put.l2 v0 v1 v2 v3 = some b := tOf_intro spec_l2Put.un (fun _ => by kernel_rfl) (loopAtL_step ((spec_l2Put.k2 v0 v1 v2 v3).trans ((by unfold spec_l2Put.t2; repeat' first | exact Sub.ret | exact Sub.none | exact Sub.loop | apply Sub.cond | (apply Sub.bind; intro _) : Sub spec_l2Put.mk _ _) b h)))
noncomputable def spec_l3Distinct.q3 (v0 : List (List Int × Int)) (v1 : List (List Int × Int)) (v2 : Int) (v3 : Int) : Option R := loopAtL E (callT E tab) 104 Try.f104 1 [.r, .r, .l, .r, .b] (nn 3 (vc (.d .sha (.sl (.pair (.sl (.int .i64)) (.int .i64))) v0) :: nn 2 (vc (.d .fro (.sl (.pair (.sl (.int .i64)) (.int .i64))) v1) :: vc (iL v2) :: vc (iL v3) :: nn 14 ([]))))
noncomputable def spec_l3Distinct.l3 (v0 : List (List Int × Int)) (v1 : List (List Int × Int)) (v2 : Int) (v3 : Int) : Option ((List (List Int × Int))) := tOf spec_l3Distinct.mk (spec_l3Distinct.q3 v0 v1 v2 v3)
noncomputable def spec_l3Distinct.t {γ : Type} (ret : ((List (List Int × Int))) → Option γ) (lp3 : (List (List Int × Int)) → (List (List Int × Int)) → Int → Int → Option γ) (v0 : List (List Int × Int)) : Option γ :=
 lp3 ([]) (v0) ((↑v0.length : Int)) ((0 : Int))
noncomputable def spec_l3Distinct.t3 {γ : Type} (ret : ((List (List Int × Int))) → Option γ) (lp3 : (List (List Int × Int)) → (List (List Int × Int)) → Int → Int → Option γ) (v0 : List (List Int × Int)) (v1 : List (List Int × Int)) (v2 : Int) (v3 : Int) : Option γ :=
 bif decide (v3 < v2) then
  bif decide ((0 : Int) ≤ v3) then
   bif decide (v3.toNat < v1.length) then
    bif decide ((v1.getD v3.toNat ([], (0 : Int))).snd > (0 : Int)) then
     bif decide (v0.length + [((v1.getD v3.toNat ([], (0 : Int))).fst, (1 : Int))].length ≤ (4294967296 : Nat)) then
      lp3 (v0 ++ [((v1.getD v3.toNat ([], (0 : Int))).fst, (1 : Int))]) (v1) (v2) (IntKind.i64.wrap (v3 + (1 : Int)))
     else
      none
    else
     lp3 (v0) (v1) (v2) (IntKind.i64.wrap (v3 + (1 : Int)))
   else
    none
  else
   none
 else
  ret (v0)
theorem spec_l3Distinct.k (v0 : List (List Int × Int)) : topL E (callT E tab) 104 Try.f104 (spec_l3Distinct.c v0) = spec_l3Distinct.t (fun b => some (spec_l3Distinct.mk b)) spec_l3Distinct.q3 v0 := by kernel_rfl
theorem spec_l3Distinct.k3 (v0 : List (List Int × Int)) (v1 : List (List Int × Int)) (v2 : Int) (v3 : Int) : roundL E (callT E tab) 104 Try.f104 1 [.r, .r, .l, .r, .b] (nn 3 (vc (.d .sha (.sl (.pair (.sl (.int .i64)) (.int .i64))) v0) :: nn 2 (vc (.d .fro (.sl (.pair (.sl (.int .i64)) (.int .i64))) v1) :: vc (iL v2) :: vc (iL v3) :: nn 14 ([])))) = spec_l3Distinct.t3 (fun b => some (spec_l3Distinct.mk b)) spec_l3Distinct.q3 v0 v1 v2 v3 := by kernel_rfl
theorem spec_l3Distinct.eq (v0 : List (List Int × Int)) {b : (List (List Int × Int))} (h : spec_l3Distinct.t some spec_l3Distinct.l3 v0 = some b) : spec_l3Distinct v0 = some b := tOf_intro spec_l3Distinct.un (fun _ => by kernel_rfl) (vlim_fn (callT_le E tab) rfl rfl rfl ((spec_l3Distinct.k v0).trans ((by unfold spec_l3Distinct.t; repeat' first | exact Sub.ret | exact Sub.none | exact Sub.loop | apply Sub.cond | (apply Sub.bind; intro _) : Sub spec_l3Distinct.mk _ _) b h)))
theorem spec_l3Distinct.eq3 (v0 : List (List Int × Int)) (v1 : List (List Int × Int)) (v2 : Int) (v3 : Int) {b : (List (List Int × Int))} (h : spec_l3Distinct.t3 some spec_l3Distinct.l3 v0 v1 v2 v3 = some b) : spec_l3Distinct.l3 v0 v1 v2 v3 = some b := tOf_intro spec_l3Distinct.un (fun _ => by kernel_rfl) (loopAtL_step ((spec_l3Distinct.k3 v0 v1 v2 v3).trans ((by unfold spec_l3Distinct.t3; repeat' first | exact Sub.ret | exact Sub.none | exact Sub.loop | apply Sub.cond | (apply Sub.bind; intro _) : Sub spec_l3Distinct.mk _ _) b h)))
noncomputable def impl_TableauTable.q5 (v0 : Int) (v1 : List (List Int)) (v2 : Int) (v3 : List (List Int × Int)) (v4 : List (List Int × Int)) (v5 : List (List Int)) (v6 : Int) (v7 : Int) : Option R := loopAtL E (callT E tab) 45 Try.f45 1 [.r, .r, .r, .l, .r, .b] (nn 1 (⟨(.box false), [iL v0, .d .fro (.sl (.sl (.int .i64))) v1], false, false, false, 0, 0⟩ :: ⟨(.box false), [iL v2, .d .deep (.sl (.pair (.sl (.int .i64)) (.int .i64))) v3], false, false, false, 0, 0⟩ :: nn 1 (vc (.d .sha (.sl (.pair (.sl (.int .i64)) (.int .i64))) v4) :: nn 7 (vc (.d .fro (.sl (.sl (.int .i64))) v5) :: vc (iL v6) :: vc (iL v7) :: nn 15 ([])))))
noncomputable def impl_TableauTable.l5 (v0 : Int) (v1 : List (List Int)) (v2 : Int) (v3 : List (List Int × Int)) (v4 : List (List Int × Int)) (v5 : List (List Int)) (v6 : Int) (v7 : Int) : Option (Int × (List (List Int × Int)) × Bool) := tOf impl_TableauTable.mk (impl_TableauTable.q5 v0 v1 v2 v3 v4 v5 v6 v7)
noncomputable def impl_TableauTable.t {γ : Type} (ret : (Int × (List (List Int × Int)) × Bool) → Option γ) (lp5 : Int → (List (List Int)) → Int → (List (List Int × Int)) → (List (List Int × Int)) → (List (List Int)) → Int → Int → Option γ) (v0 : Int) (v1 : List (List Int)) : Option γ :=
 (impl_GoodTableau (v0) (v1)).bind fun (r0 : Bool) =>
 bif !r0 then
  ret ((0 : Int), [], Bool.false)
 else
  lp5 (v0) (v1) ((0 : Int)) ([]) ([]) (v1) ((↑v1.length : Int)) ((0 : Int))
noncomputable def impl_TableauTable.t5 {γ : Type} (ret : (Int × (List (List Int × Int)) × Bool) → Option γ) (lp5 : Int → (List (List Int)) → Int → (List (List Int × Int)) → (List (List Int × Int)) → (List (List Int)) → Int → Int → Option γ) (v0 : Int) (v1 : List (List Int)) (v2 : Int) (v3 : List (List Int × Int)) (v4 : List (List Int × Int)) (v5 : List (List Int)) (v6 : Int) (v7 : Int) : Option γ :=
 bif decide (v7 < v6) then
  bif decide ((0 : Int) ≤ v7) then
   bif decide (v7.toNat < v5.length) then
    bif decide (v4.length + [(v5.getD v7.toNat [], (1 : Int))].length ≤ (4294967296 : Nat)) then
     lp5 (v0) (v1) (v2) (v3) (v4 ++ [(v5.getD v7.toNat [], (1 : Int))]) (v5) (v6) (IntKind.i64.wrap (v7 + (1 : Int)))
    else
     none
   else
    none
  else
   none
 else
  (impl_summed (v0) ([v4])).bind fun (r1 : Int × (List (List Int × Int))) =>
  (xi0s (r1.fst) (r1.snd)).bind fun (r2 : Int × (List (List Int × Int))) =>
  ret (r2.fst, r2.snd, Bool.true)
theorem impl_TableauTable.k (v0 : Int) (v1 : List (List Int)) : topL E (callT E tab) 45 Try.f45 (impl_TableauTable.c v0 v1) = impl_TableauTable.t (fun b => some (impl_TableauTable.mk b)) impl_TableauTable.q5 v0 v1 := by kernel_rfl
theorem impl_TableauTable.k5 (v0 : Int) (v1 : List (List Int)) (v2 : Int) (v3 : List (List Int × Int)) (v4 : List (List Int × Int)) (v5 : List (List Int)) (v6 : Int) (v7 : Int) : roundL E (callT E tab) 45 Try.f45 1 [.r, .r, .r, .l, .r, .b] (nn 1 (⟨(.box false), [iL v0, .d .fro (.sl (.sl (.int .i64))) v1], false, false, false, 0, 0⟩ :: ⟨(.box false), [iL v2, .d .deep (.sl (.pair (.sl (.int .i64)) (.int .i64))) v3], false, false, false, 0, 0⟩ :: nn 1 (vc (.d .sha (.sl (.pair (.sl (.int .i64)) (.int .i64))) v4) :: nn 7 (vc (.d .fro (.sl (.sl (.int .i64))) v5) :: vc (iL v6) :: vc (iL v7) :: nn 15 ([]))))) = impl_TableauTable.t5 (fun b => some (impl_TableauTable.mk b)) impl_TableauTable.q5 v0 v1 v2 v3 v4 v5 v6 v7 := by kernel_rfl
theorem impl_TableauTable.eq (v0 : Int) (v1 : List (List Int)) {b : Int × (List (List Int × Int)) × Bool} (h : impl_TableauTable.t some impl_TableauTable.l5 v0 v1 = some b) : impl_TableauTable v0 v1 = some b := tOf_intro impl_TableauTable.un (fun _ => by kernel_rfl) (vlim_fn (callT_le E tab) rfl rfl rfl ((impl_TableauTable.k v0 v1).trans ((by unfold impl_TableauTable.t; repeat' first | exact Sub.ret | exact Sub.none | exact Sub.loop | apply Sub.cond | (apply Sub.bind; intro _) : Sub impl_TableauTable.mk _ _) b h)))
theorem impl_TableauTable.eq5 (v0 : Int) (v1 : List (List Int)) (v2 : Int) (v3 : List (List Int × Int)) (v4 : List (List Int × Int)) (v5 : List (List Int)) (v6 : Int) (v7 : Int) {b : Int × (List (List Int × Int)) × Bool} (h : impl_TableauTable.t5 some impl_TableauTable.l5 v0 v1 v2 v3 v4 v5 v6 v7 = some b) : impl_TableauTable.l5 v0 v1 v2 v3 v4 v5 v6 v7 = some b := tOf_intro impl_TableauTable.un (fun _ => by kernel_rfl) (loopAtL_step ((impl_TableauTable.k5 v0 v1 v2 v3 v4 v5 v6 v7).trans ((by unfold impl_TableauTable.t5; repeat' first | exact Sub.ret | exact Sub.none | exact Sub.loop | apply Sub.cond | (apply Sub.bind; intro _) : Sub impl_TableauTable.mk _ _) b h)))
noncomputable def impl_GoodTableau.t {γ : Type} (ret : (Bool) → Option γ) (v0 : Int) (v1 : List (List Int)) : Option γ :=
 (impl_within (v0) ((1 : Int)) ((6 : Int))).bind fun (r0 : Bool) =>
 bif r0 then
  (impl_within ((↑v1.length : Int)) ((1 : Int)) ((8 : Int))).bind fun (r1 : Bool) =>
  bif r1 then
   (xi0f (v1) (v0) (v1)).bind fun (r2 : Bool) =>
   ret (r2)
  else
   ret (Bool.false)
 else
  ret (Bool.false)
theorem impl_GoodTableau.k (v0 : Int) (v1 : List (List Int)) : topL E (callT E tab) 93 Try.f93 (impl_GoodTableau.c v0 v1) = impl_GoodTableau.t (fun b => some (impl_GoodTableau.mk b)) v0 v1 := by kernel_rfl
theorem impl_GoodTableau.eq (v0 : Int) (v1 : List (List Int)) {b : Bool} (h : impl_GoodTableau.t some v0 v1 = some b) : impl_GoodTableau v0 v1 = some b := tOf_intro impl_GoodTableau.un (fun _ => by kernel_rfl) (vlim_fn (callT_le E tab) rfl rfl rfl ((impl_GoodTableau.k v0 v1).trans ((by unfold impl_GoodTableau.t; repeat' first | exact Sub.ret | exact Sub.none | exact Sub.loop | apply Sub.cond | (apply Sub.bind; intro _) : Sub impl_GoodTableau.mk _ _) b h)))
noncomputable def xi0f.t {γ : Type} (ret : (Bool) → Option γ) (v0 : List (List Int)) (v1 : Int) (v2 : List (List Int)) : Option γ :=
 (xs00 (v0) (v1) (v2)).bind fun (r0 : Bool) =>
 ret (!r0)
theorem xi0f.k (v0 : List (List Int)) (v1 : Int) (v2 : List (List Int)) : topL E (callT E tab) 159 Try.f159 (xi0f.c v0 v1 v2) = xi0f.t (fun b => some (xi0f.mk b)) v0 v1 v2 := by kernel_rfl
theorem xi0f.eq (v0 : List (List Int)) (v1 : Int) (v2 : List (List Int)) {b : Bool} (h : xi0f.t some v0 v1 v2 = some b) : xi0f v0 v1 v2 = some b := tOf_intro xi0f.un (fun _ => by kernel_rfl) (vlim_fn (callT_le E tab) rfl rfl rfl ((xi0f.k v0 v1 v2).trans ((by unfold xi0f.t; repeat' first | exact Sub.ret | exact Sub.none | exact Sub.loop | apply Sub.cond | (apply Sub.bind; intro _) : Sub xi0f.mk _ _) b h)))
noncomputable def xs00.t {γ : Type} (ret : (Bool) → Option γ) (v0 : List (List Int)) (v1 : Int) (v2 : List (List Int)) : Option γ :=
 (xs01 (v0) (v1) (v2)).bind fun (r0 : Int) =>
 ret (decide (r0 ≥ (0 : Int)))
theorem xs00.k (v0 : List (List Int)) (v1 : Int) (v2 : List (List Int)) : topL E (callT E tab) 203 Try.f203 (xs00.c v0 v1 v2) = xs00.t (fun b => some (xs00.mk b)) v0 v1 v2 := by kernel_rfl
theorem xs00.eq (v0 : List (List Int)) (v1 : Int) (v2 : List (List Int)) {b : Bool} (h : xs00.t some v0 v1 v2 = some b) : xs00 v0 v1 v2 = some b := tOf_intro xs00.un (fun _ => by kernel_rfl) (vlim_fn (callT_le E tab) rfl rfl rfl ((xs00.k v0 v1 v2).trans ((by unfold xs00.t; repeat' first | exact Sub.ret | exact Sub.none | exact Sub.loop | apply Sub.cond | (apply Sub.bind; intro _) : Sub xs00.mk _ _) b h)))
noncomputable def xs01.q2 (v0 : List (List Int)) (v1 : Int) (v2 : List (List Int)) (v3 : Int) (v4 : Int) : Option R := loopAtL E (callT E tab) 227 Try.f227 2 [.r, .l, .r, .b] (vc (.d .fro (.sl (.sl (.int .i64))) v0) :: vc (.fn 204 [.rp [.fn 160 [.rp [iL v1, .d .fro (.sl (.sl (.int .i64))) v2] 0]] 0]) :: nn 5 (vc (iL v3) :: vc (iL v4) :: nn 10 ([])))
noncomputable def xs01.l2 (v0 : List (List Int)) (v1 : Int) (v2 : List (List Int)) (v3 : Int) (v4 : Int) : Option (Int) := tOf xs01.mk (xs01.q2 v0 v1 v2 v3 v4)
noncomputable def xs01.t {γ : Type} (ret : (Int) → Option γ) (lp2 : (List (List Int)) → Int → (List (List Int)) → Int → Int → Option γ) (v0 : List (List Int)) (v1 : Int) (v2 : List (List Int)) : Option γ :=
 lp2 (v0) (v1) (v2) ((↑v0.length : Int)) ((0 : Int))
noncomputable def xs01.t2 {γ : Type} (ret : (Int) → Option γ) (lp2 : (List (List Int)) → Int → (List (List Int)) → Int → Int → Option γ) (v0 : List (List Int)) (v1 : Int) (v2 : List (List Int)) (v3 : Int) (v4 : Int) : Option γ :=
 bif decide (v4 < v3) then
  bif decide ((0 : Int) ≤ v4) then
   bif decide (v4.toNat < v0.length) then
    (xi0d (v0.getD v4.toNat []) (v1) (v2)).bind fun (r0 : Bool) =>
    bif r0 then
     ret (v4)
    else
     lp2 (v0) (v1) (v2) (v3) (IntKind.i64.wrap (v4 + (1 : Int)))
   else
    none
  else
   none
 else
  ret ((-1 : Int))
theorem xs01.k (v0 : List (List Int)) (v1 : Int) (v2 : List (List Int)) : topL E (callT E tab) 227 Try.f227 (xs01.c v0 v1 v2) = xs01.t (fun b => some (xs01.mk b)) xs01.q2 v0 v1 v2 := by kernel_rfl
theorem xs01.k2 (v0 : List (List Int)) (v1 : Int) (v2 : List (List Int)) (v3 : Int) (v4 : Int) : roundL E (callT E tab) 227 Try.f227 2 [.r, .l, .r, .b] (vc (.d .fro (.sl (.sl (.int .i64))) v0) :: vc (.fn 204 [.rp [.fn 160 [.rp [iL v1, .d .fro (.sl (.sl (.int .i64))) v2] 0]] 0]) :: nn 5 (vc (iL v3) :: vc (iL v4) :: nn 10 ([]))) = xs01.t2 (fun b => some (xs01.mk b)) xs01.q2 v0 v1 v2 v3 v4 := by kernel_rfl
theorem xs01.eq (v0 : List (List Int)) (v1 : Int) (v2 : List (List Int)) {b : Int} (h : xs01.t some xs01.l2 v0 v1 v2 = some b) : xs01 v0 v1 v2 = some b := tOf_intro xs01.un (fun _ => by kernel_rfl) (vlim_fn (callT_le E tab) rfl rfl rfl ((xs01.k v0 v1 v2).trans ((by unfold xs01.t; repeat' first | exact Sub.ret | exact Sub.none | exact Sub.loop | apply Sub.cond | (apply Sub.bind; intro _) : Sub xs01.mk _ _) b h)))
theorem xs01.eq2 (v0 : List (List Int)) (v1 : Int) (v2 : List (List Int)) (v3 : Int) (v4 : Int) {b : Int} (h : xs01.t2 some xs01.l2 v0 v1 v2 v3 v4 = some b) : xs01.l2 v0 v1 v2 v3 v4 = some b := tOf_intro xs01.un (fun _ => by kernel_rfl) (loopAtL_step ((xs01.k2 v0 v1 v2 v3 v4).trans ((by unfold xs01.t2; repeat' first | exact Sub.ret | exact Sub.none | exact Sub.loop | apply Sub.cond | (apply Sub.bind; intro _) : Sub xs01.mk _ _) b h)))
noncomputable def xi0d.t {γ : Type} (ret : (Bool) → Option γ) (v0 : List Int) (v1 : Int) (v2 : List (List Int)) : Option γ :=
 (impl_GoodTableau_1 (v0) (v1) (v2)).bind fun (r0 : Bool) =>
 ret (!r0)
theorem xi0d.k (v0 : List Int) (v1 : Int) (v2 : List (List Int)) : topL E (callT E tab) 204 Try.f204 (xi0d.c v0 v1 v2) = xi0d.t (fun b => some (xi0d.mk b)) v0 v1 v2 := by kernel_rfl
theorem xi0d.eq (v0 : List Int) (v1 : Int) (v2 : List (List Int)) {b : Bool} (h : xi0d.t some v0 v1 v2 = some b) : xi0d v0 v1 v2 = some b := tOf_intro xi0d.un (fun _ => by kernel_rfl) (vlim_fn (callT_le E tab) rfl rfl rfl ((xi0d.k v0 v1 v2).trans ((by unfold xi0d.t; repeat' first | exact Sub.ret | exact Sub.none | exact Sub.loop | apply Sub.cond | (apply Sub.bind; intro _) : Sub xi0d.mk _ _) b h)))
noncomputable def impl_GoodTableau_1.t {γ : Type} (ret : (Bool) → Option γ) (v0 : List Int) (v1 : Int) (v2 : List (List Int)) : Option γ :=
 (impl_isRowOf (v0) (v1)).bind fun (r0 : Bool) =>
 bif r0 then
  (xi0i (v0)).bind fun (r1 : Bool) =>
  ret (r1)
 else
  ret (Bool.false)
theorem impl_GoodTableau_1.k (v0 : List Int) (v1 : Int) (v2 : List (List Int)) : topL E (callT E tab) 160 Try.f160 (impl_GoodTableau_1.c v0 v1 v2) = impl_GoodTableau_1.t (fun b => some (impl_GoodTableau_1.mk b)) v0 v1 v2 := by kernel_rfl
theorem impl_GoodTableau_1.eq (v0 : List Int) (v1 : Int) (v2 : List (List Int)) {b : Bool} (h : impl_GoodTableau_1.t some v0 v1 v2 = some b) : impl_GoodTableau_1 v0 v1 v2 = some b := tOf_intro impl_GoodTableau_1.un (fun _ => by kernel_rfl) (vlim_fn (callT_le E tab) rfl rfl rfl ((impl_GoodTableau_1.k v0 v1 v2).trans ((by unfold impl_GoodTableau_1.t; repeat' first | exact Sub.ret | exact Sub.none | exact Sub.loop | apply Sub.cond | (apply Sub.bind; intro _) : Sub impl_GoodTableau_1.mk _ _) b h)))
noncomputable def xi0i.t {γ : Type} (ret : (Bool) → Option γ) (v0 : List Int) : Option γ :=
 (xs03 (v0)).bind fun (r0 : Bool) =>
 ret (!r0)
theorem xi0i.k (v0 : List Int) : topL E (callT E tab) 161 Try.f161 (xi0i.c v0) = xi0i.t (fun b => some (xi0i.mk b)) v0 := by kernel_rfl
theorem xi0i.eq (v0 : List Int) {b : Bool} (h : xi0i.t some v0 = some b) : xi0i v0 = some b := tOf_intro xi0i.un (fun _ => by kernel_rfl) (vlim_fn (callT_le E tab) rfl rfl rfl ((xi0i.k v0).trans ((by unfold xi0i.t; repeat' first | exact Sub.ret | exact Sub.none | exact Sub.loop | apply Sub.cond | (apply Sub.bind; intro _) : Sub xi0i.mk _ _) b h)))
noncomputable def xs03.t {γ : Type} (ret : (Bool) → Option γ) (v0 : List Int) : Option γ :=
 (xs04 (v0)).bind fun (r0 : Int) =>
 ret (decide (r0 ≥ (0 : Int)))
theorem xs03.k (v0 : List Int) : topL E (callT E tab) 205 Try.f205 (xs03.c v0) = xs03.t (fun b => some (xs03.mk b)) v0 := by kernel_rfl
theorem xs03.eq (v0 : List Int) {b : Bool} (h : xs03.t some v0 = some b) : xs03 v0 = some b := tOf_intro xs03.un (fun _ => by kernel_rfl) (vlim_fn (callT_le E tab) rfl rfl rfl ((xs03.k v0).trans ((by unfold xs03.t; repeat' first | exact Sub.ret | exact Sub.none | exact Sub.loop | apply Sub.cond | (apply Sub.bind; intro _) : Sub xs03.mk _ _) b h)))
noncomputable def xs04.q2 (v0 : List Int) (v1 : Int) (v2 : Int) : Option R := loopAtL E (callT E tab) 228 Try.f228 2 [.r, .l, .r, .b] (vc (.d .fro (.sl (.int .i64)) v0) :: vc (.fn 206 [.rp [.fn 162 []] 0]) :: nn 5 (vc (iL v1) :: vc (iL v2) :: nn 10 ([])))
noncomputable def xs04.l2 (v0 : List Int) (v1 : Int) (v2 : Int) : Option (Int) := tOf xs04.mk (xs04.q2 v0 v1 v2)
noncomputable def xs04.t {γ : Type} (ret : (Int) → Option γ) (lp2 : (List Int) → Int → Int → Option γ) (v0 : List Int) : Option γ :=
 lp2 (v0) ((↑v0.length : Int)) ((0 : Int))
noncomputable def xs04.t2 {γ : Type} (ret : (Int) → Option γ) (lp2 : (List Int) → Int → Int → Option γ) (v0 : List Int) (v1 : Int) (v2 : Int) : Option γ :=
 bif decide (v2 < v1) then
  bif decide ((0 : Int) ≤ v2) then
   bif decide (v2.toNat < v0.length) then
    (xi0g (v0.getD v2.toNat (0 : Int))).bind fun (r0 : Bool) =>
    bif r0 then
     ret (v2)
    else
     lp2 (v0) (v1) (IntKind.i64.wrap (v2 + (1 : Int)))
   else
    none
  else
   none
 else
  ret ((-1 : Int))
theorem xs04.k (v0 : List Int) : topL E (callT E tab) 228 Try.f228 (xs04.c v0) = xs04.t (fun b => some (xs04.mk b)) xs04.q2 v0 := by kernel_rfl
theorem xs04.k2 (v0 : List Int) (v1 : Int) (v2 : Int) : roundL E (callT E tab) 228 Try.f228 2 [.r, .l, .r, .b] (vc (.d .fro (.sl (.int .i64)) v0) :: vc (.fn 206 [.rp [.fn 162 []] 0]) :: nn 5 (vc (iL v1) :: vc (iL v2) :: nn 10 ([]))) = xs04.t2 (fun b => some (xs04.mk b)) xs04.q2 v0 v1 v2 := by kernel_rfl
theorem xs04.eq (v0 : List Int) {b : Int} (h : xs04.t some xs04.l2 v0 = some b) : xs04 v0 = some b := tOf_intro xs04.un (fun _ => by kernel_rfl) (vlim_fn (callT_le E tab) rfl rfl rfl ((xs04.k v0).trans ((by unfold xs04.t; repeat' first | exact Sub.ret | exact Sub.none | exact Sub.loop | apply Sub.cond | (apply Sub.bind; intro _) : Sub xs04.mk _ _) b h)))
theorem xs04.eq2 (v0 : List Int) (v1 : Int) (v2 : Int) {b : Int} (h : xs04.t2 some xs04.l2 v0 v1 v2 = some b) : xs04.l2 v0 v1 v2 = some b := tOf_intro xs04.un (fun _ => by kernel_rfl) (loopAtL_step ((xs04.k2 v0 v1 v2).trans ((by unfold xs04.t2; repeat' first | exact Sub.ret | exact Sub.none | exact Sub.loop | apply Sub.cond | (apply Sub.bind; intro _) : Sub xs04.mk _ _) b h)))
noncomputable def xi0g.t {γ : Type} (ret : (Bool) → Option γ) (v0 : Int) : Option γ :=
 (xi0p (v0)).bind fun (r0 : Bool) =>
 ret (!r0)
theorem xi0g.k (v0 : Int) : topL E (callT E tab) 206 Try.f206 (xi0g.c v0) = xi0g.t (fun b => some (xi0g.mk b)) v0 := by kernel_rfl
theorem xi0g.eq (v0 : Int) {b : Bool} (h : xi0g.t some v0 = some b) : xi0g v0 = some b := tOf_intro xi0g.un (fun _ => by kernel_rfl) (vlim_fn (callT_le E tab) rfl rfl rfl ((xi0g.k v0).trans ((by unfold xi0g.t; repeat' first | exact Sub.ret | exact Sub.none | exact Sub.loop | apply Sub.cond | (apply Sub.bind; intro _) : Sub xi0g.mk _ _) b h)))
noncomputable def xi0p.t {γ : Type} (ret : (Bool) → Option γ) (v0 : Int) : Option γ :=
 ret (decide (v0 ≥ (0 : Int)))
theorem xi0p.k (v0 : Int) : topL E (callT E tab) 162 Try.f162 (xi0p.c v0) = xi0p.t (fun b => some (xi0p.mk b)) v0 := by kernel_rfl
theorem xi0p.eq (v0 : Int) {b : Bool} (h : xi0p.t some v0 = some b) : xi0p v0 = some b := tOf_intro xi0p.un (fun _ => by kernel_rfl) (vlim_fn (callT_le E tab) rfl rfl rfl ((xi0p.k v0).trans ((by unfold xi0p.t; repeat' first | exact Sub.ret | exact Sub.none | exact Sub.loop | apply Sub.cond | (apply Sub.bind; intro _) : Sub xi0p.mk _ _) b h)))
noncomputable def impl_summed.q7 (v0 : Int) (v1 : List (List Int × Int)) (v2 : Int) (v3 : List (List Int × Int)) (v4 : List (List Int × Int)) (v5 : Int) (v6 : Int) (v7 : Int) : Option R := loopAtL E (callT E tab) 105 Try.f105 2 [.r, .r, .r, .r, .l, .r, .b, .o, .r, .b, .r, .l, .b] (nn 4 (⟨(.box false), [iL v0, .d .deep (.sl (.pair (.sl (.int .i64)) (.int .i64))) v1], false, false, false, 0, 0⟩ :: ⟨(.box false), [iL v2, .d .deep (.sl (.pair (.sl (.int .i64)) (.int .i64))) v3], false, false, false, 0, 0⟩ :: vc (.d .sha (.sl (.pair (.sl (.int .i64)) (.int .i64))) v4) :: vc (iL v5) :: vc (iL v6) :: vc (iL v7) :: nn 55 ([])))
noncomputable def impl_summed.l7 (v0 : Int) (v1 : List (List Int × Int)) (v2 : Int) (v3 : List (List Int × Int)) (v4 : List (List Int × Int)) (v5 : Int) (v6 : Int) (v7 : Int) : Option (Int × (List (List Int × Int))) := tOf impl_summed.mk (impl_summed.q7 v0 v1 v2 v3 v4 v5 v6 v7)
noncomputable def impl_summed.q5 (v0 : Int) (v1 : List (List Int × Int)) (v2 : Int) (v3 : List (List Int × Int)) (v4 : List (List Int × Int)) (v5 : Int) : Option R := loopAtL E (callT E tab) 105 Try.f105 2 [.r, .r, .r, .r, .l, .r, .b] (nn 4 (⟨(.box false), [iL v0, .d .deep (.sl (.pair (.sl (.int .i64)) (.int .i64))) v1], false, false, false, 0, 0⟩ :: ⟨(.box false), [iL v2, .d .deep (.sl (.pair (.sl (.int .i64)) (.int .i64))) v3], false, false, false, 0, 0⟩ :: vc (.d .sha (.sl (.pair (.sl (.int .i64)) (.int .i64))) v4) :: vc (iL v5) :: nn 57 ([])))
noncomputable def impl_summed.l5 (v0 : Int) (v1 : List (List Int × Int)) (v2 : Int) (v3 : List (List Int × Int)) (v4 : List (List Int × Int)) (v5 : Int) : Option (Int × (List (List Int × Int))) := tOf impl_summed.mk (impl_summed.q5 v0 v1 v2 v3 v4 v5)
noncomputable def impl_summed.t {γ : Type} (ret : (Int × (List (List Int × Int))) → Option γ) (lp7 : Int → (List (List Int × Int)) → Int → (List (List Int × Int)) → (List (List Int × Int)) → Int → Int → Int → Option γ) (lp5 : Int → (List (List Int × Int)) → Int → (List (List Int × Int)) → (List (List Int × Int)) → Int → Option γ) (v0 : Int) (v1 : List (List (List Int × Int))) : Option γ :=
 (xs0e (v1)).bind fun (r0 : (List (List Int × Int))) =>
 (xs02 (r0)).bind fun (r1 : (List (List Int × Int))) =>
 lp5 ((0 : Int)) ([]) (v0) ([]) (r1) ((0 : Int))
noncomputable def impl_summed.t7 {γ : Type} (ret : (Int × (List (List Int × Int))) → Option γ) (lp7 : Int → (List (List Int × Int)) → Int → (List (List Int × Int)) → (List (List Int × Int)) → Int → Int → Int → Option γ) (lp5 : Int → (List (List Int × Int)) → Int → (List (List Int × Int)) → (List (List Int × Int)) → Int → Option γ) (v0 : Int) (v1 : List (List Int × Int)) (v2 : Int) (v3 : List (List Int × Int)) (v4 : List (List Int × Int)) (v5 : Int) (v6 : Int) (v7 : Int) : Option γ :=
 bif decide (v7 < (↑v4.length : Int)) then
  bif decide ((0 : Int) ≤ v7) then
   bif decide (v7.toNat < v4.length) then
    bif decide (v7.toNat < v4.length) then
     bif decide ((0 : Int) ≤ v5) then
      bif decide (v5.toNat < v4.length) then
       bif decide (v5.toNat < v4.length) then
        (impl_compareRows ((v4.getD v7.toNat ([], (0 : Int))).fst) ((v4.getD v5.toNat ([], (0 : Int))).fst)).bind fun (r2 : Int) =>
        bif r2 == (0 : Int) then
         bif decide ((0 : Int) ≤ v7) then
          bif decide (v7.toNat < v4.length) then
           bif decide (v7.toNat < v4.length) then
            lp7 (v0) (v1) (v2) (v3) (v4) (v5) (IntKind.i64.wrap (v6 + (v4.getD v7.toNat ([], (0 : Int))).snd)) (IntKind.i64.wrap (v7 + (1 : Int)))
           else
            none
          else
           none
         else
          none
        else
         bif v6 != (0 : Int) then
          bif decide ((0 : Int) ≤ v5) then
           bif decide (v5.toNat < v4.length) then
            bif decide (v5.toNat < v4.length) then
             (impl_Row_own ((v4.getD v5.toNat ([], (0 : Int))).fst)).bind fun (r3 : (List Int)) =>
             bif decide (v3.length + [(r3, v6)].length ≤ (4294967296 : Nat)) then
              lp5 (v0) (v1) (v2) (v3 ++ [(r3, v6)]) (v4) (v7)
             else
              none
            else
             none
           else
            none
          else
           none
         else
          lp5 (v0) (v1) (v2) (v3) (v4) (v7)
       else
        none
      else
       none
     else
      none
    else
     none
   else
    none
  else
   none
 else
  bif v6 != (0 : Int) then
   bif decide ((0 : Int) ≤ v5) then
    bif decide (v5.toNat < v4.length) then
     bif decide (v5.toNat < v4.length) then
      (impl_Row_own ((v4.getD v5.toNat ([], (0 : Int))).fst)).bind fun (r4 : (List Int)) =>
      bif decide (v3.length + [(r4, v6)].length ≤ (4294967296 : Nat)) then
       lp5 (v0) (v1) (v2) (v3 ++ [(r4, v6)]) (v4) (v7)
      else
       none
     else
      none
    else
     none
   else
    none
  else
   lp5 (v0) (v1) (v2) (v3) (v4) (v7)
noncomputable def impl_summed.t5 {γ : Type} (ret : (Int × (List (List Int × Int))) → Option γ) (lp7 : Int → (List (List Int × Int)) → Int → (List (List Int × Int)) → (List (List Int × Int)) → Int → Int → Int → Option γ) (lp5 : Int → (List (List Int × Int)) → Int → (List (List Int × Int)) → (List (List Int × Int)) → Int → Option γ) (v0 : Int) (v1 : List (List Int × Int)) (v2 : Int) (v3 : List (List Int × Int)) (v4 : List (List Int × Int)) (v5 : Int) : Option γ :=
 bif decide (v5 < (↑v4.length : Int)) then
  lp7 (v0) (v1) (v2) (v3) (v4) (v5) ((0 : Int)) (v5)
 else
  ret (v2, v3)
theorem impl_summed.k (v0 : Int) (v1 : List (List (List Int × Int))) : topL E (callT E tab) 105 Try.f105 (impl_summed.c v0 v1) = impl_summed.t (fun b => some (impl_summed.mk b)) impl_summed.q7 impl_summed.q5 v0 v1 := by kernel_rfl
theorem impl_summed.k7 (v0 : Int) (v1 : List (List Int × Int)) (v2 : Int) (v3 : List (List Int × Int)) (v4 : List (List Int × Int)) (v5 : Int) (v6 : Int) (v7 : Int) : roundL E (callT E tab) 105 Try.f105 2 [.r, .r, .r, .r, .l, .r, .b, .o, .r, .b, .r, .l, .b] (nn 4 (⟨(.box false), [iL v0, .d .deep (.sl (.pair (.sl (.int .i64)) (.int .i64))) v1], false, false, false, 0, 0⟩ :: ⟨(.box false), [iL v2, .d .deep (.sl (.pair (.sl (.int .i64)) (.int .i64))) v3], false, false, false, 0, 0⟩ :: vc (.d .sha (.sl (.pair (.sl (.int .i64)) (.int .i64))) v4) :: vc (iL v5) :: vc (iL v6) :: vc (iL v7) :: nn 55 ([]))) = impl_summed.t7 (fun b => some (impl_summed.mk b)) impl_summed.q7 impl_summed.q5 v0 v1 v2 v3 v4 v5 v6 v7 := by kernel_rfl
theorem impl_summed.k5 (v0 : Int) (v1 : List (List Int × Int)) (v2 : Int) (v3 : List (List Int × Int)) (v4 : List (List Int × Int)) (v5 : Int) : roundL E (callT E tab) 105 Try.f105 2 [.r, .r, .r, .r, .l, .r, .b] (nn 4 (⟨(.box false), [iL v0, .d .deep (.sl (.pair (.sl (.int .i64)) (.int .i64))) v1], false, false, false, 0, 0⟩ :: ⟨(.box false), [iL v2, .d .deep (.sl (.pair (.sl (.int .i64)) (.int .i64))) v3], false, false, false, 0, 0⟩ :: vc (.d .sha (.sl (.pair (.sl (.int .i64)) (.int .i64))) v4) :: vc (iL v5) :: nn 57 ([]))) = impl_summed.t5 (fun b => some (impl_summed.mk b)) impl_summed.q7 impl_summed.q5 v0 v1 v2 v3 v4 v5 := by kernel_rfl
theorem impl_summed.eq (v0 : Int) (v1 : List (List (List Int × Int))) {b : Int × (List (List Int × Int))} (h : impl_summed.t some impl_summed.l7 impl_summed.l5 v0 v1 = some b) : impl_summed v0 v1 = some b := tOf_intro impl_summed.un (fun _ => by kernel_rfl) (vlim_fn (callT_le E tab) rfl rfl rfl ((impl_summed.k v0 v1).trans ((by unfold impl_summed.t; repeat' first | exact Sub.ret | exact Sub.none | exact Sub.loop | apply Sub.cond | (apply Sub.bind; intro _) : Sub impl_summed.mk _ _) b h)))
theorem impl_summed.eq7 (v0 : Int) (v1 : List (List Int × Int)) (v2 : Int) (v3 : List (List Int × Int)) (v4 : List (List Int × Int)) (v5 : Int) (v6 : Int) (v7 : Int) {b : Int × (List (List Int × Int))} (h : impl_summed.t7 some impl_summed.l7 impl_summed.l5 v0 v1 v2 v3 v4 v5 v6 v7 = some b) : impl_summed.l7 v0 v1 v2 v3 v4 v5 v6 v7 = some b := tOf_intro impl_summed.un (fun _ => by kernel_rfl) (loopAtL_step ((impl_summed.k7 v0 v1 v2 v3 v4 v5 v6 v7).trans ((by unfold impl_summed.t7; repeat' first | exact Sub.ret | exact Sub.none | exact Sub.loop | apply Sub.cond | (apply Sub.bind; intro _) : Sub impl_summed.mk _ _) b h)))
theorem impl_summed.eq5 (v0 : Int) (v1 : List (List Int × Int)) (v2 : Int) (v3 : List (List Int × Int)) (v4 : List (List Int × Int)) (v5 : Int) {b : Int × (List (List Int × Int))} (h : impl_summed.t5 some impl_summed.l7 impl_summed.l5 v0 v1 v2 v3 v4 v5 = some b) : impl_summed.l5 v0 v1 v2 v3 v4 v5 = some b := tOf_intro impl_summed.un (fun _ => by kernel_rfl) (loopAtL_step ((impl_summed.k5 v0 v1 v2 v3 v4 v5).trans ((by unfold impl_summed.t5; repeat' first | exact Sub.ret | exact Sub.none | exact Sub.loop | apply Sub.cond | (apply Sub.bind; intro _) : Sub impl_summed.mk _ _) b h)))
noncomputable def xs0e.q11 (v0 : List (List Int × Int)) (v1 : List (List (List Int × Int))) (v2 : Int) (v3 : Int) : Option R := loopAtL E (callT E tab) 169 Try.f169 1 [.r, .r, .r, .r, .l, .r, .b] (nn 6 (vc (.d .sha (.sl (.pair (.sl (.int .i64)) (.int .i64))) v0) :: nn 18 (vc (.d .fro (.sl (.sl (.pair (.sl (.int .i64)) (.int .i64)))) v1) :: vc (iL v2) :: vc (iL v3) :: nn 8 ([]))))
noncomputable def xs0e.l11 (v0 : List (List Int × Int)) (v1 : List (List (List Int × Int))) (v2 : Int) (v3 : Int) : Option ((List (List Int × Int))) := tOf xs0e.mk (xs0e.q11 v0 v1 v2 v3)
noncomputable def xs0e.q3 (v0 : List (List (List Int × Int))) (v1 : Int) (v2 : List (List (List Int × Int))) (v3 : Int) (v4 : Int) : Option R := loopAtL E (callT E tab) 169 Try.f169 1 [.r, .r, .l, .r, .b] (vc (.d .fro (.sl (.sl (.pair (.sl (.int .i64)) (.int .i64)))) v0) :: nn 2 (vc (iL v1) :: nn 5 (vc (.d .fro (.sl (.sl (.pair (.sl (.int .i64)) (.int .i64)))) v2) :: vc (iL v3) :: vc (iL v4) :: nn 24 ([]))))
noncomputable def xs0e.l3 (v0 : List (List (List Int × Int))) (v1 : Int) (v2 : List (List (List Int × Int))) (v3 : Int) (v4 : Int) : Option ((List (List Int × Int))) := tOf xs0e.mk (xs0e.q3 v0 v1 v2 v3 v4)
noncomputable def xs0e.t {γ : Type} (ret : ((List (List Int × Int))) → Option γ) (lp11 : (List (List Int × Int)) → (List (List (List Int × Int))) → Int → Int → Option γ) (lp3 : (List (List (List Int × Int))) → Int → (List (List (List Int × Int))) → Int → Int → Option γ) (v0 : List (List (List Int × Int))) : Option γ :=
 lp3 (v0) ((0 : Int)) (v0) ((↑v0.length : Int)) ((0 : Int))
noncomputable def xs0e.t11 {γ : Type} (ret : ((List (List Int × Int))) → Option γ) (lp11 : (List (List Int × Int)) → (List (List (List Int × Int))) → Int → Int → Option γ) (lp3 : (List (List (List Int × Int))) → Int → (List (List (List Int × Int))) → Int → Int → Option γ) (v0 : List (List Int × Int)) (v1 : List (List (List Int × Int))) (v2 : Int) (v3 : Int) : Option γ :=
 bif decide (v3 < v2) then
  bif decide ((0 : Int) ≤ v3) then
   bif decide (v3.toNat < v1.length) then
    bif decide (v0.length + (v1.getD v3.toNat []).length ≤ (4294967296 : Nat)) then
     lp11 (v0 ++ v1.getD v3.toNat []) (v1) (v2) (IntKind.i64.wrap (v3 + (1 : Int)))
    else
     none
   else
    none
  else
   none
 else
  ret (v0)
noncomputable def xs0e.t3 {γ : Type} (ret : ((List (List Int × Int))) → Option γ) (lp11 : (List (List Int × Int)) → (List (List (List Int × Int))) → Int → Int → Option γ) (lp3 : (List (List (List Int × Int))) → Int → (List (List (List Int × Int))) → Int → Int → Option γ) (v0 : List (List (List Int × Int))) (v1 : Int) (v2 : List (List (List Int × Int))) (v3 : Int) (v4 : Int) : Option γ :=
 bif decide (v4 < v3) then
  bif decide ((0 : Int) ≤ v4) then
   bif decide (v4.toNat < v2.length) then
    bif decide (IntKind.i64.wrap (v1 + (↑(v2.getD v4.toNat []).length : Int)) < (0 : Int)) then
     none
    else
     lp3 (v0) (IntKind.i64.wrap (v1 + (↑(v2.getD v4.toNat []).length : Int))) (v2) (v3) (IntKind.i64.wrap (v4 + (1 : Int)))
   else
    none
  else
   none
 else
  (xs0c (v1)).bind fun (r0 : (List (List Int × Int))) =>
  lp11 (r0) (v0) ((↑v0.length : Int)) ((0 : Int))
theorem xs0e.k (v0 : List (List (List Int × Int))) : topL E (callT E tab) 169 Try.f169 (xs0e.c v0) = xs0e.t (fun b => some (xs0e.mk b)) xs0e.q11 xs0e.q3 v0 := by kernel_rfl
theorem xs0e.k11 (v0 : List (List Int × Int)) (v1 : List (List (List Int × Int))) (v2 : Int) (v3 : Int) : roundL E (callT E tab) 169 Try.f169 1 [.r, .r, .r, .r, .l, .r, .b] (nn 6 (vc (.d .sha (.sl (.pair (.sl (.int .i64)) (.int .i64))) v0) :: nn 18 (vc (.d .fro (.sl (.sl (.pair (.sl (.int .i64)) (.int .i64)))) v1) :: vc (iL v2) :: vc (iL v3) :: nn 8 ([])))) = xs0e.t11 (fun b => some (xs0e.mk b)) xs0e.q11 xs0e.q3 v0 v1 v2 v3 := by kernel_rfl
theorem xs0e.k3 (v0 : List (List (List Int × Int))) (v1 : Int) (v2 : List (List (List Int × Int))) (v3 : Int) (v4 : Int) : roundL E (callT E tab) 169 Try.f169 1 [.r, .r, .l, .r, .b] (vc (.d .fro (.sl (.sl (.pair (.sl (.int .i64)) (.int .i64)))) v0) :: nn 2 (vc (iL v1) :: nn 5 (vc (.d .fro (.sl (.sl (.pair (.sl (.int .i64)) (.int .i64)))) v2) :: vc (iL v3) :: vc (iL v4) :: nn 24 ([])))) = xs0e.t3 (fun b => some (xs0e.mk b)) xs0e.q11 xs0e.q3 v0 v1 v2 v3 v4 := by kernel_rfl
theorem xs0e.eq (v0 : List (List (List Int × Int))) {b : (List (List Int × Int))} (h : xs0e.t some xs0e.l11 xs0e.l3 v0 = some b) : xs0e v0 = some b := tOf_intro xs0e.un (fun _ => by kernel_rfl) (vlim_fn (callT_le E tab) rfl rfl rfl ((xs0e.k v0).trans ((by unfold xs0e.t; repeat' first | exact Sub.ret | exact Sub.none | exact Sub.loop | apply Sub.cond | (apply Sub.bind; intro _) : Sub xs0e.mk _ _) b h)))
theorem xs0e.eq11 (v0 : List (List Int × Int)) (v1 : List (List (List Int × Int))) (v2 : Int) (v3 : Int) {b : (List (List Int × Int))} (h : xs0e.t11 some xs0e.l11 xs0e.l3 v0 v1 v2 v3 = some b) : xs0e.l11 v0 v1 v2 v3 = some b := tOf_intro xs0e.un (fun _ => by kernel_rfl) (loopAtL_step ((xs0e.k11 v0 v1 v2 v3).trans ((by unfold xs0e.t11; repeat' first | exact Sub.ret | exact Sub.none | exact Sub.loop | apply Sub.cond | (apply Sub.bind; intro _) : Sub xs0e.mk _ _) b h)))
theorem xs0e.eq3 (v0 : List (List (List Int × Int))) (v1 : Int) (v2 : List (List (List Int × Int))) (v3 : Int) (v4 : Int) {b : (List (List Int × Int))} (h : xs0e.t3 some xs0e.l11 xs0e.l3 v0 v1 v2 v3 v4 = some b) : xs0e.l3 v0 v1 v2 v3 v4 = some b := tOf_intro xs0e.un (fun _ => by kernel_rfl) (loopAtL_step ((xs0e.k3 v0 v1 v2 v3 v4).trans ((by unfold xs0e.t3; repeat' first | exact Sub.ret | exact Sub.none | exact Sub.loop | apply Sub.cond | (apply Sub.bind; intro _) : Sub xs0e.mk _ _) b h)))
noncomputable def xs0c.t {γ : Type} (ret : ((List (List Int × Int))) → Option γ) (v0 : Int) : Option γ :=
 bif decide (v0 < (0 : Int)) then
  none
 else
  bif decide (IntKind.i64.wrap (v0 - IntKind.i64.wrap ((0 : Int) - (0 : Int))) > (0 : Int)) then
   bif decide ((1 : Int) ≤ IntKind.i64.wrap (v0 - IntKind.i64.wrap ((0 : Int) - (0 : Int)))) then
    bif decide (IntKind.i64.wrap (v0 - IntKind.i64.wrap ((0 : Int) - (0 : Int))) ≤ (↑(4294967296 : Nat) : Int)) then
     ret (List.take ((0 : Int) - Option.none.getD (0 : Int)).toNat   (List.drop (Option.none.getD (0 : Int)).toNat     (List.replicate (IntKind.i64.wrap (v0 - IntKind.i64.wrap ((0 : Int) - (0 : Int)))).toNat ([], (0 : Int)))))
    else
     none
   else
    none
  else
   ret ([])
theorem xs0c.k (v0 : Int) : topL E (callT E tab) 212 Try.f212 (xs0c.c v0) = xs0c.t (fun b => some (xs0c.mk b)) v0 := by kernel_rfl
theorem xs0c.eq (v0 : Int) {b : (List (List Int × Int))} (h : xs0c.t some v0 = some b) : xs0c v0 = some b := tOf_intro xs0c.un (fun _ => by kernel_rfl) (vlim_fn (callT_le E tab) rfl rfl rfl ((xs0c.k v0).trans ((by unfold xs0c.t; repeat' first | exact Sub.ret | exact Sub.none | exact Sub.loop | apply Sub.cond | (apply Sub.bind; intro _) : Sub xs0c.mk _ _) b h)))
end GoV

/- Equations of the program's functions (printed by wip/tools/emit.py). -/
namespace GoV
open Go Go.Proofs
set_option maxRecDepth 100000

noncomputable def xs02.t {γ : Type} (ret : ((List (List Int × Int))) → Option γ) (v0 : List (List Int × Int)) : Option γ :=
 (xs0b (v0) ((↑v0.length : Int))).bind fun (r0 : (List (List Int × Int))) =>
 ret (r0)
theorem xs02.k (v0 : List (List Int × Int)) : topL E (callT E tab) 170 Try.f170 (xs02.c v0) = xs02.t (fun b => some (xs02.mk b)) v0 := by kernel_rfl
theorem xs02.eq (v0 : List (List Int × Int)) {b : (List (List Int × Int))} (h : xs02.t some v0 = some b) : xs02 v0 = some b := tOf_intro xs02.un (fun _ => by kernel_rfl) (vlim_fn (callT_le E tab) rfl rfl rfl ((xs02.k v0).trans ((by unfold xs02.t; repeat' first | exact Sub.ret | exact Sub.none | exact Sub.loop | apply Sub.cond | (apply Sub.bind; intro _) : Sub xs02.mk _ _) b h)))
noncomputable def xs0b.q9 (v0 : List (List Int × Int)) (v1 : Int) (v2 : Int) (v3 : Int) (v4 : Int) : Option R := loopAtL E (callT E tab) 213 Try.f213 3 [.r, .r, .r, .r, .b, .o, .r, .b, .r, .l, .b] (⟨(.val .one), [.d .sha (.sl (.pair (.sl (.int .i64)) (.int .i64))) v0], true, false, false, 0, 0⟩ :: vc (iL v1) :: vc (.fn 171 []) :: nn 3 (vc (iL v2) :: vc (iL v3) :: vc (iL v4) :: nn 54 ([])))
noncomputable def xs0b.l9 (v0 : List (List Int × Int)) (v1 : Int) (v2 : Int) (v3 : Int) (v4 : Int) : Option ((List (List Int × Int))) := tOf xs0b.mk (xs0b.q9 v0 v1 v2 v3 v4)
noncomputable def xs0b.q7 (v0 : List (List Int × Int)) (v1 : Int) (v2 : Int) : Option R := loopAtL E (callT E tab) 213 Try.f213 3 [.r, .r, .r, .r, .b] (⟨(.val .one), [.d .sha (.sl (.pair (.sl (.int .i64)) (.int .i64))) v0], true, false, false, 0, 0⟩ :: vc (iL v1) :: vc (.fn 171 []) :: nn 3 (vc (iL v2) :: nn 56 ([])))
noncomputable def xs0b.l7 (v0 : List (List Int × Int)) (v1 : Int) (v2 : Int) : Option ((List (List Int × Int))) := tOf xs0b.mk (xs0b.q7 v0 v1 v2)
noncomputable def xs0b.q2 (v0 : List (List Int × Int)) (v1 : Int) (v2 : Int) (v3 : Int) (v4 : Int) : Option R := loopAtL E (callT E tab) 213 Try.f213 3 [.r, .r, .l, .b] (⟨(.val .one), [.d .sha (.sl (.pair (.sl (.int .i64)) (.int .i64))) v0], true, false, false, 0, 0⟩ :: vc (iL v1) :: vc (.fn 171 []) :: nn 3 (vc (iL v2) :: vc (iL v3) :: vc (iL v4) :: nn 54 ([])))
noncomputable def xs0b.l2 (v0 : List (List Int × Int)) (v1 : Int) (v2 : Int) (v3 : Int) (v4 : Int) : Option ((List (List Int × Int))) := tOf xs0b.mk (xs0b.q2 v0 v1 v2 v3 v4)
noncomputable def xs0b.t {γ : Type} (ret : ((List (List Int × Int))) → Option γ) (lp9 : (List (List Int × Int)) → Int → Int → Int → Int → Option γ) (lp7 : (List (List Int × Int)) → Int → Int → Option γ) (lp2 : (List (List Int × Int)) → Int → Int → Int → Int → Option γ) (v0 : List (List Int × Int)) (v1 : Int) : Option γ :=
 lp2 (v0) (v1) ((20 : Int)) ((0 : Int)) ((20 : Int))
noncomputable def xs0b.t9 {γ : Type} (ret : ((List (List Int × Int))) → Option γ) (lp9 : (List (List Int × Int)) → Int → Int → Int → Int → Option γ) (lp7 : (List (List Int × Int)) → Int → Int → Option γ) (lp2 : (List (List Int × Int)) → Int → Int → Int → Int → Option γ) (v0 : List (List Int × Int)) (v1 : Int) (v2 : Int) (v3 : Int) (v4 : Int) : Option γ :=
 bif decide (v4 ≤ v1) then
  (xs09 (v0) (v3) (IntKind.i64.wrap (v3 + v2)) (v4)).bind fun (r2 : (List (List Int × Int))) =>
  lp9 (r2) (v1) (v2) (v4) (IntKind.i64.wrap (v4 + IntKind.i64.wrap ((2 : Int) * v2)))
 else
  bif decide (IntKind.i64.wrap (v3 + v2) < v1) then
   (xs09 (v0) (v3) (IntKind.i64.wrap (v3 + v2)) (v1)).bind fun (r3 : (List (List Int × Int))) =>
   lp7 (r3) (v1) (IntKind.i64.wrap (v2 * (2 : Int)))
  else
   lp7 (v0) (v1) (IntKind.i64.wrap (v2 * (2 : Int)))
noncomputable def xs0b.t7 {γ : Type} (ret : ((List (List Int × Int))) → Option γ) (lp9 : (List (List Int × Int)) → Int → Int → Int → Int → Option γ) (lp7 : (List (List Int × Int)) → Int → Int → Option γ) (lp2 : (List (List Int × Int)) → Int → Int → Int → Int → Option γ) (v0 : List (List Int × Int)) (v1 : Int) (v2 : Int) : Option γ :=
 bif decide (v2 < v1) then
  lp9 (v0) (v1) (v2) ((0 : Int)) (IntKind.i64.wrap ((2 : Int) * v2))
 else
  ret (v0)
noncomputable def xs0b.t2 {γ : Type} (ret : ((List (List Int × Int))) → Option γ) (lp9 : (List (List Int × Int)) → Int → Int → Int → Int → Option γ) (lp7 : (List (List Int × Int)) → Int → Int → Option γ) (lp2 : (List (List Int × Int)) → Int → Int → Int → Int → Option γ) (v0 : List (List Int × Int)) (v1 : Int) (v2 : Int) (v3 : Int) (v4 : Int) : Option γ :=
 bif decide (v4 ≤ v1) then
  (xs05 (v0) (v3) (v4)).bind fun (r0 : (List (List Int × Int))) =>
  lp2 (r0) (v1) (v2) (v4) (IntKind.i64.wrap (v4 + v2))
 else
  (xs05 (v0) (v3) (v1)).bind fun (r1 : (List (List Int × Int))) =>
  lp7 (r1) (v1) (v2)
theorem xs0b.k (v0 : List (List Int × Int)) (v1 : Int) : topL E (callT E tab) 213 Try.f213 (xs0b.c v0 v1) = xs0b.t (fun b => some (xs0b.mk b)) xs0b.q9 xs0b.q7 xs0b.q2 v0 v1 := by kernel_rfl
theorem xs0b.k9 (v0 : List (List Int × Int)) (v1 : Int) (v2 : Int) (v3 : Int) (v4 : Int) : roundL E (callT E tab) 213 Try.f213 3 [.r, .r, .r, .r, .b, .o, .r, .b, .r, .l, .b] (⟨(.val .one), [.d .sha (.sl (.pair (.sl (.int .i64)) (.int .i64))) v0], true, false, false, 0, 0⟩ :: vc (iL v1) :: vc (.fn 171 []) :: nn 3 (vc (iL v2) :: vc (iL v3) :: vc (iL v4) :: nn 54 ([]))) = xs0b.t9 (fun b => some (xs0b.mk b)) xs0b.q9 xs0b.q7 xs0b.q2 v0 v1 v2 v3 v4 := by kernel_rfl
theorem xs0b.k7 (v0 : List (List Int × Int)) (v1 : Int) (v2 : Int) : roundL E (callT E tab) 213 Try.f213 3 [.r, .r, .r, .r, .b] (⟨(.val .one), [.d .sha (.sl (.pair (.sl (.int .i64)) (.int .i64))) v0], true, false, false, 0, 0⟩ :: vc (iL v1) :: vc (.fn 171 []) :: nn 3 (vc (iL v2) :: nn 56 ([]))) = xs0b.t7 (fun b => some (xs0b.mk b)) xs0b.q9 xs0b.q7 xs0b.q2 v0 v1 v2 := by kernel_rfl
theorem xs0b.k2 (v0 : List (List Int × Int)) (v1 : Int) (v2 : Int) (v3 : Int) (v4 : Int) : roundL E (callT E tab) 213 Try.f213 3 [.r, .r, .l, .b] (⟨(.val .one), [.d .sha (.sl (.pair (.sl (.int .i64)) (.int .i64))) v0], true, false, false, 0, 0⟩ :: vc (iL v1) :: vc (.fn 171 []) :: nn 3 (vc (iL v2) :: vc (iL v3) :: vc (iL v4) :: nn 54 ([]))) = xs0b.t2 (fun b => some (xs0b.mk b)) xs0b.q9 xs0b.q7 xs0b.q2 v0 v1 v2 v3 v4 := by kernel_rfl
theorem xs0b.eq (v0 : List (List Int × Int)) (v1 : Int) {b : (List (List Int × Int))} (h : xs0b.t some xs0b.l9 xs0b.l7 xs0b.l2 v0 v1 = some b) : xs0b v0 v1 = some b := tOf_intro xs0b.un (fun _ => by kernel_rfl) (vlim_fn (callT_le E tab) rfl rfl rfl ((xs0b.k v0 v1).trans ((by unfold xs0b.t; repeat' first | exact Sub.ret | exact Sub.none | exact Sub.loop | apply Sub.cond | (apply Sub.bind; intro _) : Sub xs0b.mk _ _) b h)))
theorem xs0b.eq9 (v0 : List (List Int × Int)) (v1 : Int) (v2 : Int) (v3 : Int) (v4 : Int) {b : (List (List Int × Int))} (h : xs0b.t9 some xs0b.l9 xs0b.l7 xs0b.l2 v0 v1 v2 v3 v4 = some b) : xs0b.l9 v0 v1 v2 v3 v4 = some b := tOf_intro xs0b.un (fun _ => by kernel_rfl) (loopAtL_step ((xs0b.k9 v0 v1 v2 v3 v4).trans ((by unfold xs0b.t9; repeat' first | exact Sub.ret | exact Sub.none | exact Sub.loop | apply Sub.cond | (apply Sub.bind; intro _) : Sub xs0b.mk _ _) b h)))
theorem xs0b.eq7 (v0 : List (List Int × Int)) (v1 : Int) (v2 : Int) {b : (List (List Int × Int))} (h : xs0b.t7 some xs0b.l9 xs0b.l7 xs0b.l2 v0 v1 v2 = some b) : xs0b.l7 v0 v1 v2 = some b := tOf_intro xs0b.un (fun _ => by kernel_rfl) (loopAtL_step ((xs0b.k7 v0 v1 v2).trans ((by unfold xs0b.t7; repeat' first | exact Sub.ret | exact Sub.none | exact Sub.loop | apply Sub.cond | (apply Sub.bind; intro _) : Sub xs0b.mk _ _) b h)))
theorem xs0b.eq2 (v0 : List (List Int × Int)) (v1 : Int) (v2 : Int) (v3 : Int) (v4 : Int) {b : (List (List Int × Int))} (h : xs0b.t2 some xs0b.l9 xs0b.l7 xs0b.l2 v0 v1 v2 v3 v4 = some b) : xs0b.l2 v0 v1 v2 v3 v4 = some b := tOf_intro xs0b.un (fun _ => by kernel_rfl) (loopAtL_step ((xs0b.k2 v0 v1 v2 v3 v4).trans ((by unfold xs0b.t2; repeat' first | exact Sub.ret | exact Sub.none | exact Sub.loop | apply Sub.cond | (apply Sub.bind; intro _) : Sub xs0b.mk _ _) b h)))
noncomputable def xs05.q4 (v0 : List (List Int × Int)) (v1 : Int) (v2 : Int) (v3 : Int) (v4 : Int) : Option R := loopAtL E (callT E tab) 229 Try.f229 4 [.r, .b, .o, .r, .l, .b, .r, .b] (⟨(.val .one), [.d .sha (.sl (.pair (.sl (.int .i64)) (.int .i64))) v0], true, false, false, 0, 0⟩ :: vc (iL v1) :: vc (iL v2) :: vc (.fn 171 []) :: nn 4 (vc (iL v3) :: vc (iL v4) :: nn 43 ([])))
noncomputable def xs05.l4 (v0 : List (List Int × Int)) (v1 : Int) (v2 : Int) (v3 : Int) (v4 : Int) : Option ((List (List Int × Int))) := tOf xs05.mk (xs05.q4 v0 v1 v2 v3 v4)
noncomputable def xs05.q1 (v0 : List (List Int × Int)) (v1 : Int) (v2 : Int) (v3 : Int) : Option R := loopAtL E (callT E tab) 229 Try.f229 4 [.r, .b] (⟨(.val .one), [.d .sha (.sl (.pair (.sl (.int .i64)) (.int .i64))) v0], true, false, false, 0, 0⟩ :: vc (iL v1) :: vc (iL v2) :: vc (.fn 171 []) :: nn 4 (vc (iL v3) :: nn 44 ([])))
noncomputable def xs05.l1 (v0 : List (List Int × Int)) (v1 : Int) (v2 : Int) (v3 : Int) : Option ((List (List Int × Int))) := tOf xs05.mk (xs05.q1 v0 v1 v2 v3)
noncomputable def xs05.t {γ : Type} (ret : ((List (List Int × Int))) → Option γ) (lp4 : (List (List Int × Int)) → Int → Int → Int → Int → Option γ) (lp1 : (List (List Int × Int)) → Int → Int → Int → Option γ) (v0 : List (List Int × Int)) (v1 : Int) (v2 : Int) : Option γ :=
 lp1 (v0) (v1) (v2) (IntKind.i64.wrap (v1 + (1 : Int)))
noncomputable def xs05.t4 {γ : Type} (ret : ((List (List Int × Int))) → Option γ) (lp4 : (List (List Int × Int)) → Int → Int → Int → Int → Option γ) (lp1 : (List (List Int × Int)) → Int → Int → Int → Option γ) (v0 : List (List Int × Int)) (v1 : Int) (v2 : Int) (v3 : Int) (v4 : Int) : Option γ :=
 bif decide (v4 > v1) then
  bif decide ((0 : Int) ≤ v4) then
   bif decide (v4.toNat < v0.length) then
    bif decide (v4.toNat < v0.length) then
     bif decide ((0 : Int) ≤ IntKind.i64.wrap (v4 - (1 : Int))) then
      bif decide ((IntKind.i64.wrap (v4 - (1 : Int))).toNat < v0.length) then
       bif decide ((IntKind.i64.wrap (v4 - (1 : Int))).toNat < v0.length) then
        (impl_summed_1 ((v0.getD v4.toNat ([], (0 : Int))).fst) ((v0.getD v4.toNat ([], (0 : Int))).snd) ((v0.getD (IntKind.i64.wrap (v4 - (1 : Int))).toNat ([], (0 : Int))).fst) ((v0.getD (IntKind.i64.wrap (v4 - (1 : Int))).toNat ([], (0 : Int))).snd)).bind fun (r0 : Int) =>
        bif decide (r0 < (0 : Int)) then
         bif decide ((0 : Int) ≤ IntKind.i64.wrap (v4 - (1 : Int))) then
          bif decide ((IntKind.i64.wrap (v4 - (1 : Int))).toNat < v0.length) then
           bif decide ((IntKind.i64.wrap (v4 - (1 : Int))).toNat < v0.length) then
            bif decide ((0 : Int) ≤ v4) then
             bif decide (v4.toNat < v0.length) then
              bif decide (v4.toNat < v0.length) then
               bif decide ((0 : Int) ≤ v4) then
                bif decide (v4.toNat < v0.length) then
                 bif decide (v4.toNat < v0.length) then
                  bif decide ((0 : Int) ≤ IntKind.i64.wrap (v4 - (1 : Int))) then
                   bif decide   ((IntKind.i64.wrap (v4 - (1 : Int))).toNat <     (v0.set v4.toNat         ((v0.getD (IntKind.i64.wrap (v4 - (1 : Int))).toNat ([], (0 : Int))).fst,           (v0.getD (IntKind.i64.wrap (v4 - (1 : Int))).toNat ([], (0 : Int))).snd)).length) then
                    bif decide   ((IntKind.i64.wrap (v4 - (1 : Int))).toNat <     (v0.set v4.toNat         ((v0.getD (IntKind.i64.wrap (v4 - (1 : Int))).toNat ([], (0 : Int))).fst,           (v0.getD (IntKind.i64.wrap (v4 - (1 : Int))).toNat ([], (0 : Int))).snd)).length) then
                     lp4 ((v0.set v4.toNat       ((v0.getD (IntKind.i64.wrap (v4 - (1 : Int))).toNat ([], (0 : Int))).fst,         (v0.getD (IntKind.i64.wrap (v4 - (1 : Int))).toNat ([], (0 : Int))).snd)).set   (IntKind.i64.wrap (v4 - (1 : Int))).toNat   ((v0.getD v4.toNat ([], (0 : Int))).fst, (v0.getD v4.toNat ([], (0 : Int))).snd)) (v1) (v2) (v3) (IntKind.i64.wrap (v4 - (1 : Int)))
                    else
                     none
                   else
                    none
                  else
                   none
                 else
                  none
                else
                 none
               else
                none
              else
               none
             else
              none
            else
             none
           else
            none
          else
           none
         else
          none
        else
         lp1 (v0) (v1) (v2) (IntKind.i64.wrap (v3 + (1 : Int)))
       else
        none
      else
       none
     else
      none
    else
     none
   else
    none
  else
   none
 else
  lp1 (v0) (v1) (v2) (IntKind.i64.wrap (v3 + (1 : Int)))
noncomputable def xs05.t1 {γ : Type} (ret : ((List (List Int × Int))) → Option γ) (lp4 : (List (List Int × Int)) → Int → Int → Int → Int → Option γ) (lp1 : (List (List Int × Int)) → Int → Int → Int → Option γ) (v0 : List (List Int × Int)) (v1 : Int) (v2 : Int) (v3 : Int) : Option γ :=
 bif decide (v3 < v2) then
  lp4 (v0) (v1) (v2) (v3) (v3)
 else
  ret (v0)
theorem xs05.k (v0 : List (List Int × Int)) (v1 : Int) (v2 : Int) : topL E (callT E tab) 229 Try.f229 (xs05.c v0 v1 v2) = xs05.t (fun b => some (xs05.mk b)) xs05.q4 xs05.q1 v0 v1 v2 := by kernel_rfl
theorem xs05.k4 (v0 : List (List Int × Int)) (v1 : Int) (v2 : Int) (v3 : Int) (v4 : Int) : roundL E (callT E tab) 229 Try.f229 4 [.r, .b, .o, .r, .l, .b, .r, .b] (⟨(.val .one), [.d .sha (.sl (.pair (.sl (.int .i64)) (.int .i64))) v0], true, false, false, 0, 0⟩ :: vc (iL v1) :: vc (iL v2) :: vc (.fn 171 []) :: nn 4 (vc (iL v3) :: vc (iL v4) :: nn 43 ([]))) = xs05.t4 (fun b => some (xs05.mk b)) xs05.q4 xs05.q1 v0 v1 v2 v3 v4 := by kernel_rfl
theorem xs05.k1 (v0 : List (List Int × Int)) (v1 : Int) (v2 : Int) (v3 : Int) : roundL E (callT E tab) 229 Try.f229 4 [.r, .b] (⟨(.val .one), [.d .sha (.sl (.pair (.sl (.int .i64)) (.int .i64))) v0], true, false, false, 0, 0⟩ :: vc (iL v1) :: vc (iL v2) :: vc (.fn 171 []) :: nn 4 (vc (iL v3) :: nn 44 ([]))) = xs05.t1 (fun b => some (xs05.mk b)) xs05.q4 xs05.q1 v0 v1 v2 v3 := by kernel_rfl
theorem xs05.eq (v0 : List (List Int × Int)) (v1 : Int) (v2 : Int) {b : (List (List Int × Int))} (h : xs05.t some xs05.l4 xs05.l1 v0 v1 v2 = some b) : xs05 v0 v1 v2 = some b := tOf_intro xs05.un (fun _ => by kernel_rfl) (vlim_fn (callT_le E tab) rfl rfl rfl ((xs05.k v0 v1 v2).trans ((by unfold xs05.t; repeat' first | exact Sub.ret | exact Sub.none | exact Sub.loop | apply Sub.cond | (apply Sub.bind; intro _) : Sub xs05.mk _ _) b h)))
theorem xs05.eq4 (v0 : List (List Int × Int)) (v1 : Int) (v2 : Int) (v3 : Int) (v4 : Int) {b : (List (List Int × Int))} (h : xs05.t4 some xs05.l4 xs05.l1 v0 v1 v2 v3 v4 = some b) : xs05.l4 v0 v1 v2 v3 v4 = some b := tOf_intro xs05.un (fun _ => by kernel_rfl) (loopAtL_step ((xs05.k4 v0 v1 v2 v3 v4).trans ((by unfold xs05.t4; repeat' first | exact Sub.ret | exact Sub.none | exact Sub.loop | apply Sub.cond | (apply Sub.bind; intro _) : Sub xs05.mk _ _) b h)))
theorem xs05.eq1 (v0 : List (List Int × Int)) (v1 : Int) (v2 : Int) (v3 : Int) {b : (List (List Int × Int))} (h : xs05.t1 some xs05.l4 xs05.l1 v0 v1 v2 v3 = some b) : xs05.l1 v0 v1 v2 v3 = some b := tOf_intro xs05.un (fun _ => by kernel_rfl) (loopAtL_step ((xs05.k1 v0 v1 v2 v3).trans ((by unfold xs05.t1; repeat' first | exact Sub.ret | exact Sub.none | exact Sub.loop | apply Sub.cond | (apply Sub.bind; intro _) : Sub xs05.mk _ _) b h)))
noncomputable def impl_summed_1.t {γ : Type} (ret : (Int) → Option γ) (v0 : List Int) (v1 : Int) (v2 : List Int) (v3 : Int) : Option γ :=
 (impl_compareRows (v0) (v2)).bind fun (r0 : Int) =>
 ret (r0)
theorem impl_summed_1.k (v0 : List Int) (v1 : Int) (v2 : List Int) (v3 : Int) : topL E (callT E tab) 171 Try.f171 (impl_summed_1.c v0 v1 v2 v3) = impl_summed_1.t (fun b => some (impl_summed_1.mk b)) v0 v1 v2 v3 := by kernel_rfl
theorem impl_summed_1.eq (v0 : List Int) (v1 : Int) (v2 : List Int) (v3 : Int) {b : Int} (h : impl_summed_1.t some v0 v1 v2 v3 = some b) : impl_summed_1 v0 v1 v2 v3 = some b := tOf_intro impl_summed_1.un (fun _ => by kernel_rfl) (vlim_fn (callT_le E tab) rfl rfl rfl ((impl_summed_1.k v0 v1 v2 v3).trans ((by unfold impl_summed_1.t; repeat' first | exact Sub.ret | exact Sub.none | exact Sub.loop | apply Sub.cond | (apply Sub.bind; intro _) : Sub impl_summed_1.mk _ _) b h)))
noncomputable def xs09.q9 (v0 : List (List Int × Int)) (v1 : Int) (v2 : Int) : Option R := loopAtL E (callT E tab) 230 Try.f230 5 [.l, .r, .l, .r, .r, .r, .l, .r, .b] (⟨(.val .one), [.d .sha (.sl (.pair (.sl (.int .i64)) (.int .i64))) v0], true, false, false, 0, 0⟩ :: nn 9 (vc (iL v1) :: nn 2 (vc (iL v2) :: nn 206 ([]))))
noncomputable def xs09.l9 (v0 : List (List Int × Int)) (v1 : Int) (v2 : Int) : Option ((List (List Int × Int))) := tOf xs09.mk (xs09.q9 v0 v1 v2)
noncomputable def xs09.q3 (v0 : List (List Int × Int)) (v1 : Int) (v2 : Int) (v3 : Int) : Option R := loopAtL E (callT E tab) 230 Try.f230 5 [.l, .r, .l, .r, .r, .l, .b] (⟨(.val .one), [.d .sha (.sl (.pair (.sl (.int .i64)) (.int .i64))) v0], true, false, false, 0, 0⟩ :: vc (iL v1) :: nn 2 (vc (.fn 171 []) :: nn 5 (vc (iL v2) :: vc (iL v3) :: nn 208 ([]))))
noncomputable def xs09.l3 (v0 : List (List Int × Int)) (v1 : Int) (v2 : Int) (v3 : Int) : Option ((List (List Int × Int))) := tOf xs09.mk (xs09.q3 v0 v1 v2 v3)
noncomputable def xs09.q21 (v0 : List (List Int × Int)) (v1 : Int) (v2 : Int) : Option R := loopAtL E (callT E tab) 230 Try.f230 5 [.r, .l, .r, .l, .r, .r, .r, .l, .r, .b] (⟨(.val .one), [.d .sha (.sl (.pair (.sl (.int .i64)) (.int .i64))) v0], true, false, false, 0, 0⟩ :: nn 13 (vc (iL v1) :: nn 2 (vc (iL v2) :: nn 202 ([]))))
noncomputable def xs09.l21 (v0 : List (List Int × Int)) (v1 : Int) (v2 : Int) : Option ((List (List Int × Int))) := tOf xs09.mk (xs09.q21 v0 v1 v2)
noncomputable def xs09.q15 (v0 : List (List Int × Int)) (v1 : Int) (v2 : Int) (v3 : Int) : Option R := loopAtL E (callT E tab) 230 Try.f230 5 [.r, .l, .r, .l, .r, .r, .l, .b] (⟨(.val .one), [.d .sha (.sl (.pair (.sl (.int .i64)) (.int .i64))) v0], true, false, false, 0, 0⟩ :: nn 1 (vc (iL v1) :: nn 1 (vc (.fn 171 []) :: nn 9 (vc (iL v2) :: vc (iL v3) :: nn 204 ([])))))
noncomputable def xs09.l15 (v0 : List (List Int × Int)) (v1 : Int) (v2 : Int) (v3 : Int) : Option ((List (List Int × Int))) := tOf xs09.mk (xs09.q15 v0 v1 v2 v3)
noncomputable def xs09.q33 (v0 : List (List Int × Int)) (v1 : Int) (v2 : Int) (v3 : Int) (v4 : Int) (v5 : Int) (v6 : Int) (v7 : Int) (v8 : Int) : Option R := loopAtL E (callT E tab) 230 Try.f230 5 [.r, .r, .r, .r, .r, .r, .r, .l, .b] (⟨(.val .one), [.d .sha (.sl (.pair (.sl (.int .i64)) (.int .i64))) v0], true, false, false, 0, 0⟩ :: vc (iL v1) :: vc (iL v2) :: vc (iL v3) :: vc (.fn 171 []) :: nn 13 (vc (iL v4) :: vc (iL v5) :: vc (iL v6) :: vc (iL v7) :: vc (iL v8) :: nn 197 ([])))
noncomputable def xs09.l33 (v0 : List (List Int × Int)) (v1 : Int) (v2 : Int) (v3 : Int) (v4 : Int) (v5 : Int) (v6 : Int) (v7 : Int) (v8 : Int) : Option ((List (List Int × Int))) := tOf xs09.mk (xs09.q33 v0 v1 v2 v3 v4 v5 v6 v7 v8)
noncomputable def xs09.t {γ : Type} (ret : ((List (List Int × Int))) → Option γ) (lp9 : (List (List Int × Int)) → Int → Int → Option γ) (lp3 : (List (List Int × Int)) → Int → Int → Int → Option γ) (lp21 : (List (List Int × Int)) → Int → Int → Option γ) (lp15 : (List (List Int × Int)) → Int → Int → Int → Option γ) (lp33 : (List (List Int × Int)) → Int → Int → Int → Int → Int → Int → Int → Int → Option γ) (v0 : List (List Int × Int)) (v1 : Int) (v2 : Int) (v3 : Int) : Option γ :=
 bif IntKind.i64.wrap (v2 - v1) == (1 : Int) then
  lp3 (v0) (v1) (v2) (v3)
 else
  bif IntKind.i64.wrap (v3 - v2) == (1 : Int) then
   lp15 (v0) (v2) (v1) (v2)
  else
   bif decide   (v2 >     IntKind.i64.wrap       ((IntKind.u64.wrap (IntKind.i64.wrap (v1 + v3))).fdiv         ((2 : Int) ^ Min.min (Int.toNat (1 : Int)) IntKind.u64.bits))) then
    lp33 (v0) (v1) (v2) (v3) (IntKind.i64.wrap   ((IntKind.u64.wrap (IntKind.i64.wrap (v1 + v3))).fdiv     ((2 : Int) ^ Min.min (Int.toNat (1 : Int)) IntKind.u64.bits))) (IntKind.i64.wrap   (IntKind.i64.wrap       ((IntKind.u64.wrap (IntKind.i64.wrap (v1 + v3))).fdiv         ((2 : Int) ^ Min.min (Int.toNat (1 : Int)) IntKind.u64.bits)) +     v2)) (IntKind.i64.wrap   (IntKind.i64.wrap       (IntKind.i64.wrap           ((IntKind.u64.wrap (IntKind.i64.wrap (v1 + v3))).fdiv             ((2 : Int) ^ Min.min (Int.toNat (1 : Int)) IntKind.u64.bits)) +         v2) -     v3)) (IntKind.i64.wrap   ((IntKind.u64.wrap (IntKind.i64.wrap (v1 + v3))).fdiv     ((2 : Int) ^ Min.min (Int.toNat (1 : Int)) IntKind.u64.bits))) (IntKind.i64.wrap   (IntKind.i64.wrap       (IntKind.i64.wrap           ((IntKind.u64.wrap (IntKind.i64.wrap (v1 + v3))).fdiv             ((2 : Int) ^ Min.min (Int.toNat (1 : Int)) IntKind.u64.bits)) +         v2) -     (1 : Int)))
   else
    lp33 (v0) (v1) (v2) (v3) (IntKind.i64.wrap   ((IntKind.u64.wrap (IntKind.i64.wrap (v1 + v3))).fdiv     ((2 : Int) ^ Min.min (Int.toNat (1 : Int)) IntKind.u64.bits))) (IntKind.i64.wrap   (IntKind.i64.wrap       ((IntKind.u64.wrap (IntKind.i64.wrap (v1 + v3))).fdiv         ((2 : Int) ^ Min.min (Int.toNat (1 : Int)) IntKind.u64.bits)) +     v2)) (v1) (v2) (IntKind.i64.wrap   (IntKind.i64.wrap       (IntKind.i64.wrap           ((IntKind.u64.wrap (IntKind.i64.wrap (v1 + v3))).fdiv             ((2 : Int) ^ Min.min (Int.toNat (1 : Int)) IntKind.u64.bits)) +         v2) -     (1 : Int)))
noncomputable def xs09.t9 {γ : Type} (ret : ((List (List Int × Int))) → Option γ) (lp9 : (List (List Int × Int)) → Int → Int → Option γ) (lp3 : (List (List Int × Int)) → Int → Int → Int → Option γ) (lp21 : (List (List Int × Int)) → Int → Int → Option γ) (lp15 : (List (List Int × Int)) → Int → Int → Int → Option γ) (lp33 : (List (List Int × Int)) → Int → Int → Int → Int → Int → Int → Int → Int → Option γ) (v0 : List (List Int × Int)) (v1 : Int) (v2 : Int) : Option γ :=
 bif decide (v2 < IntKind.i64.wrap (v1 - (1 : Int))) then
  bif decide ((0 : Int) ≤ IntKind.i64.wrap (v2 + (1 : Int))) then
   bif decide ((IntKind.i64.wrap (v2 + (1 : Int))).toNat < v0.length) then
    bif decide ((IntKind.i64.wrap (v2 + (1 : Int))).toNat < v0.length) then
     bif decide ((0 : Int) ≤ v2) then
      bif decide (v2.toNat < v0.length) then
       bif decide (v2.toNat < v0.length) then
        bif decide ((0 : Int) ≤ v2) then
         bif decide (v2.toNat < v0.length) then
          bif decide (v2.toNat < v0.length) then
           bif decide ((0 : Int) ≤ IntKind.i64.wrap (v2 + (1 : Int))) then
            bif decide   ((IntKind.i64.wrap (v2 + (1 : Int))).toNat <     (v0.set v2.toNat         ((v0.getD (IntKind.i64.wrap (v2 + (1 : Int))).toNat ([], (0 : Int))).fst,           (v0.getD (IntKind.i64.wrap (v2 + (1 : Int))).toNat ([], (0 : Int))).snd)).length) then
             bif decide   ((IntKind.i64.wrap (v2 + (1 : Int))).toNat <     (v0.set v2.toNat         ((v0.getD (IntKind.i64.wrap (v2 + (1 : Int))).toNat ([], (0 : Int))).fst,           (v0.getD (IntKind.i64.wrap (v2 + (1 : Int))).toNat ([], (0 : Int))).snd)).length) then
              lp9 ((v0.set v2.toNat       ((v0.getD (IntKind.i64.wrap (v2 + (1 : Int))).toNat ([], (0 : Int))).fst,         (v0.getD (IntKind.i64.wrap (v2 + (1 : Int))).toNat ([], (0 : Int))).snd)).set   (IntKind.i64.wrap (v2 + (1 : Int))).toNat   ((v0.getD v2.toNat ([], (0 : Int))).fst, (v0.getD v2.toNat ([], (0 : Int))).snd)) (v1) (IntKind.i64.wrap (v2 + (1 : Int)))
             else
              none
            else
             none
           else
            none
          else
           none
         else
          none
        else
         none
       else
        none
      else
       none
     else
      none
    else
     none
   else
    none
  else
   none
 else
  ret (v0)
noncomputable def xs09.t3 {γ : Type} (ret : ((List (List Int × Int))) → Option γ) (lp9 : (List (List Int × Int)) → Int → Int → Option γ) (lp3 : (List (List Int × Int)) → Int → Int → Int → Option γ) (lp21 : (List (List Int × Int)) → Int → Int → Option γ) (lp15 : (List (List Int × Int)) → Int → Int → Int → Option γ) (lp33 : (List (List Int × Int)) → Int → Int → Int → Int → Int → Int → Int → Int → Option γ) (v0 : List (List Int × Int)) (v1 : Int) (v2 : Int) (v3 : Int) : Option γ :=
 bif decide (v2 < v3) then
  bif decide   ((0 : Int) ≤     IntKind.i64.wrap       ((IntKind.u64.wrap (IntKind.i64.wrap (v2 + v3))).fdiv         ((2 : Int) ^ Min.min (Int.toNat (1 : Int)) IntKind.u64.bits))) then
   bif decide   ((IntKind.i64.wrap         ((IntKind.u64.wrap (IntKind.i64.wrap (v2 + v3))).fdiv           ((2 : Int) ^ Min.min (Int.toNat (1 : Int)) IntKind.u64.bits))).toNat <     v0.length) then
    bif decide   ((IntKind.i64.wrap         ((IntKind.u64.wrap (IntKind.i64.wrap (v2 + v3))).fdiv           ((2 : Int) ^ Min.min (Int.toNat (1 : Int)) IntKind.u64.bits))).toNat <     v0.length) then
     bif decide ((0 : Int) ≤ v1) then
      bif decide (v1.toNat < v0.length) then
       bif decide (v1.toNat < v0.length) then
        (impl_summed_1 ((v0.getD     (IntKind.i64.wrap         ((IntKind.u64.wrap (IntKind.i64.wrap (v2 + v3))).fdiv           ((2 : Int) ^ Min.min (Int.toNat (1 : Int)) IntKind.u64.bits))).toNat     ([], (0 : Int))).fst) ((v0.getD     (IntKind.i64.wrap         ((IntKind.u64.wrap (IntKind.i64.wrap (v2 + v3))).fdiv           ((2 : Int) ^ Min.min (Int.toNat (1 : Int)) IntKind.u64.bits))).toNat     ([], (0 : Int))).snd) ((v0.getD v1.toNat ([], (0 : Int))).fst) ((v0.getD v1.toNat ([], (0 : Int))).snd)).bind fun (r0 : Int) =>
        bif decide (r0 < (0 : Int)) then
         lp3 (v0) (v1) (IntKind.i64.wrap   (IntKind.i64.wrap       ((IntKind.u64.wrap (IntKind.i64.wrap (v2 + v3))).fdiv         ((2 : Int) ^ Min.min (Int.toNat (1 : Int)) IntKind.u64.bits)) +     (1 : Int))) (v3)
        else
         lp3 (v0) (v1) (v2) (IntKind.i64.wrap   ((IntKind.u64.wrap (IntKind.i64.wrap (v2 + v3))).fdiv     ((2 : Int) ^ Min.min (Int.toNat (1 : Int)) IntKind.u64.bits)))
       else
        none
      else
       none
     else
      none
    else
     none
   else
    none
  else
   none
 else
  lp9 (v0) (v2) (v1)
noncomputable def xs09.t21 {γ : Type} (ret : ((List (List Int × Int))) → Option γ) (lp9 : (List (List Int × Int)) → Int → Int → Option γ) (lp3 : (List (List Int × Int)) → Int → Int → Int → Option γ) (lp21 : (List (List Int × Int)) → Int → Int → Option γ) (lp15 : (List (List Int × Int)) → Int → Int → Int → Option γ) (lp33 : (List (List Int × Int)) → Int → Int → Int → Int → Int → Int → Int → Int → Option γ) (v0 : List (List Int × Int)) (v1 : Int) (v2 : Int) : Option γ :=
 bif decide (v2 > v1) then
  bif decide ((0 : Int) ≤ IntKind.i64.wrap (v2 - (1 : Int))) then
   bif decide ((IntKind.i64.wrap (v2 - (1 : Int))).toNat < v0.length) then
    bif decide ((IntKind.i64.wrap (v2 - (1 : Int))).toNat < v0.length) then
     bif decide ((0 : Int) ≤ v2) then
      bif decide (v2.toNat < v0.length) then
       bif decide (v2.toNat < v0.length) then
        bif decide ((0 : Int) ≤ v2) then
         bif decide (v2.toNat < v0.length) then
          bif decide (v2.toNat < v0.length) then
           bif decide ((0 : Int) ≤ IntKind.i64.wrap (v2 - (1 : Int))) then
            bif decide   ((IntKind.i64.wrap (v2 - (1 : Int))).toNat <     (v0.set v2.toNat         ((v0.getD (IntKind.i64.wrap (v2 - (1 : Int))).toNat ([], (0 : Int))).fst,           (v0.getD (IntKind.i64.wrap (v2 - (1 : Int))).toNat ([], (0 : Int))).snd)).length) then
             bif decide   ((IntKind.i64.wrap (v2 - (1 : Int))).toNat <     (v0.set v2.toNat         ((v0.getD (IntKind.i64.wrap (v2 - (1 : Int))).toNat ([], (0 : Int))).fst,           (v0.getD (IntKind.i64.wrap (v2 - (1 : Int))).toNat ([], (0 : Int))).snd)).length) then
              lp21 ((v0.set v2.toNat       ((v0.getD (IntKind.i64.wrap (v2 - (1 : Int))).toNat ([], (0 : Int))).fst,         (v0.getD (IntKind.i64.wrap (v2 - (1 : Int))).toNat ([], (0 : Int))).snd)).set   (IntKind.i64.wrap (v2 - (1 : Int))).toNat   ((v0.getD v2.toNat ([], (0 : Int))).fst, (v0.getD v2.toNat ([], (0 : Int))).snd)) (v1) (IntKind.i64.wrap (v2 - (1 : Int)))
             else
              none
            else
             none
           else
            none
          else
           none
         else
          none
        else
         none
       else
        none
      else
       none
     else
      none
    else
     none
   else
    none
  else
   none
 else
  ret (v0)
noncomputable def xs09.t15 {γ : Type} (ret : ((List (List Int × Int))) → Option γ) (lp9 : (List (List Int × Int)) → Int → Int → Option γ) (lp3 : (List (List Int × Int)) → Int → Int → Int → Option γ) (lp21 : (List (List Int × Int)) → Int → Int → Option γ) (lp15 : (List (List Int × Int)) → Int → Int → Int → Option γ) (lp33 : (List (List Int × Int)) → Int → Int → Int → Int → Int → Int → Int → Int → Option γ) (v0 : List (List Int × Int)) (v1 : Int) (v2 : Int) (v3 : Int) : Option γ :=
 bif decide (v2 < v3) then
  bif decide ((0 : Int) ≤ v1) then
   bif decide (v1.toNat < v0.length) then
    bif decide (v1.toNat < v0.length) then
     bif decide   ((0 : Int) ≤     IntKind.i64.wrap       ((IntKind.u64.wrap (IntKind.i64.wrap (v2 + v3))).fdiv         ((2 : Int) ^ Min.min (Int.toNat (1 : Int)) IntKind.u64.bits))) then
      bif decide   ((IntKind.i64.wrap         ((IntKind.u64.wrap (IntKind.i64.wrap (v2 + v3))).fdiv           ((2 : Int) ^ Min.min (Int.toNat (1 : Int)) IntKind.u64.bits))).toNat <     v0.length) then
       bif decide   ((IntKind.i64.wrap         ((IntKind.u64.wrap (IntKind.i64.wrap (v2 + v3))).fdiv           ((2 : Int) ^ Min.min (Int.toNat (1 : Int)) IntKind.u64.bits))).toNat <     v0.length) then
        (impl_summed_1 ((v0.getD v1.toNat ([], (0 : Int))).fst) ((v0.getD v1.toNat ([], (0 : Int))).snd) ((v0.getD     (IntKind.i64.wrap         ((IntKind.u64.wrap (IntKind.i64.wrap (v2 + v3))).fdiv           ((2 : Int) ^ Min.min (Int.toNat (1 : Int)) IntKind.u64.bits))).toNat     ([], (0 : Int))).fst) ((v0.getD     (IntKind.i64.wrap         ((IntKind.u64.wrap (IntKind.i64.wrap (v2 + v3))).fdiv           ((2 : Int) ^ Min.min (Int.toNat (1 : Int)) IntKind.u64.bits))).toNat     ([], (0 : Int))).snd)).bind fun (r1 : Int) =>
        bif !decide (r1 < (0 : Int)) then
         lp15 (v0) (v1) (IntKind.i64.wrap   (IntKind.i64.wrap       ((IntKind.u64.wrap (IntKind.i64.wrap (v2 + v3))).fdiv         ((2 : Int) ^ Min.min (Int.toNat (1 : Int)) IntKind.u64.bits)) +     (1 : Int))) (v3)
        else
         lp15 (v0) (v1) (v2) (IntKind.i64.wrap   ((IntKind.u64.wrap (IntKind.i64.wrap (v2 + v3))).fdiv     ((2 : Int) ^ Min.min (Int.toNat (1 : Int)) IntKind.u64.bits)))
       else
        none
      else
       none
     else
      none
    else
     none
   else
    none
  else
   none
 else
  lp21 (v0) (v2) (v1)
noncomputable def xs09.t33 {γ : Type} (ret : ((List (List Int × Int))) → Option γ) (lp9 : (List (List Int × Int)) → Int → Int → Option γ) (lp3 : (List (List Int × Int)) → Int → Int → Int → Option γ) (lp21 : (List (List Int × Int)) → Int → Int → Option γ) (lp15 : (List (List Int × Int)) → Int → Int → Int → Option γ) (lp33 : (List (List Int × Int)) → Int → Int → Int → Int → Int → Int → Int → Int → Option γ) (v0 : List (List Int × Int)) (v1 : Int) (v2 : Int) (v3 : Int) (v4 : Int) (v5 : Int) (v6 : Int) (v7 : Int) (v8 : Int) : Option γ :=
 bif decide (v6 < v7) then
  bif decide   ((0 : Int) ≤     IntKind.i64.wrap       (v8 -         IntKind.i64.wrap           ((IntKind.u64.wrap (IntKind.i64.wrap (v6 + v7))).fdiv             ((2 : Int) ^ Min.min (Int.toNat (1 : Int)) IntKind.u64.bits)))) then
   bif decide   ((IntKind.i64.wrap         (v8 -           IntKind.i64.wrap             ((IntKind.u64.wrap (IntKind.i64.wrap (v6 + v7))).fdiv               ((2 : Int) ^ Min.min (Int.toNat (1 : Int)) IntKind.u64.bits)))).toNat <     v0.length) then
    bif decide   ((IntKind.i64.wrap         (v8 -           IntKind.i64.wrap             ((IntKind.u64.wrap (IntKind.i64.wrap (v6 + v7))).fdiv               ((2 : Int) ^ Min.min (Int.toNat (1 : Int)) IntKind.u64.bits)))).toNat <     v0.length) then
     bif decide   ((0 : Int) ≤     IntKind.i64.wrap       ((IntKind.u64.wrap (IntKind.i64.wrap (v6 + v7))).fdiv         ((2 : Int) ^ Min.min (Int.toNat (1 : Int)) IntKind.u64.bits))) then
      bif decide   ((IntKind.i64.wrap         ((IntKind.u64.wrap (IntKind.i64.wrap (v6 + v7))).fdiv           ((2 : Int) ^ Min.min (Int.toNat (1 : Int)) IntKind.u64.bits))).toNat <     v0.length) then
       bif decide   ((IntKind.i64.wrap         ((IntKind.u64.wrap (IntKind.i64.wrap (v6 + v7))).fdiv           ((2 : Int) ^ Min.min (Int.toNat (1 : Int)) IntKind.u64.bits))).toNat <     v0.length) then
        (impl_summed_1 ((v0.getD     (IntKind.i64.wrap         (v8 -           IntKind.i64.wrap             ((IntKind.u64.wrap (IntKind.i64.wrap (v6 + v7))).fdiv               ((2 : Int) ^ Min.min (Int.toNat (1 : Int)) IntKind.u64.bits)))).toNat     ([], (0 : Int))).fst) ((v0.getD     (IntKind.i64.wrap         (v8 -           IntKind.i64.wrap             ((IntKind.u64.wrap (IntKind.i64.wrap (v6 + v7))).fdiv               ((2 : Int) ^ Min.min (Int.toNat (1 : Int)) IntKind.u64.bits)))).toNat     ([], (0 : Int))).snd) ((v0.getD     (IntKind.i64.wrap         ((IntKind.u64.wrap (IntKind.i64.wrap (v6 + v7))).fdiv           ((2 : Int) ^ Min.min (Int.toNat (1 : Int)) IntKind.u64.bits))).toNat     ([], (0 : Int))).fst) ((v0.getD     (IntKind.i64.wrap         ((IntKind.u64.wrap (IntKind.i64.wrap (v6 + v7))).fdiv           ((2 : Int) ^ Min.min (Int.toNat (1 : Int)) IntKind.u64.bits))).toNat     ([], (0 : Int))).snd)).bind fun (r2 : Int) =>
        bif !decide (r2 < (0 : Int)) then
         lp33 (v0) (v1) (v2) (v3) (v4) (v5) (IntKind.i64.wrap   (IntKind.i64.wrap       ((IntKind.u64.wrap (IntKind.i64.wrap (v6 + v7))).fdiv         ((2 : Int) ^ Min.min (Int.toNat (1 : Int)) IntKind.u64.bits)) +     (1 : Int))) (v7) (v8)
        else
         lp33 (v0) (v1) (v2) (v3) (v4) (v5) (v6) (IntKind.i64.wrap   ((IntKind.u64.wrap (IntKind.i64.wrap (v6 + v7))).fdiv     ((2 : Int) ^ Min.min (Int.toNat (1 : Int)) IntKind.u64.bits))) (v8)
       else
        none
      else
       none
     else
      none
    else
     none
   else
    none
  else
   none
 else
  bif decide (v6 < v2) then
   bif decide (v2 < IntKind.i64.wrap (v5 - v6)) then
    (xs0a (v0) (v6) (v2) (IntKind.i64.wrap (v5 - v6))).bind fun (r3 : (List (List Int × Int))) =>
    bif decide (v1 < v6) then
     bif decide (v6 < v4) then
      (xs09 (r3) (v1) (v6) (v4)).bind fun (r4 : (List (List Int × Int))) =>
      bif decide (v4 < IntKind.i64.wrap (v5 - v6)) then
       bif decide (IntKind.i64.wrap (v5 - v6) < v3) then
        (xs09 (r4) (v4) (IntKind.i64.wrap (v5 - v6)) (v3)).bind fun (r5 : (List (List Int × Int))) =>
        ret (r5)
       else
        ret (r4)
      else
       ret (r4)
     else
      bif decide (v4 < IntKind.i64.wrap (v5 - v6)) then
       bif decide (IntKind.i64.wrap (v5 - v6) < v3) then
        (xs09 (r3) (v4) (IntKind.i64.wrap (v5 - v6)) (v3)).bind fun (r6 : (List (List Int × Int))) =>
        ret (r6)
       else
        ret (r3)
      else
       ret (r3)
    else
     bif decide (v4 < IntKind.i64.wrap (v5 - v6)) then
      bif decide (IntKind.i64.wrap (v5 - v6) < v3) then
       (xs09 (r3) (v4) (IntKind.i64.wrap (v5 - v6)) (v3)).bind fun (r7 : (List (List Int × Int))) =>
       ret (r7)
      else
       ret (r3)
     else
      ret (r3)
   else
    bif decide (v1 < v6) then
     bif decide (v6 < v4) then
      (xs09 (v0) (v1) (v6) (v4)).bind fun (r8 : (List (List Int × Int))) =>
      bif decide (v4 < IntKind.i64.wrap (v5 - v6)) then
       bif decide (IntKind.i64.wrap (v5 - v6) < v3) then
        (xs09 (r8) (v4) (IntKind.i64.wrap (v5 - v6)) (v3)).bind fun (r9 : (List (List Int × Int))) =>
        ret (r9)
       else
        ret (r8)
      else
       ret (r8)
     else
      bif decide (v4 < IntKind.i64.wrap (v5 - v6)) then
       bif decide (IntKind.i64.wrap (v5 - v6) < v3) then
        (xs09 (v0) (v4) (IntKind.i64.wrap (v5 - v6)) (v3)).bind fun (r10 : (List (List Int × Int))) =>
        ret (r10)
       else
        ret (v0)
      else
       ret (v0)
    else
     bif decide (v4 < IntKind.i64.wrap (v5 - v6)) then
      bif decide (IntKind.i64.wrap (v5 - v6) < v3) then
       (xs09 (v0) (v4) (IntKind.i64.wrap (v5 - v6)) (v3)).bind fun (r11 : (List (List Int × Int))) =>
       ret (r11)
      else
       ret (v0)
     else
      ret (v0)
  else
   bif decide (v1 < v6) then
    bif decide (v6 < v4) then
     (xs09 (v0) (v1) (v6) (v4)).bind fun (r12 : (List (List Int × Int))) =>
     bif decide (v4 < IntKind.i64.wrap (v5 - v6)) then
      bif decide (IntKind.i64.wrap (v5 - v6) < v3) then
       (xs09 (r12) (v4) (IntKind.i64.wrap (v5 - v6)) (v3)).bind fun (r13 : (List (List Int × Int))) =>
       ret (r13)
      else
       ret (r12)
     else
      ret (r12)
    else
     bif decide (v4 < IntKind.i64.wrap (v5 - v6)) then
      bif decide (IntKind.i64.wrap (v5 - v6) < v3) then
       (xs09 (v0) (v4) (IntKind.i64.wrap (v5 - v6)) (v3)).bind fun (r14 : (List (List Int × Int))) =>
       ret (r14)
      else
       ret (v0)
     else
      ret (v0)
   else
    bif decide (v4 < IntKind.i64.wrap (v5 - v6)) then
     bif decide (IntKind.i64.wrap (v5 - v6) < v3) then
      (xs09 (v0) (v4) (IntKind.i64.wrap (v5 - v6)) (v3)).bind fun (r15 : (List (List Int × Int))) =>
      ret (r15)
     else
      ret (v0)
    else
     ret (v0)
theorem xs09.k (v0 : List (List Int × Int)) (v1 : Int) (v2 : Int) (v3 : Int) : topL E (callT E tab) 230 Try.f230 (xs09.c v0 v1 v2 v3) = xs09.t (fun b => some (xs09.mk b)) xs09.q9 xs09.q3 xs09.q21 xs09.q15 xs09.q33 v0 v1 v2 v3 := by kernel_rfl
theorem xs09.k9 (v0 : List (List Int × Int)) (v1 : Int) (v2 : Int) : roundL E (callT E tab) 230 Try.f230 5 [.l, .r, .l, .r, .r, .r, .l, .r, .b] (⟨(.val .one), [.d .sha (.sl (.pair (.sl (.int .i64)) (.int .i64))) v0], true, false, false, 0, 0⟩ :: nn 9 (vc (iL v1) :: nn 2 (vc (iL v2) :: nn 206 ([])))) = xs09.t9 (fun b => some (xs09.mk b)) xs09.q9 xs09.q3 xs09.q21 xs09.q15 xs09.q33 v0 v1 v2 := by kernel_rfl
theorem xs09.k3 (v0 : List (List Int × Int)) (v1 : Int) (v2 : Int) (v3 : Int) : roundL E (callT E tab) 230 Try.f230 5 [.l, .r, .l, .r, .r, .l, .b] (⟨(.val .one), [.d .sha (.sl (.pair (.sl (.int .i64)) (.int .i64))) v0], true, false, false, 0, 0⟩ :: vc (iL v1) :: nn 2 (vc (.fn 171 []) :: nn 5 (vc (iL v2) :: vc (iL v3) :: nn 208 ([])))) = xs09.t3 (fun b => some (xs09.mk b)) xs09.q9 xs09.q3 xs09.q21 xs09.q15 xs09.q33 v0 v1 v2 v3 := by kernel_rfl
theorem xs09.k21 (v0 : List (List Int × Int)) (v1 : Int) (v2 : Int) : roundL E (callT E tab) 230 Try.f230 5 [.r, .l, .r, .l, .r, .r, .r, .l, .r, .b] (⟨(.val .one), [.d .sha (.sl (.pair (.sl (.int .i64)) (.int .i64))) v0], true, false, false, 0, 0⟩ :: nn 13 (vc (iL v1) :: nn 2 (vc (iL v2) :: nn 202 ([])))) = xs09.t21 (fun b => some (xs09.mk b)) xs09.q9 xs09.q3 xs09.q21 xs09.q15 xs09.q33 v0 v1 v2 := by kernel_rfl
theorem xs09.k15 (v0 : List (List Int × Int)) (v1 : Int) (v2 : Int) (v3 : Int) : roundL E (callT E tab) 230 Try.f230 5 [.r, .l, .r, .l, .r, .r, .l, .b] (⟨(.val .one), [.d .sha (.sl (.pair (.sl (.int .i64)) (.int .i64))) v0], true, false, false, 0, 0⟩ :: nn 1 (vc (iL v1) :: nn 1 (vc (.fn 171 []) :: nn 9 (vc (iL v2) :: vc (iL v3) :: nn 204 ([]))))) = xs09.t15 (fun b => some (xs09.mk b)) xs09.q9 xs09.q3 xs09.q21 xs09.q15 xs09.q33 v0 v1 v2 v3 := by kernel_rfl
theorem xs09.k33 (v0 : List (List Int × Int)) (v1 : Int) (v2 : Int) (v3 : Int) (v4 : Int) (v5 : Int) (v6 : Int) (v7 : Int) (v8 : Int) : roundL E (callT E tab) 230 Try.f230 5 [.r, .r, .r, .r, .r, .r, .r, .l, .b] (⟨(.val .one), [.d .sha (.sl (.pair (.sl (.int .i64)) (.int .i64))) v0], true, false, false, 0, 0⟩ :: vc (iL v1) :: vc (iL v2) :: vc (iL v3) :: vc (.fn 171 []) :: nn 13 (vc (iL v4) :: vc (iL v5) :: vc (iL v6) :: vc (iL v7) :: vc (iL v8) :: nn 197 ([]))) = xs09.t33 (fun b => some (xs09.mk b)) xs09.q9 xs09.q3 xs09.q21 xs09.q15 xs09.q33 v0 v1 v2 v3 v4 v5 v6 v7 v8 := by kernel_rfl
theorem xs09.eq (v0 : List (List Int × Int)) (v1 : Int) (v2 : Int) (v3 : Int) {b : (List (List Int × Int))} (h : xs09.t some xs09.l9 xs09.l3 xs09.l21 xs09.l15 xs09.l33 v0 v1 v2 v3 = some b) : xs09 v0 v1 v2 v3 = some b := tOf_intro xs09.un (fun _ => by kernel_rfl) (vlim_fn (callT_le E tab) rfl rfl rfl ((xs09.k v0 v1 v2 v3).trans ((by unfold xs09.t; repeat' first | exact Sub.ret | exact Sub.none | exact Sub.loop | apply Sub.cond | (apply Sub.bind; intro _) : Sub xs09.mk _ _) b h)))
theorem xs09.eq9 (v0 : List (List Int × Int)) (v1 : Int) (v2 : Int) {b : (List (List Int × Int))} (h : xs09.t9 some xs09.l9 xs09.l3 xs09.l21 xs09.l15 xs09.l33 v0 v1 v2 = some b) : xs09.l9 v0 v1 v2 = some b := tOf_intro xs09.un (fun _ => by kernel_rfl) (loopAtL_step ((xs09.k9 v0 v1 v2).trans ((by unfold xs09.t9; repeat' first | exact Sub.ret | exact Sub.none | exact Sub.loop | apply Sub.cond | (apply Sub.bind; intro _) : Sub xs09.mk _ _) b h)))
theorem xs09.eq3 (v0 : List (List Int × Int)) (v1 : Int) (v2 : Int) (v3 : Int) {b : (List (List Int × Int))} (h : xs09.t3 some xs09.l9 xs09.l3 xs09.l21 xs09.l15 xs09.l33 v0 v1 v2 v3 = some b) : xs09.l3 v0 v1 v2 v3 = some b := tOf_intro xs09.un (fun _ => by kernel_rfl) (loopAtL_step ((xs09.k3 v0 v1 v2 v3).trans ((by unfold xs09.t3; repeat' first | exact Sub.ret | exact Sub.none | exact Sub.loop | apply Sub.cond | (apply Sub.bind; intro _) : Sub xs09.mk _ _) b h)))
theorem xs09.eq21 (v0 : List (List Int × Int)) (v1 : Int) (v2 : Int) {b : (List (List Int × Int))} (h : xs09.t21 some xs09.l9 xs09.l3 xs09.l21 xs09.l15 xs09.l33 v0 v1 v2 = some b) : xs09.l21 v0 v1 v2 = some b := tOf_intro xs09.un (fun _ => by kernel_rfl) (loopAtL_step ((xs09.k21 v0 v1 v2).trans ((by unfold xs09.t21; repeat' first | exact Sub.ret | exact Sub.none | exact Sub.loop | apply Sub.cond | (apply Sub.bind; intro _) : Sub xs09.mk _ _) b h)))
theorem xs09.eq15 (v0 : List (List Int × Int)) (v1 : Int) (v2 : Int) (v3 : Int) {b : (List (List Int × Int))} (h : xs09.t15 some xs09.l9 xs09.l3 xs09.l21 xs09.l15 xs09.l33 v0 v1 v2 v3 = some b) : xs09.l15 v0 v1 v2 v3 = some b := tOf_intro xs09.un (fun _ => by kernel_rfl) (loopAtL_step ((xs09.k15 v0 v1 v2 v3).trans ((by unfold xs09.t15; repeat' first | exact Sub.ret | exact Sub.none | exact Sub.loop | apply Sub.cond | (apply Sub.bind; intro _) : Sub xs09.mk _ _) b h)))
theorem xs09.eq33 (v0 : List (List Int × Int)) (v1 : Int) (v2 : Int) (v3 : Int) (v4 : Int) (v5 : Int) (v6 : Int) (v7 : Int) (v8 : Int) {b : (List (List Int × Int))} (h : xs09.t33 some xs09.l9 xs09.l3 xs09.l21 xs09.l15 xs09.l33 v0 v1 v2 v3 v4 v5 v6 v7 v8 = some b) : xs09.l33 v0 v1 v2 v3 v4 v5 v6 v7 v8 = some b := tOf_intro xs09.un (fun _ => by kernel_rfl) (loopAtL_step ((xs09.k33 v0 v1 v2 v3 v4 v5 v6 v7 v8).trans ((by unfold xs09.t33; repeat' first | exact Sub.ret | exact Sub.none | exact Sub.loop | apply Sub.cond | (apply Sub.bind; intro _) : Sub xs09.mk _ _) b h)))
noncomputable def xs0a.q2 (v0 : List (List Int × Int)) (v1 : Int) (v2 : Int) (v3 : Int) : Option R := loopAtL E (callT E tab) 237 Try.f237 5 [.r, .r, .l, .b] (⟨(.val .one), [.d .sha (.sl (.pair (.sl (.int .i64)) (.int .i64))) v0], true, false, false, 0, 0⟩ :: nn 1 (vc (iL v1) :: nn 1 (vc (.fn 171 []) :: nn 5 (vc (iL v2) :: vc (iL v3) :: nn 46 ([])))))
noncomputable def xs0a.l2 (v0 : List (List Int × Int)) (v1 : Int) (v2 : Int) (v3 : Int) : Option ((List (List Int × Int))) := tOf xs0a.mk (xs0a.q2 v0 v1 v2 v3)
noncomputable def xs0a.t {γ : Type} (ret : ((List (List Int × Int))) → Option γ) (lp2 : (List (List Int × Int)) → Int → Int → Int → Option γ) (v0 : List (List Int × Int)) (v1 : Int) (v2 : Int) (v3 : Int) : Option γ :=
 lp2 (v0) (v2) (IntKind.i64.wrap (v2 - v1)) (IntKind.i64.wrap (v3 - v2))
noncomputable def xs0a.t2 {γ : Type} (ret : ((List (List Int × Int))) → Option γ) (lp2 : (List (List Int × Int)) → Int → Int → Int → Option γ) (v0 : List (List Int × Int)) (v1 : Int) (v2 : Int) (v3 : Int) : Option γ :=
 bif v2 != v3 then
  bif decide (v2 > v3) then
   (xs07 (v0) (IntKind.i64.wrap (v1 - v2)) (v1) (v3)).bind fun (r0 : (List (List Int × Int))) =>
   lp2 (r0) (v1) (IntKind.i64.wrap (v2 - v3)) (v3)
  else
   (xs07 (v0) (IntKind.i64.wrap (v1 - v2)) (IntKind.i64.wrap (IntKind.i64.wrap (v1 + v3) - v2)) (v2)).bind fun (r1 : (List (List Int × Int))) =>
   lp2 (r1) (v1) (v2) (IntKind.i64.wrap (v3 - v2))
 else
  (xs07 (v0) (IntKind.i64.wrap (v1 - v2)) (v1) (v2)).bind fun (r2 : (List (List Int × Int))) =>
  ret (r2)
theorem xs0a.k (v0 : List (List Int × Int)) (v1 : Int) (v2 : Int) (v3 : Int) : topL E (callT E tab) 237 Try.f237 (xs0a.c v0 v1 v2 v3) = xs0a.t (fun b => some (xs0a.mk b)) xs0a.q2 v0 v1 v2 v3 := by kernel_rfl
theorem xs0a.k2 (v0 : List (List Int × Int)) (v1 : Int) (v2 : Int) (v3 : Int) : roundL E (callT E tab) 237 Try.f237 5 [.r, .r, .l, .b] (⟨(.val .one), [.d .sha (.sl (.pair (.sl (.int .i64)) (.int .i64))) v0], true, false, false, 0, 0⟩ :: nn 1 (vc (iL v1) :: nn 1 (vc (.fn 171 []) :: nn 5 (vc (iL v2) :: vc (iL v3) :: nn 46 ([]))))) = xs0a.t2 (fun b => some (xs0a.mk b)) xs0a.q2 v0 v1 v2 v3 := by kernel_rfl
theorem xs0a.eq (v0 : List (List Int × Int)) (v1 : Int) (v2 : Int) (v3 : Int) {b : (List (List Int × Int))} (h : xs0a.t some xs0a.l2 v0 v1 v2 v3 = some b) : xs0a v0 v1 v2 v3 = some b := tOf_intro xs0a.un (fun _ => by kernel_rfl) (vlim_fn (callT_le E tab) rfl rfl rfl ((xs0a.k v0 v1 v2 v3).trans ((by unfold xs0a.t; repeat' first | exact Sub.ret | exact Sub.none | exact Sub.loop | apply Sub.cond | (apply Sub.bind; intro _) : Sub xs0a.mk _ _) b h)))
theorem xs0a.eq2 (v0 : List (List Int × Int)) (v1 : Int) (v2 : Int) (v3 : Int) {b : (List (List Int × Int))} (h : xs0a.t2 some xs0a.l2 v0 v1 v2 v3 = some b) : xs0a.l2 v0 v1 v2 v3 = some b := tOf_intro xs0a.un (fun _ => by kernel_rfl) (loopAtL_step ((xs0a.k2 v0 v1 v2 v3).trans ((by unfold xs0a.t2; repeat' first | exact Sub.ret | exact Sub.none | exact Sub.loop | apply Sub.cond | (apply Sub.bind; intro _) : Sub xs0a.mk _ _) b h)))
noncomputable def xs07.q1 (v0 : List (List Int × Int)) (v1 : Int) (v2 : Int) (v3 : Int) (v4 : Int) : Option R := loopAtL E (callT E tab) 241 Try.f241 5 [.r, .b] (⟨(.val .one), [.d .sha (.sl (.pair (.sl (.int .i64)) (.int .i64))) v0], true, false, false, 0, 0⟩ :: vc (iL v1) :: vc (iL v2) :: vc (iL v3) :: nn 6 (vc (iL v4) :: nn 27 ([])))
noncomputable def xs07.l1 (v0 : List (List Int × Int)) (v1 : Int) (v2 : Int) (v3 : Int) (v4 : Int) : Option ((List (List Int × Int))) := tOf xs07.mk (xs07.q1 v0 v1 v2 v3 v4)
noncomputable def xs07.t {γ : Type} (ret : ((List (List Int × Int))) → Option γ) (lp1 : (List (List Int × Int)) → Int → Int → Int → Int → Option γ) (v0 : List (List Int × Int)) (v1 : Int) (v2 : Int) (v3 : Int) : Option γ :=
 lp1 (v0) (v1) (v2) (v3) ((0 : Int))
noncomputable def xs07.t1 {γ : Type} (ret : ((List (List Int × Int))) → Option γ) (lp1 : (List (List Int × Int)) → Int → Int → Int → Int → Option γ) (v0 : List (List Int × Int)) (v1 : Int) (v2 : Int) (v3 : Int) (v4 : Int) : Option γ :=
 bif decide (v4 < v3) then
  bif decide ((0 : Int) ≤ IntKind.i64.wrap (v2 + v4)) then
   bif decide ((IntKind.i64.wrap (v2 + v4)).toNat < v0.length) then
    bif decide ((IntKind.i64.wrap (v2 + v4)).toNat < v0.length) then
     bif decide ((0 : Int) ≤ IntKind.i64.wrap (v1 + v4)) then
      bif decide ((IntKind.i64.wrap (v1 + v4)).toNat < v0.length) then
       bif decide ((IntKind.i64.wrap (v1 + v4)).toNat < v0.length) then
        bif decide ((0 : Int) ≤ IntKind.i64.wrap (v1 + v4)) then
         bif decide ((IntKind.i64.wrap (v1 + v4)).toNat < v0.length) then
          bif decide ((IntKind.i64.wrap (v1 + v4)).toNat < v0.length) then
           bif decide ((0 : Int) ≤ IntKind.i64.wrap (v2 + v4)) then
            bif decide   ((IntKind.i64.wrap (v2 + v4)).toNat <     (v0.set (IntKind.i64.wrap (v1 + v4)).toNat         ((v0.getD (IntKind.i64.wrap (v2 + v4)).toNat ([], (0 : Int))).fst,           (v0.getD (IntKind.i64.wrap (v2 + v4)).toNat ([], (0 : Int))).snd)).length) then
             bif decide   ((IntKind.i64.wrap (v2 + v4)).toNat <     (v0.set (IntKind.i64.wrap (v1 + v4)).toNat         ((v0.getD (IntKind.i64.wrap (v2 + v4)).toNat ([], (0 : Int))).fst,           (v0.getD (IntKind.i64.wrap (v2 + v4)).toNat ([], (0 : Int))).snd)).length) then
              lp1 ((v0.set (IntKind.i64.wrap (v1 + v4)).toNat       ((v0.getD (IntKind.i64.wrap (v2 + v4)).toNat ([], (0 : Int))).fst,         (v0.getD (IntKind.i64.wrap (v2 + v4)).toNat ([], (0 : Int))).snd)).set   (IntKind.i64.wrap (v2 + v4)).toNat   ((v0.getD (IntKind.i64.wrap (v1 + v4)).toNat ([], (0 : Int))).fst,     (v0.getD (IntKind.i64.wrap (v1 + v4)).toNat ([], (0 : Int))).snd)) (v1) (v2) (v3) (IntKind.i64.wrap (v4 + (1 : Int)))
             else
              none
            else
             none
           else
            none
          else
           none
         else
          none
        else
         none
       else
        none
      else
       none
     else
      none
    else
     none
   else
    none
  else
   none
 else
  ret (v0)
theorem xs07.k (v0 : List (List Int × Int)) (v1 : Int) (v2 : Int) (v3 : Int) : topL E (callT E tab) 241 Try.f241 (xs07.c v0 v1 v2 v3) = xs07.t (fun b => some (xs07.mk b)) xs07.q1 v0 v1 v2 v3 := by kernel_rfl
theorem xs07.k1 (v0 : List (List Int × Int)) (v1 : Int) (v2 : Int) (v3 : Int) (v4 : Int) : roundL E (callT E tab) 241 Try.f241 5 [.r, .b] (⟨(.val .one), [.d .sha (.sl (.pair (.sl (.int .i64)) (.int .i64))) v0], true, false, false, 0, 0⟩ :: vc (iL v1) :: vc (iL v2) :: vc (iL v3) :: nn 6 (vc (iL v4) :: nn 27 ([]))) = xs07.t1 (fun b => some (xs07.mk b)) xs07.q1 v0 v1 v2 v3 v4 := by kernel_rfl
theorem xs07.eq (v0 : List (List Int × Int)) (v1 : Int) (v2 : Int) (v3 : Int) {b : (List (List Int × Int))} (h : xs07.t some xs07.l1 v0 v1 v2 v3 = some b) : xs07 v0 v1 v2 v3 = some b := tOf_intro xs07.un (fun _ => by kernel_rfl) (vlim_fn (callT_le E tab) rfl rfl rfl ((xs07.k v0 v1 v2 v3).trans ((by unfold xs07.t; repeat' first | exact Sub.ret | exact Sub.none | exact Sub.loop | apply Sub.cond | (apply Sub.bind; intro _) : Sub xs07.mk _ _) b h)))
theorem xs07.eq1 (v0 : List (List Int × Int)) (v1 : Int) (v2 : Int) (v3 : Int) (v4 : Int) {b : (List (List Int × Int))} (h : xs07.t1 some xs07.l1 v0 v1 v2 v3 v4 = some b) : xs07.l1 v0 v1 v2 v3 v4 = some b := tOf_intro xs07.un (fun _ => by kernel_rfl) (loopAtL_step ((xs07.k1 v0 v1 v2 v3 v4).trans ((by unfold xs07.t1; repeat' first | exact Sub.ret | exact Sub.none | exact Sub.loop | apply Sub.cond | (apply Sub.bind; intro _) : Sub xs07.mk _ _) b h)))
noncomputable def xi0s.t {γ : Type} (ret : (Int × (List (List Int × Int))) → Option γ) (v0 : Int) (v1 : List (List Int × Int)) : Option γ :=
 (xi0h (v0) (v1)).bind fun (r0 : Int × (List (List Int × Int))) =>
 ret (r0.fst, r0.snd)
theorem xi0s.k (v0 : Int) (v1 : List (List Int × Int)) : topL E (callT E tab) 106 Try.f106 (xi0s.c v0 v1) = xi0s.t (fun b => some (xi0s.mk b)) v0 v1 := by kernel_rfl
theorem xi0s.eq (v0 : Int) (v1 : List (List Int × Int)) {b : Int × (List (List Int × Int))} (h : xi0s.t some v0 v1 = some b) : xi0s v0 v1 = some b := tOf_intro xi0s.un (fun _ => by kernel_rfl) (vlim_fn (callT_le E tab) rfl rfl rfl ((xi0s.k v0 v1).trans ((by unfold xi0s.t; repeat' first | exact Sub.ret | exact Sub.none | exact Sub.loop | apply Sub.cond | (apply Sub.bind; intro _) : Sub xi0s.mk _ _) b h)))
noncomputable def xi0h.q3 (v0 : Int) (v1 : List (List Int × Int)) (v2 : Int) (v3 : List (List Int × Int)) (v4 : List (List Int × Int)) (v5 : Int) (v6 : Int) : Option R := loopAtL E (callT E tab) 122 Try.f122 2 [.r, .r, .l, .r, .b] (nn 1 (vc (.fn 172 []) :: nn 2 (⟨(.box false), [iL v0, .d .deep (.sl (.pair (.sl (.int .i64)) (.int .i64))) v1], false, false, false, 0, 0⟩ :: ⟨(.box false), [iL v2, .d .deep (.sl (.pair (.sl (.int .i64)) (.int .i64))) v3], false, false, false, 0, 0⟩ :: nn 7 (vc (.d .fro (.sl (.pair (.sl (.int .i64)) (.int .i64))) v4) :: vc (iL v5) :: vc (iL v6) :: nn 20 ([])))))
noncomputable def xi0h.l3 (v0 : Int) (v1 : List (List Int × Int)) (v2 : Int) (v3 : List (List Int × Int)) (v4 : List (List Int × Int)) (v5 : Int) (v6 : Int) : Option (Int × (List (List Int × Int))) := tOf xi0h.mk (xi0h.q3 v0 v1 v2 v3 v4 v5 v6)
noncomputable def xi0h.t {γ : Type} (ret : (Int × (List (List Int × Int))) → Option γ) (lp3 : Int → (List (List Int × Int)) → Int → (List (List Int × Int)) → (List (List Int × Int)) → Int → Int → Option γ) (v0 : Int) (v1 : List (List Int × Int)) : Option γ :=
 lp3 ((0 : Int)) ([]) (v0) ([]) (v1) ((↑v1.length : Int)) ((0 : Int))
noncomputable def xi0h.t3 {γ : Type} (ret : (Int × (List (List Int × Int))) → Option γ) (lp3 : Int → (List (List Int × Int)) → Int → (List (List Int × Int)) → (List (List Int × Int)) → Int → Int → Option γ) (v0 : Int) (v1 : List (List Int × Int)) (v2 : Int) (v3 : List (List Int × Int)) (v4 : List (List Int × Int)) (v5 : Int) (v6 : Int) : Option γ :=
 bif decide (v6 < v5) then
  bif decide ((0 : Int) ≤ v6) then
   bif decide (v6.toNat < v4.length) then
    (xi0o ((v4.getD v6.toNat ([], (0 : Int))).fst) ((v4.getD v6.toNat ([], (0 : Int))).snd)).bind fun (r0 : Int) =>
    bif r0 != (0 : Int) then
     (impl_Row_own ((v4.getD v6.toNat ([], (0 : Int))).fst)).bind fun (r1 : (List Int)) =>
     bif decide (v3.length + [(r1, r0)].length ≤ (4294967296 : Nat)) then
      lp3 (v0) (v1) (v2) (v3 ++ [(r1, r0)]) (v4) (v5) (IntKind.i64.wrap (v6 + (1 : Int)))
     else
      none
    else
     lp3 (v0) (v1) (v2) (v3) (v4) (v5) (IntKind.i64.wrap (v6 + (1 : Int)))
   else
    none
  else
   none
 else
  ret (v2, v3)
theorem xi0h.k (v0 : Int) (v1 : List (List Int × Int)) : topL E (callT E tab) 122 Try.f122 (xi0h.c v0 v1) = xi0h.t (fun b => some (xi0h.mk b)) xi0h.q3 v0 v1 := by kernel_rfl
theorem xi0h.k3 (v0 : Int) (v1 : List (List Int × Int)) (v2 : Int) (v3 : List (List Int × Int)) (v4 : List (List Int × Int)) (v5 : Int) (v6 : Int) : roundL E (callT E tab) 122 Try.f122 2 [.r, .r, .l, .r, .b] (nn 1 (vc (.fn 172 []) :: nn 2 (⟨(.box false), [iL v0, .d .deep (.sl (.pair (.sl (.int .i64)) (.int .i64))) v1], false, false, false, 0, 0⟩ :: ⟨(.box false), [iL v2, .d .deep (.sl (.pair (.sl (.int .i64)) (.int .i64))) v3], false, false, false, 0, 0⟩ :: nn 7 (vc (.d .fro (.sl (.pair (.sl (.int .i64)) (.int .i64))) v4) :: vc (iL v5) :: vc (iL v6) :: nn 20 ([]))))) = xi0h.t3 (fun b => some (xi0h.mk b)) xi0h.q3 v0 v1 v2 v3 v4 v5 v6 := by kernel_rfl
theorem xi0h.eq (v0 : Int) (v1 : List (List Int × Int)) {b : Int × (List (List Int × Int))} (h : xi0h.t some xi0h.l3 v0 v1 = some b) : xi0h v0 v1 = some b := tOf_intro xi0h.un (fun _ => by kernel_rfl) (vlim_fn (callT_le E tab) rfl rfl rfl ((xi0h.k v0 v1).trans ((by unfold xi0h.t; repeat' first | exact Sub.ret | exact Sub.none | exact Sub.loop | apply Sub.cond | (apply Sub.bind; intro _) : Sub xi0h.mk _ _) b h)))
theorem xi0h.eq3 (v0 : Int) (v1 : List (List Int × Int)) (v2 : Int) (v3 : List (List Int × Int)) (v4 : List (List Int × Int)) (v5 : Int) (v6 : Int) {b : Int × (List (List Int × Int))} (h : xi0h.t3 some xi0h.l3 v0 v1 v2 v3 v4 v5 v6 = some b) : xi0h.l3 v0 v1 v2 v3 v4 v5 v6 = some b := tOf_intro xi0h.un (fun _ => by kernel_rfl) (loopAtL_step ((xi0h.k3 v0 v1 v2 v3 v4 v5 v6).trans ((by unfold xi0h.t3; repeat' first | exact Sub.ret | exact Sub.none | exact Sub.loop | apply Sub.cond | (apply Sub.bind; intro _) : Sub xi0h.mk _ _) b h)))
noncomputable def xi0o.t {γ : Type} (ret : (Int) → Option γ) (v0 : List Int) (v1 : Int) : Option γ :=
 (impl_one (v1)).bind fun (r0 : Int) =>
 ret (r0)
theorem xi0o.k (v0 : List Int) (v1 : Int) : topL E (callT E tab) 172 Try.f172 (xi0o.c v0 v1) = xi0o.t (fun b => some (xi0o.mk b)) v0 v1 := by kernel_rfl
theorem xi0o.eq (v0 : List Int) (v1 : Int) {b : Int} (h : xi0o.t some v0 v1 = some b) : xi0o v0 v1 = some b := tOf_intro xi0o.un (fun _ => by kernel_rfl) (vlim_fn (callT_le E tab) rfl rfl rfl ((xi0o.k v0 v1).trans ((by unfold xi0o.t; repeat' first | exact Sub.ret | exact Sub.none | exact Sub.loop | apply Sub.cond | (apply Sub.bind; intro _) : Sub xi0o.mk _ _) b h)))
noncomputable def impl_one.t {γ : Type} (ret : (Int) → Option γ) (v0 : Int) : Option γ :=
 bif decide (v0 > (0 : Int)) then
  ret ((1 : Int))
 else
  ret ((0 : Int))
theorem impl_one.k (v0 : Int) : topL E (callT E tab) 125 Try.f125 (impl_one.c v0) = impl_one.t (fun b => some (impl_one.mk b)) v0 := by kernel_rfl
theorem impl_one.eq (v0 : Int) {b : Int} (h : impl_one.t some v0 = some b) : impl_one v0 = some b := tOf_intro impl_one.un (fun _ => by kernel_rfl) (vlim_fn (callT_le E tab) rfl rfl rfl ((impl_one.k v0).trans ((by unfold impl_one.t; repeat' first | exact Sub.ret | exact Sub.none | exact Sub.loop | apply Sub.cond | (apply Sub.bind; intro _) : Sub impl_one.mk _ _) b h)))
noncomputable def laws_eqTableau.t {γ : Type} (ret : (Bool) → Option γ) (v0 : Int) (v1 : List (List Int)) (v2 : Int) (v3 : List (List Int)) : Option γ :=
 bif v0 != v2 then
  ret (Bool.false)
 else
  (laws_eqRowS (v1) (v3)).bind fun (r0 : Bool) =>
  bif !r0 then
   ret (Bool.false)
  else
   ret (Bool.true)
theorem laws_eqTableau.k (v0 : Int) (v1 : List (List Int)) (v2 : Int) (v3 : List (List Int)) : topL E (callT E tab) 37 Try.f37 (laws_eqTableau.c v0 v1 v2 v3) = laws_eqTableau.t (fun b => some (laws_eqTableau.mk b)) v0 v1 v2 v3 := by kernel_rfl
theorem laws_eqTableau.eq (v0 : Int) (v1 : List (List Int)) (v2 : Int) (v3 : List (List Int)) {b : Bool} (h : laws_eqTableau.t some v0 v1 v2 v3 = some b) : laws_eqTableau v0 v1 v2 v3 = some b := tOf_intro laws_eqTableau.un (fun _ => by kernel_rfl) (vlim_fn (callT_le E tab) rfl rfl rfl ((laws_eqTableau.k v0 v1 v2 v3).trans ((by unfold laws_eqTableau.t; repeat' first | exact Sub.ret | exact Sub.none | exact Sub.loop | apply Sub.cond | (apply Sub.bind; intro _) : Sub laws_eqTableau.mk _ _) b h)))
noncomputable def laws_eqRowS.q4 (v0 : List (List Int)) (v1 : List (List Int)) (v2 : Int) : Option R := loopAtL E (callT E tab) 97 Try.f97 2 [.r, .r, .l, .r, .b] (vc (.d .fro (.sl (.sl (.int .i64))) v0) :: vc (.d .fro (.sl (.sl (.int .i64))) v1) :: nn 3 (vc (iL v2) :: nn 21 ([])))
noncomputable def laws_eqRowS.l4 (v0 : List (List Int)) (v1 : List (List Int)) (v2 : Int) : Option (Bool) := tOf laws_eqRowS.mk (laws_eqRowS.q4 v0 v1 v2)
noncomputable def laws_eqRowS.t {γ : Type} (ret : (Bool) → Option γ) (lp4 : (List (List Int)) → (List (List Int)) → Int → Option γ) (v0 : List (List Int)) (v1 : List (List Int)) : Option γ :=
 bif (↑v0.length : Int) != (↑v1.length : Int) then
  ret (Bool.false)
 else
  lp4 (v0) (v1) ((0 : Int))
noncomputable def laws_eqRowS.t4 {γ : Type} (ret : (Bool) → Option γ) (lp4 : (List (List Int)) → (List (List Int)) → Int → Option γ) (v0 : List (List Int)) (v1 : List (List Int)) (v2 : Int) : Option γ :=
 bif decide (v2 < (↑v0.length : Int)) then
  bif decide ((0 : Int) ≤ v2) then
   bif decide (v2.toNat < v0.length) then
    bif decide ((0 : Int) ≤ v2) then
     bif decide (v2.toNat < v1.length) then
      (laws_eqRow (v0.getD v2.toNat []) (v1.getD v2.toNat [])).bind fun (r0 : Bool) =>
      bif !r0 then
       ret (Bool.false)
      else
       lp4 (v0) (v1) (IntKind.i64.wrap (v2 + (1 : Int)))
     else
      none
    else
     none
   else
    none
  else
   none
 else
  ret (Bool.true)
theorem laws_eqRowS.k (v0 : List (List Int)) (v1 : List (List Int)) : topL E (callT E tab) 97 Try.f97 (laws_eqRowS.c v0 v1) = laws_eqRowS.t (fun b => some (laws_eqRowS.mk b)) laws_eqRowS.q4 v0 v1 := by kernel_rfl
theorem laws_eqRowS.k4 (v0 : List (List Int)) (v1 : List (List Int)) (v2 : Int) : roundL E (callT E tab) 97 Try.f97 2 [.r, .r, .l, .r, .b] (vc (.d .fro (.sl (.sl (.int .i64))) v0) :: vc (.d .fro (.sl (.sl (.int .i64))) v1) :: nn 3 (vc (iL v2) :: nn 21 ([]))) = laws_eqRowS.t4 (fun b => some (laws_eqRowS.mk b)) laws_eqRowS.q4 v0 v1 v2 := by kernel_rfl
theorem laws_eqRowS.eq (v0 : List (List Int)) (v1 : List (List Int)) {b : Bool} (h : laws_eqRowS.t some laws_eqRowS.l4 v0 v1 = some b) : laws_eqRowS v0 v1 = some b := tOf_intro laws_eqRowS.un (fun _ => by kernel_rfl) (vlim_fn (callT_le E tab) rfl rfl rfl ((laws_eqRowS.k v0 v1).trans ((by unfold laws_eqRowS.t; repeat' first | exact Sub.ret | exact Sub.none | exact Sub.loop | apply Sub.cond | (apply Sub.bind; intro _) : Sub laws_eqRowS.mk _ _) b h)))
theorem laws_eqRowS.eq4 (v0 : List (List Int)) (v1 : List (List Int)) (v2 : Int) {b : Bool} (h : laws_eqRowS.t4 some laws_eqRowS.l4 v0 v1 v2 = some b) : laws_eqRowS.l4 v0 v1 v2 = some b := tOf_intro laws_eqRowS.un (fun _ => by kernel_rfl) (loopAtL_step ((laws_eqRowS.k4 v0 v1 v2).trans ((by unfold laws_eqRowS.t4; repeat' first | exact Sub.ret | exact Sub.none | exact Sub.loop | apply Sub.cond | (apply Sub.bind; intro _) : Sub laws_eqRowS.mk _ _) b h)))
noncomputable def xl0q.t {γ : Type} (ret : (Int × Int × (List (List Int))) → Option γ) (v0 : Int) (v1 : List (List Int)) (v2 : Int) : Option γ :=
 (laws_markRowS_1f6 (v1) (v2)).bind fun (r0 : Int × (List (List Int))) =>
 ret (r0.fst, v0, r0.snd)
theorem xl0q.k (v0 : Int) (v1 : List (List Int)) (v2 : Int) : topL E (callT E tab) 39 Try.f39 (xl0q.c v0 v1 v2) = xl0q.t (fun b => some (xl0q.mk b)) v0 v1 v2 := by kernel_rfl
theorem xl0q.eq (v0 : Int) (v1 : List (List Int)) (v2 : Int) {b : Int × Int × (List (List Int))} (h : xl0q.t some v0 v1 v2 = some b) : xl0q v0 v1 v2 = some b := tOf_intro xl0q.un (fun _ => by kernel_rfl) (vlim_fn (callT_le E tab) rfl rfl rfl ((xl0q.k v0 v1 v2).trans ((by unfold xl0q.t; repeat' first | exact Sub.ret | exact Sub.none | exact Sub.loop | apply Sub.cond | (apply Sub.bind; intro _) : Sub xl0q.mk _ _) b h)))
noncomputable def laws_markRowS_1f6.q2 (v0 : List (List Int)) (v1 : Int) (v2 : Int) : Option R := loopAtL E (callT E tab) 99 Try.f99 2 [.r, .l, .r, .b] (⟨(.val .one), [.d .deep (.sl (.sl (.int .i64))) v0], true, false, false, 0, 0⟩ :: vc (iL v1) :: nn 3 (vc (iL v2) :: nn 14 ([])))
noncomputable def laws_markRowS_1f6.l2 (v0 : List (List Int)) (v1 : Int) (v2 : Int) : Option (Int × (List (List Int))) := tOf laws_markRowS_1f6.mk (laws_markRowS_1f6.q2 v0 v1 v2)
noncomputable def laws_markRowS_1f6.t {γ : Type} (ret : (Int × (List (List Int))) → Option γ) (lp2 : (List (List Int)) → Int → Int → Option γ) (v0 : List (List Int)) (v1 : Int) : Option γ :=
 lp2 (v0) (v1) ((0 : Int))
noncomputable def laws_markRowS_1f6.t2 {γ : Type} (ret : (Int × (List (List Int))) → Option γ) (lp2 : (List (List Int)) → Int → Int → Option γ) (v0 : List (List Int)) (v1 : Int) (v2 : Int) : Option γ :=
 bif decide (v2 < (↑v0.length : Int)) then
  bif decide ((0 : Int) ≤ v2) then
   bif decide (v2.toNat < v0.length) then
    bif decide (v2.toNat < v0.length) then
     bif decide (v2.toNat < v0.length) then
      (laws_markIntS_83f (v0.getD v2.toNat []) (v1)).bind fun (r0 : Int × (List Int)) =>
      bif decide (v2.toNat = v2.toNat) &&   (decide ((0 : Nat) + (0 : Nat) = (0 : Nat) + (0 : Nat)) && decide ((1 : Nat) = (1 : Nat))) then
       bif decide (v2.toNat < v0.length) then
        lp2 (v0.set v2.toNat r0.snd) (r0.fst) (IntKind.i64.wrap (v2 + (1 : Int)))
       else
        none
      else
       none
     else
      none
    else
     none
   else
    none
  else
   none
 else
  ret (v1, v0)
theorem laws_markRowS_1f6.k (v0 : List (List Int)) (v1 : Int) : topL E (callT E tab) 99 Try.f99 (laws_markRowS_1f6.c v0 v1) = laws_markRowS_1f6.t (fun b => some (laws_markRowS_1f6.mk b)) laws_markRowS_1f6.q2 v0 v1 := by kernel_rfl
theorem laws_markRowS_1f6.k2 (v0 : List (List Int)) (v1 : Int) (v2 : Int) : roundL E (callT E tab) 99 Try.f99 2 [.r, .l, .r, .b] (⟨(.val .one), [.d .deep (.sl (.sl (.int .i64))) v0], true, false, false, 0, 0⟩ :: vc (iL v1) :: nn 3 (vc (iL v2) :: nn 14 ([]))) = laws_markRowS_1f6.t2 (fun b => some (laws_markRowS_1f6.mk b)) laws_markRowS_1f6.q2 v0 v1 v2 := by kernel_rfl
theorem laws_markRowS_1f6.eq (v0 : List (List Int)) (v1 : Int) {b : Int × (List (List Int))} (h : laws_markRowS_1f6.t some laws_markRowS_1f6.l2 v0 v1 = some b) : laws_markRowS_1f6 v0 v1 = some b := tOf_intro laws_markRowS_1f6.un (fun _ => by kernel_rfl) (vlim_fn (callT_le E tab) rfl rfl rfl ((laws_markRowS_1f6.k v0 v1).trans ((by unfold laws_markRowS_1f6.t; repeat' first | exact Sub.ret | exact Sub.none | exact Sub.loop | apply Sub.cond | (apply Sub.bind; intro _) : Sub laws_markRowS_1f6.mk _ _) b h)))
theorem laws_markRowS_1f6.eq2 (v0 : List (List Int)) (v1 : Int) (v2 : Int) {b : Int × (List (List Int))} (h : laws_markRowS_1f6.t2 some laws_markRowS_1f6.l2 v0 v1 v2 = some b) : laws_markRowS_1f6.l2 v0 v1 v2 = some b := tOf_intro laws_markRowS_1f6.un (fun _ => by kernel_rfl) (loopAtL_step ((laws_markRowS_1f6.k2 v0 v1 v2).trans ((by unfold laws_markRowS_1f6.t2; repeat' first | exact Sub.ret | exact Sub.none | exact Sub.loop | apply Sub.cond | (apply Sub.bind; intro _) : Sub laws_markRowS_1f6.mk _ _) b h)))
end GoV
