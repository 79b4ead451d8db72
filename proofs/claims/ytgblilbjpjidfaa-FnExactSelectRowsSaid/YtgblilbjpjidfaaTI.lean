/- A part of the proof of FnExactSelectRows: an interpreter of the model over plain data, its soundness, and what it makes of the functions that the statement reaches. Conditions: none beyond what the given statement itself says. -/
import Derived.Test.YtgblilbjpjidfaaTH
set_option linter.unusedVariables false
set_option linter.unusedSimpArgs false
set_option linter.unnecessarySimpa false
set_option linter.unusedSectionVars false
/- The functions of the program, each told by what it answers in the end (printed by wip/tools/emit.py). -/
namespace GoV
open Go Go.Proofs
set_option maxRecDepth 100000

def laws_szTable.c (v0 : Int) (v1 : List (List Int × Int)) (v2 : Int) : List Cell := ac [iL v0, .d .fro (.sl (.pair (.sl (.int .i64)) (.int .i64))) v1] :: vc (iL v2) :: []
def laws_szTable.mk (b : Int) : R := (⟨.one, [iL b]⟩, nn 2 ([]))
def laws_szTable.un (r : R) : Int := ((leafR r 0).dat (.int .i64))
noncomputable def laws_szTable (v0 : Int) (v1 : List (List Int × Int)) (v2 : Int) : Option (Int) := tOf laws_szTable.mk (vlim E 15 (laws_szTable.c v0 v1 v2))
def laws_szWeightedS.c (v0 : List (List Int × Int)) (v1 : Int) : List Cell := vc (.d .fro (.sl (.pair (.sl (.int .i64)) (.int .i64))) v0) :: vc (iL v1) :: []
def laws_szWeightedS.mk (b : Int) : R := (⟨.one, [iL b]⟩, nn 2 ([]))
def laws_szWeightedS.un (r : R) : Int := ((leafR r 0).dat (.int .i64))
noncomputable def laws_szWeightedS (v0 : List (List Int × Int)) (v1 : Int) : Option (Int) := tOf laws_szWeightedS.mk (vlim E 36 (laws_szWeightedS.c v0 v1))
def laws_szWeighted.c (v0 : List Int) (v1 : Int) (v2 : Int) : List Cell := ac [.d .fro (.sl (.int .i64)) v0, iL v1] :: vc (iL v2) :: []
def laws_szWeighted.mk (b : Int) : R := (⟨.one, [iL b]⟩, nn 2 ([]))
def laws_szWeighted.un (r : R) : Int := ((leafR r 0).dat (.int .i64))
noncomputable def laws_szWeighted (v0 : List Int) (v1 : Int) (v2 : Int) : Option (Int) := tOf laws_szWeighted.mk (vlim E 83 (laws_szWeighted.c v0 v1 v2))
def laws_szRow.c (v0 : List Int) (v1 : Int) : List Cell := ac [.d .fro (.sl (.int .i64)) v0] :: vc (iL v1) :: []
def laws_szRow.mk (b : Int) : R := (⟨.one, [iL b]⟩, nn 2 ([]))
def laws_szRow.un (r : R) : Int := ((leafR r 0).dat (.int .i64))
noncomputable def laws_szRow (v0 : List Int) (v1 : Int) : Option (Int) := tOf laws_szRow.mk (vlim E 123 (laws_szRow.c v0 v1))
def laws_szIntS.c (v0 : List Int) (v1 : Int) : List Cell := vc (.d .fro (.sl (.int .i64)) v0) :: vc (iL v1) :: []
def laws_szIntS.mk (b : Int) : R := (⟨.one, [iL b]⟩, nn 2 ([]))
def laws_szIntS.un (r : R) : Int := ((leafR r 0).dat (.int .i64))
noncomputable def laws_szIntS (v0 : List Int) (v1 : Int) : Option (Int) := tOf laws_szIntS.mk (vlim E 100 (laws_szIntS.c v0 v1))
def laws_toTable.c (v0 : Int) (v1 : List (List Int × Int)) : List Cell := ac [iL v0, .d .fro (.sl (.pair (.sl (.int .i64)) (.int .i64))) v1] :: []
def laws_toTable.mk (b : Int × (List (List Int × Int))) : R := (⟨.agg, [iL b.1, .d .deep (.sl (.pair (.sl (.int .i64)) (.int .i64))) b.2]⟩, nn 1 ([]))
def laws_toTable.un (r : R) : Int × (List (List Int × Int)) := ((leafR r 0).dat (.int .i64), (leafR r 1).dat (.sl (.pair (.sl (.int .i64)) (.int .i64))))
noncomputable def laws_toTable (v0 : Int) (v1 : List (List Int × Int)) : Option (Int × (List (List Int × Int))) := tOf laws_toTable.mk (vlim E 17 (laws_toTable.c v0 v1))
def laws_toWeightedS.c (v0 : List (List Int × Int)) : List Cell := vc (.d .fro (.sl (.pair (.sl (.int .i64)) (.int .i64))) v0) :: []
def laws_toWeightedS.mk (b : (List (List Int × Int))) : R := (⟨.one, [.d .deep (.sl (.pair (.sl (.int .i64)) (.int .i64))) b]⟩, nn 1 ([]))
def laws_toWeightedS.un (r : R) : (List (List Int × Int)) := ((leafR r 0).dat (.sl (.pair (.sl (.int .i64)) (.int .i64))))
noncomputable def laws_toWeightedS (v0 : List (List Int × Int)) : Option ((List (List Int × Int))) := tOf laws_toWeightedS.mk (vlim E 38 (laws_toWeightedS.c v0))
def laws_toWeighted.c (v0 : List Int) (v1 : Int) : List Cell := ac [.d .fro (.sl (.int .i64)) v0, iL v1] :: []
def laws_toWeighted.mk (b : (List Int) × Int) : R := (⟨.agg, [.d .deep (.sl (.int .i64)) b.1, iL b.2]⟩, nn 1 ([]))
def laws_toWeighted.un (r : R) : (List Int) × Int := ((leafR r 0).dat (.sl (.int .i64)), (leafR r 1).dat (.int .i64))
noncomputable def laws_toWeighted (v0 : List Int) (v1 : Int) : Option ((List Int) × Int) := tOf laws_toWeighted.mk (vlim E 87 (laws_toWeighted.c v0 v1))
def laws_toRow.c (v0 : List Int) : List Cell := ac [.d .fro (.sl (.int .i64)) v0] :: []
def laws_toRow.mk (b : (List Int)) : R := (⟨.agg, [.d .deep (.sl (.int .i64)) b]⟩, nn 1 ([]))
def laws_toRow.un (r : R) : (List Int) := ((leafR r 0).dat (.sl (.int .i64)))
noncomputable def laws_toRow (v0 : List Int) : Option ((List Int)) := tOf laws_toRow.mk (vlim E 124 (laws_toRow.c v0))
def laws_toIntS.c (v0 : List Int) : List Cell := vc (.d .fro (.sl (.int .i64)) v0) :: []
def laws_toIntS.mk (b : (List Int)) : R := (⟨.one, [.d .deep (.sl (.int .i64)) b]⟩, nn 1 ([]))
def laws_toIntS.un (r : R) : (List Int) := ((leafR r 0).dat (.sl (.int .i64)))
noncomputable def laws_toIntS (v0 : List Int) : Option ((List Int)) := tOf laws_toIntS.mk (vlim E 45 (laws_toIntS.c v0))
def spec_GoodTable.c (v0 : Int) (v1 : List (List Int × Int)) : List Cell := ac [iL v0, .d .fro (.sl (.pair (.sl (.int .i64)) (.int .i64))) v1] :: []
def spec_GoodTable.mk (b : Bool) : R := (⟨.one, [bL b]⟩, nn 1 ([]))
def spec_GoodTable.un (r : R) : Bool := ((leafR r 0).dat .bool)
noncomputable def spec_GoodTable (v0 : Int) (v1 : List (List Int × Int)) : Option (Bool) := tOf spec_GoodTable.mk (vlim E 59 (spec_GoodTable.c v0 v1))
def spec_GoodRow.c (v0 : List Int) : List Cell := ac [.d .fro (.sl (.int .i64)) v0] :: []
def spec_GoodRow.mk (b : Bool) : R := (⟨.one, [bL b]⟩, nn 1 ([]))
def spec_GoodRow.un (r : R) : Bool := ((leafR r 0).dat .bool)
noncomputable def spec_GoodRow (v0 : List Int) : Option (Bool) := tOf spec_GoodRow.mk (vlim E 84 (spec_GoodRow.c v0))
def spec_l1In.c (v0 : Int) (v1 : Int) (v2 : Int) : List Cell := vc (iL v0) :: vc (iL v1) :: vc (iL v2) :: []
def spec_l1In.mk (b : Bool) : R := (⟨.one, [bL b]⟩, nn 3 ([]))
def spec_l1In.un (r : R) : Bool := ((leafR r 0).dat .bool)
noncomputable def spec_l1In (v0 : Int) (v1 : Int) (v2 : Int) : Option (Bool) := tOf spec_l1In.mk (vlim E 65 (spec_l1In.c v0 v1 v2))
def spec_l2Weight.c (v0 : Int) : List Cell := vc (iL v0) :: []
def spec_l2Weight.mk (b : Bool) : R := (⟨.one, [bL b]⟩, nn 1 ([]))
def spec_l2Weight.un (r : R) : Bool := ((leafR r 0).dat .bool)
noncomputable def spec_l2Weight (v0 : Int) : Option (Bool) := tOf spec_l2Weight.mk (vlim E 85 (spec_l2Weight.c v0))
def spec_l1Compare.c (v0 : List Int) (v1 : List Int) : List Cell := ac [.d .fro (.sl (.int .i64)) v0] :: ac [.d .fro (.sl (.int .i64)) v1] :: []
def spec_l1Compare.mk (b : Int) : R := (⟨.one, [iL b]⟩, nn 2 ([]))
def spec_l1Compare.un (r : R) : Int := ((leafR r 0).dat (.int .i64))
noncomputable def spec_l1Compare (v0 : List Int) (v1 : List Int) : Option (Int) := tOf spec_l1Compare.mk (vlim E 106 (spec_l1Compare.c v0 v1))
def spec_l2Tell.c (v0 : Int) (v1 : List (List Int × Int)) : List Cell := vc (iL v0) :: vc (.d .fro (.sl (.pair (.sl (.int .i64)) (.int .i64))) v1) :: []
def spec_l2Tell.mk (b : Int × (List (List Int × Int)) × Bool) : R := (⟨(.tup [some 2, none]), [iL b.1, .d .deep (.sl (.pair (.sl (.int .i64)) (.int .i64))) b.2.1, bL b.2.2]⟩, nn 2 ([]))
def spec_l2Tell.un (r : R) : Int × (List (List Int × Int)) × Bool := ((leafR r 0).dat (.int .i64), (leafR r 1).dat (.sl (.pair (.sl (.int .i64)) (.int .i64))), (leafR r 2).dat .bool)
noncomputable def spec_l2Tell (v0 : Int) (v1 : List (List Int × Int)) : Option (Int × (List (List Int × Int)) × Bool) := tOf spec_l2Tell.mk (vlim E 60 (spec_l2Tell.c v0 v1))
def spec_l2OwnRow.c (v0 : List Int) : List Cell := ac [.d .fro (.sl (.int .i64)) v0] :: []
def spec_l2OwnRow.mk (b : (List Int)) : R := (⟨.agg, [.d .deep (.sl (.int .i64)) b]⟩, nn 1 ([]))
def spec_l2OwnRow.un (r : R) : (List Int) := ((leafR r 0).dat (.sl (.int .i64)))
noncomputable def spec_l2OwnRow (v0 : List Int) : Option ((List Int)) := tOf spec_l2OwnRow.mk (vlim E 107 (spec_l2OwnRow.c v0))
def impl_GoodTable.c (v0 : Int) (v1 : List (List Int × Int)) : List Cell := ac [iL v0, .d .fro (.sl (.pair (.sl (.int .i64)) (.int .i64))) v1] :: []
def impl_GoodTable.mk (b : Bool) : R := (⟨.one, [bL b]⟩, nn 1 ([]))
def impl_GoodTable.un (r : R) : Bool := ((leafR r 0).dat .bool)
noncomputable def impl_GoodTable (v0 : Int) (v1 : List (List Int × Int)) : Option (Bool) := tOf impl_GoodTable.mk (vlim E 62 (impl_GoodTable.c v0 v1))
def impl_isColumns.c (v0 : Int) : List Cell := vc (iL v0) :: []
def impl_isColumns.mk (b : Bool) : R := (⟨.one, [bL b]⟩, nn 1 ([]))
def impl_isColumns.un (r : R) : Bool := ((leafR r 0).dat .bool)
noncomputable def impl_isColumns (v0 : Int) : Option (Bool) := tOf impl_isColumns.mk (vlim E 88 (impl_isColumns.c v0))
def impl_within.c (v0 : Int) (v1 : Int) (v2 : Int) : List Cell := vc (iL v0) :: vc (iL v1) :: vc (iL v2) :: []
def impl_within.mk (b : Bool) : R := (⟨.one, [bL b]⟩, nn 3 ([]))
def impl_within.un (r : R) : Bool := ((leafR r 0).dat .bool)
noncomputable def impl_within (v0 : Int) (v1 : Int) (v2 : Int) : Option (Bool) := tOf impl_within.mk (vlim E 66 (impl_within.c v0 v1 v2))
def impl_isRowOf.c (v0 : List Int) (v1 : Int) : List Cell := ac [.d .fro (.sl (.int .i64)) v0] :: vc (iL v1) :: []
def impl_isRowOf.mk (b : Bool) : R := (⟨.one, [bL b]⟩, nn 2 ([]))
def impl_isRowOf.un (r : R) : Bool := ((leafR r 0).dat .bool)
noncomputable def impl_isRowOf (v0 : List Int) (v1 : Int) : Option (Bool) := tOf impl_isRowOf.mk (vlim E 91 (impl_isRowOf.c v0 v1))
def impl_GoodRow.c (v0 : List Int) : List Cell := ac [.d .fro (.sl (.int .i64)) v0] :: []
def impl_GoodRow.mk (b : Bool) : R := (⟨.one, [bL b]⟩, nn 1 ([]))
def impl_GoodRow.un (r : R) : Bool := ((leafR r 0).dat .bool)
noncomputable def impl_GoodRow (v0 : List Int) : Option (Bool) := tOf impl_GoodRow.mk (vlim E 127 (impl_GoodRow.c v0))
def impl_areAll_int_impl_isCell.c (v0 : List Int) : List Cell := vc (.d .fro (.sl (.int .i64)) v0) :: vc (.fn 119 []) :: []
def impl_areAll_int_impl_isCell.mk (b : Bool) : R := (⟨.one, [bL b]⟩, nn 2 ([]))
def impl_areAll_int_impl_isCell.un (r : R) : Bool := ((leafR r 0).dat .bool)
noncomputable def impl_areAll_int_impl_isCell (v0 : List Int) : Option (Bool) := tOf impl_areAll_int_impl_isCell.mk (vlim E 133 (impl_areAll_int_impl_isCell.c v0))
def slices_ContainsFunc_int_int_impl_areAll_int_1_impl_isCell.c (v0 : List Int) : List Cell := vc (.d .fro (.sl (.int .i64)) v0) :: vc (.fn 149 [.rp [.fn 119 []] 0]) :: []
def slices_ContainsFunc_int_int_impl_areAll_int_1_impl_isCell.mk (b : Bool) : R := (⟨.one, [bL b]⟩, nn 2 ([]))
def slices_ContainsFunc_int_int_impl_areAll_int_1_impl_isCell.un (r : R) : Bool := ((leafR r 0).dat .bool)
noncomputable def slices_ContainsFunc_int_int_impl_areAll_int_1_impl_isCell (v0 : List Int) : Option (Bool) := tOf slices_ContainsFunc_int_int_impl_areAll_int_1_impl_isCell.mk (vlim E 148 (slices_ContainsFunc_int_int_impl_areAll_int_1_impl_isCell.c v0))
def slices_IndexFunc_int_int_impl_areAll_int_1_impl_isCell.c (v0 : List Int) : List Cell := vc (.d .fro (.sl (.int .i64)) v0) :: vc (.fn 149 [.rp [.fn 119 []] 0]) :: []
def slices_IndexFunc_int_int_impl_areAll_int_1_impl_isCell.mk (b : Int) : R := (⟨.one, [iL b]⟩, nn 2 ([]))
def slices_IndexFunc_int_int_impl_areAll_int_1_impl_isCell.un (r : R) : Int := ((leafR r 0).dat (.int .i64))
noncomputable def slices_IndexFunc_int_int_impl_areAll_int_1_impl_isCell (v0 : List Int) : Option (Int) := tOf slices_IndexFunc_int_int_impl_areAll_int_1_impl_isCell.mk (vlim E 159 (slices_IndexFunc_int_int_impl_areAll_int_1_impl_isCell.c v0))
def impl_areAll_int_1_impl_isCell.c (v0 : Int) : List Cell := vc (iL v0) :: vc (.rp [.fn 119 []] 0) :: []
def impl_areAll_int_1_impl_isCell.mk (b : Bool) : R := (⟨.one, [bL b]⟩, nn 2 ([]))
def impl_areAll_int_1_impl_isCell.un (r : R) : Bool := ((leafR r 0).dat .bool)
noncomputable def impl_areAll_int_1_impl_isCell (v0 : Int) : Option (Bool) := tOf impl_areAll_int_1_impl_isCell.mk (vlim E 149 (impl_areAll_int_1_impl_isCell.c v0))
def impl_isCell.c (v0 : Int) : List Cell := vc (iL v0) :: []
def impl_isCell.mk (b : Bool) : R := (⟨.one, [bL b]⟩, nn 1 ([]))
def impl_isCell.un (r : R) : Bool := ((leafR r 0).dat .bool)
noncomputable def impl_isCell (v0 : Int) : Option (Bool) := tOf impl_isCell.mk (vlim E 119 (impl_isCell.c v0))
def impl_isWeight.c (v0 : Int) : List Cell := vc (iL v0) :: []
def impl_isWeight.mk (b : Bool) : R := (⟨.one, [bL b]⟩, nn 1 ([]))
def impl_isWeight.un (r : R) : Bool := ((leafR r 0).dat .bool)
noncomputable def impl_isWeight (v0 : Int) : Option (Bool) := tOf impl_isWeight.mk (vlim E 92 (impl_isWeight.c v0))
def impl_compareRows.c (v0 : List Int) (v1 : List Int) : List Cell := ac [.d .fro (.sl (.int .i64)) v0] :: ac [.d .fro (.sl (.int .i64)) v1] :: []
def impl_compareRows.mk (b : Int) : R := (⟨.one, [iL b]⟩, nn 2 ([]))
def impl_compareRows.un (r : R) : Int := ((leafR r 0).dat (.int .i64))
noncomputable def impl_compareRows (v0 : List Int) (v1 : List Int) : Option (Int) := tOf impl_compareRows.mk (vlim E 108 (impl_compareRows.c v0 v1))
def slices_Compare_int_int.c (v0 : List Int) (v1 : List Int) : List Cell := vc (.d .fro (.sl (.int .i64)) v0) :: vc (.d .fro (.sl (.int .i64)) v1) :: []
def slices_Compare_int_int.mk (b : Int) : R := (⟨.one, [iL b]⟩, nn 2 ([]))
def slices_Compare_int_int.un (r : R) : Int := ((leafR r 0).dat (.int .i64))
noncomputable def slices_Compare_int_int (v0 : List Int) (v1 : List Int) : Option (Int) := tOf slices_Compare_int_int.mk (vlim E 141 (slices_Compare_int_int.c v0 v1))
def cmp_Compare_int.c (v0 : Int) (v1 : Int) : List Cell := vc (iL v0) :: vc (iL v1) :: []
def cmp_Compare_int.mk (b : Int) : R := (⟨.one, [iL b]⟩, nn 2 ([]))
def cmp_Compare_int.un (r : R) : Int := ((leafR r 0).dat (.int .i64))
noncomputable def cmp_Compare_int (v0 : Int) (v1 : Int) : Option (Int) := tOf cmp_Compare_int.mk (vlim E 155 (cmp_Compare_int.c v0 v1))
def cmp_isNaN_int.c (v0 : Int) : List Cell := vc (iL v0) :: []
def cmp_isNaN_int.mk (b : Bool) : R := (⟨.one, [bL b]⟩, nn 1 ([]))
def cmp_isNaN_int.un (r : R) : Bool := ((leafR r 0).dat .bool)
noncomputable def cmp_isNaN_int (v0 : Int) : Option (Bool) := tOf cmp_isNaN_int.mk (vlim E 163 (cmp_isNaN_int.c v0))
def impl_Row_own.c (v0 : List Int) : List Cell := ac [.d .fro (.sl (.int .i64)) v0] :: []
def impl_Row_own.mk (b : (List Int)) : R := (⟨.agg, [.d .deep (.sl (.int .i64)) b]⟩, nn 1 ([]))
def impl_Row_own.un (r : R) : (List Int) := ((leafR r 0).dat (.sl (.int .i64)))
noncomputable def impl_Row_own (v0 : List Int) : Option ((List Int)) := tOf impl_Row_own.mk (vlim E 109 (impl_Row_own.c v0))
def slices_Clone_int_int.c (v0 : List Int) : List Cell := vc (.d .fro (.sl (.int .i64)) v0) :: []
def slices_Clone_int_int.mk (b : (List Int)) : R := (⟨.one, [.d .deep (.sl (.int .i64)) b]⟩, nn 1 ([]))
def slices_Clone_int_int.un (r : R) : (List Int) := ((leafR r 0).dat (.sl (.int .i64)))
noncomputable def slices_Clone_int_int (v0 : List Int) : Option ((List Int)) := tOf slices_Clone_int_int.mk (vlim E 142 (slices_Clone_int_int.c v0))
def laws_eqTable.c (v0 : Int) (v1 : List (List Int × Int)) (v2 : Int) (v3 : List (List Int × Int)) : List Cell := ac [iL v0, .d .fro (.sl (.pair (.sl (.int .i64)) (.int .i64))) v1] :: ac [iL v2, .d .fro (.sl (.pair (.sl (.int .i64)) (.int .i64))) v3] :: []
def laws_eqTable.mk (b : Bool) : R := (⟨.one, [bL b]⟩, nn 2 ([]))
def laws_eqTable.un (r : R) : Bool := ((leafR r 0).dat .bool)
noncomputable def laws_eqTable (v0 : Int) (v1 : List (List Int × Int)) (v2 : Int) (v3 : List (List Int × Int)) : Option (Bool) := tOf laws_eqTable.mk (vlim E 19 (laws_eqTable.c v0 v1 v2 v3))
def laws_eqWeightedS.c (v0 : List (List Int × Int)) (v1 : List (List Int × Int)) : List Cell := vc (.d .fro (.sl (.pair (.sl (.int .i64)) (.int .i64))) v0) :: vc (.d .fro (.sl (.pair (.sl (.int .i64)) (.int .i64))) v1) :: []
def laws_eqWeightedS.mk (b : Bool) : R := (⟨.one, [bL b]⟩, nn 2 ([]))
def laws_eqWeightedS.un (r : R) : Bool := ((leafR r 0).dat .bool)
noncomputable def laws_eqWeightedS (v0 : List (List Int × Int)) (v1 : List (List Int × Int)) : Option (Bool) := tOf laws_eqWeightedS.mk (vlim E 40 (laws_eqWeightedS.c v0 v1))
def laws_eqWeighted.c (v0 : List Int) (v1 : Int) (v2 : List Int) (v3 : Int) : List Cell := ac [.d .fro (.sl (.int .i64)) v0, iL v1] :: ac [.d .fro (.sl (.int .i64)) v2, iL v3] :: []
def laws_eqWeighted.mk (b : Bool) : R := (⟨.one, [bL b]⟩, nn 2 ([]))
def laws_eqWeighted.un (r : R) : Bool := ((leafR r 0).dat .bool)
noncomputable def laws_eqWeighted (v0 : List Int) (v1 : Int) (v2 : List Int) (v3 : Int) : Option (Bool) := tOf laws_eqWeighted.mk (vlim E 94 (laws_eqWeighted.c v0 v1 v2 v3))
def laws_eqRow.c (v0 : List Int) (v1 : List Int) : List Cell := ac [.d .fro (.sl (.int .i64)) v0] :: ac [.d .fro (.sl (.int .i64)) v1] :: []
def laws_eqRow.mk (b : Bool) : R := (⟨.one, [bL b]⟩, nn 2 ([]))
def laws_eqRow.un (r : R) : Bool := ((leafR r 0).dat .bool)
noncomputable def laws_eqRow (v0 : List Int) (v1 : List Int) : Option (Bool) := tOf laws_eqRow.mk (vlim E 131 (laws_eqRow.c v0 v1))
def laws_eqIntS.c (v0 : List Int) (v1 : List Int) : List Cell := vc (.d .fro (.sl (.int .i64)) v0) :: vc (.d .fro (.sl (.int .i64)) v1) :: []
def laws_eqIntS.mk (b : Bool) : R := (⟨.one, [bL b]⟩, nn 2 ([]))
def laws_eqIntS.un (r : R) : Bool := ((leafR r 0).dat .bool)
noncomputable def laws_eqIntS (v0 : List Int) (v1 : List Int) : Option (Bool) := tOf laws_eqIntS.mk (vlim E 47 (laws_eqIntS.c v0 v1))
def laws_markTable_d7a.c (v0 : Int) (v1 : List (List Int × Int)) (v2 : Int) : List Cell := ⟨(.val .agg), [iL v0, .d .deep (.sl (.pair (.sl (.int .i64)) (.int .i64))) v1], true, false, false, 0, 0⟩ :: vc (iL v2) :: []
def laws_markTable_d7a.mk (b : Int × Int × (List (List Int × Int))) : R := (⟨.one, [iL b.1]⟩, ⟨(.val .agg), [iL b.2.1, .d .deep (.sl (.pair (.sl (.int .i64)) (.int .i64))) b.2.2], true, false, false, 0, 0⟩ :: nn 1 ([]))
def laws_markTable_d7a.un (r : R) : Int × Int × (List (List Int × Int)) := ((leafR r 0).dat (.int .i64), (leafF r 0 0).dat (.int .i64), (leafF r 0 1).dat (.sl (.pair (.sl (.int .i64)) (.int .i64))))
noncomputable def laws_markTable_d7a (v0 : Int) (v1 : List (List Int × Int)) (v2 : Int) : Option (Int × Int × (List (List Int × Int))) := tOf laws_markTable_d7a.mk (vlim E 20 (laws_markTable_d7a.c v0 v1 v2))
def laws_markWeightedS_d97.c (v0 : List (List Int × Int)) (v1 : Int) : List Cell := ⟨(.val .one), [.d .deep (.sl (.pair (.sl (.int .i64)) (.int .i64))) v0], true, false, false, 0, 0⟩ :: vc (iL v1) :: []
def laws_markWeightedS_d97.mk (b : Int × (List (List Int × Int))) : R := (⟨.one, [iL b.1]⟩, ⟨(.val .one), [.d .deep (.sl (.pair (.sl (.int .i64)) (.int .i64))) b.2], true, false, false, 0, 0⟩ :: nn 1 ([]))
def laws_markWeightedS_d97.un (r : R) : Int × (List (List Int × Int)) := ((leafR r 0).dat (.int .i64), (leafF r 0 0).dat (.sl (.pair (.sl (.int .i64)) (.int .i64))))
noncomputable def laws_markWeightedS_d97 (v0 : List (List Int × Int)) (v1 : Int) : Option (Int × (List (List Int × Int))) := tOf laws_markWeightedS_d97.mk (vlim E 41 (laws_markWeightedS_d97.c v0 v1))
def laws_markIntS_83f.c (v0 : List Int) (v1 : Int) : List Cell := ⟨(.val .one), [.d .deep (.sl (.int .i64)) v0], true, false, false, 0, 0⟩ :: vc (iL v1) :: []
def laws_markIntS_83f.mk (b : Int × (List Int)) : R := (⟨.one, [iL b.1]⟩, ⟨(.val .one), [.d .deep (.sl (.int .i64)) b.2], true, false, false, 0, 0⟩ :: nn 1 ([]))
def laws_markIntS_83f.un (r : R) : Int × (List Int) := ((leafR r 0).dat (.int .i64), (leafF r 0 0).dat (.sl (.int .i64)))
noncomputable def laws_markIntS_83f (v0 : List Int) (v1 : Int) : Option (Int × (List Int)) := tOf laws_markIntS_83f.mk (vlim E 48 (laws_markIntS_83f.c v0 v1))
def laws_heldTable.c (v0 : Int) (v1 : List (List Int × Int)) (v2 : Int) : List Cell := ac [iL v0, .d .fro (.sl (.pair (.sl (.int .i64)) (.int .i64))) v1] :: vc (iL v2) :: []
def laws_heldTable.mk (b : Int) : R := (⟨.one, [iL b]⟩, nn 2 ([]))
def laws_heldTable.un (r : R) : Int := ((leafR r 0).dat (.int .i64))
noncomputable def laws_heldTable (v0 : Int) (v1 : List (List Int × Int)) (v2 : Int) : Option (Int) := tOf laws_heldTable.mk (vlim E 21 (laws_heldTable.c v0 v1 v2))
def laws_heldWeightedS.c (v0 : List (List Int × Int)) (v1 : Int) : List Cell := vc (.d .fro (.sl (.pair (.sl (.int .i64)) (.int .i64))) v0) :: vc (iL v1) :: []
def laws_heldWeightedS.mk (b : Int) : R := (⟨.one, [iL b]⟩, nn 2 ([]))
def laws_heldWeightedS.un (r : R) : Int := ((leafR r 0).dat (.int .i64))
noncomputable def laws_heldWeightedS (v0 : List (List Int × Int)) (v1 : Int) : Option (Int) := tOf laws_heldWeightedS.mk (vlim E 64 (laws_heldWeightedS.c v0 v1))
def laws_heldIntS.c (v0 : List Int) (v1 : Int) : List Cell := vc (.d .fro (.sl (.int .i64)) v0) :: vc (iL v1) :: []
def laws_heldIntS.mk (b : Int) : R := (⟨.one, [iL b]⟩, nn 2 ([]))
def laws_heldIntS.un (r : R) : Int := ((leafR r 0).dat (.int .i64))
noncomputable def laws_heldIntS (v0 : List Int) (v1 : Int) : Option (Int) := tOf laws_heldIntS.mk (vlim E 110 (laws_heldIntS.c v0 v1))
def laws_FnExactSelectRows.c (v0 : Int) (v1 : List (List Int × Int)) (v2 : List (Int × Int × Int)) : List Cell := ac [iL v0, .d .fro (.sl (.pair (.sl (.int .i64)) (.int .i64))) v1] :: vc (.d .fro (.sl (.pair (.int .i64) (.pair (.int .i64) (.int .i64)))) v2) :: []
def laws_FnExactSelectRows.mk (b : Bool) : R := (⟨.one, [bL b]⟩, nn 2 ([]))
def laws_FnExactSelectRows.un (r : R) : Bool := ((leafR r 0).dat .bool)
noncomputable def laws_FnExactSelectRows (v0 : Int) (v1 : List (List Int × Int)) (v2 : List (Int × Int × Int)) : Option (Bool) := tOf laws_FnExactSelectRows.mk (vlim E 8 (laws_FnExactSelectRows.c v0 v1 v2))
def laws_szTestS.c (v0 : List (Int × Int × Int)) (v1 : Int) : List Cell := vc (.d .fro (.sl (.pair (.int .i64) (.pair (.int .i64) (.int .i64)))) v0) :: vc (iL v1) :: []
def laws_szTestS.mk (b : Int) : R := (⟨.one, [iL b]⟩, nn 2 ([]))
def laws_szTestS.un (r : R) : Int := ((leafR r 0).dat (.int .i64))
noncomputable def laws_szTestS (v0 : List (Int × Int × Int)) (v1 : Int) : Option (Int) := tOf laws_szTestS.mk (vlim E 30 (laws_szTestS.c v0 v1))
def laws_toTestS.c (v0 : List (Int × Int × Int)) : List Cell := vc (.d .fro (.sl (.pair (.int .i64) (.pair (.int .i64) (.int .i64)))) v0) :: []
def laws_toTestS.mk (b : (List (Int × Int × Int))) : R := (⟨.one, [.d .deep (.sl (.pair (.int .i64) (.pair (.int .i64) (.int .i64)))) b]⟩, nn 1 ([]))
def laws_toTestS.un (r : R) : (List (Int × Int × Int)) := ((leafR r 0).dat (.sl (.pair (.int .i64) (.pair (.int .i64) (.int .i64)))))
noncomputable def laws_toTestS (v0 : List (Int × Int × Int)) : Option ((List (Int × Int × Int))) := tOf laws_toTestS.mk (vlim E 32 (laws_toTestS.c v0))
def laws_toTest.c (v0 : Int) (v1 : Int) (v2 : Int) : List Cell := ac [iL v0, iL v1, iL v2] :: []
def laws_toTest.mk (b : Int × Int × Int) : R := (⟨.agg, [iL b.1, iL b.2.1, iL b.2.2]⟩, nn 1 ([]))
def laws_toTest.un (r : R) : Int × Int × Int := ((leafR r 0).dat (.int .i64), (leafR r 1).dat (.int .i64), (leafR r 2).dat (.int .i64))
noncomputable def laws_toTest (v0 : Int) (v1 : Int) (v2 : Int) : Option (Int × Int × Int) := tOf laws_toTest.mk (vlim E 79 (laws_toTest.c v0 v1 v2))
def spec_SelectRows.c (v0 : Int) (v1 : List (List Int × Int)) (v2 : List (Int × Int × Int)) : List Cell := ac [iL v0, .d .fro (.sl (.pair (.sl (.int .i64)) (.int .i64))) v1] :: vc (.d .fro (.sl (.pair (.int .i64) (.pair (.int .i64) (.int .i64)))) v2) :: []
def spec_SelectRows.mk (b : Int × (List (List Int × Int)) × Bool) : R := (⟨(.tup [some 2, none]), [iL b.1, .d .deep (.sl (.pair (.sl (.int .i64)) (.int .i64))) b.2.1, bL b.2.2]⟩, nn 2 ([]))
def spec_SelectRows.un (r : R) : Int × (List (List Int × Int)) × Bool := ((leafR r 0).dat (.int .i64), (leafR r 1).dat (.sl (.pair (.sl (.int .i64)) (.int .i64))), (leafR r 2).dat .bool)
noncomputable def spec_SelectRows (v0 : Int) (v1 : List (List Int × Int)) (v2 : List (Int × Int × Int)) : Option (Int × (List (List Int × Int)) × Bool) := tOf spec_SelectRows.mk (vlim E 31 (spec_SelectRows.c v0 v1 v2))
def spec_GoodTests.c (v0 : List (Int × Int × Int)) (v1 : Int) : List Cell := vc (.d .fro (.sl (.pair (.int .i64) (.pair (.int .i64) (.int .i64)))) v0) :: vc (iL v1) :: []
def spec_GoodTests.mk (b : Bool) : R := (⟨.one, [bL b]⟩, nn 2 ([]))
def spec_GoodTests.un (r : R) : Bool := ((leafR r 0).dat .bool)
noncomputable def spec_GoodTests (v0 : List (Int × Int × Int)) (v1 : Int) : Option (Bool) := tOf spec_GoodTests.mk (vlim E 77 (spec_GoodTests.c v0 v1))
def spec_l3Select.c (v0 : List (List Int × Int)) (v1 : List (Int × Int × Int)) : List Cell := vc (.d .fro (.sl (.pair (.sl (.int .i64)) (.int .i64))) v0) :: vc (.d .fro (.sl (.pair (.int .i64) (.pair (.int .i64) (.int .i64)))) v1) :: []
def spec_l3Select.mk (b : (List (List Int × Int))) : R := (⟨.one, [.d .sha (.sl (.pair (.sl (.int .i64)) (.int .i64))) b]⟩, nn 2 ([]))
def spec_l3Select.un (r : R) : (List (List Int × Int)) := ((leafR r 0).dat (.sl (.pair (.sl (.int .i64)) (.int .i64))))
noncomputable def spec_l3Select (v0 : List (List Int × Int)) (v1 : List (Int × Int × Int)) : Option ((List (List Int × Int))) := tOf spec_l3Select.mk (vlim E 78 (spec_l3Select.c v0 v1))
def spec_l3True.c (v0 : List (Int × Int × Int)) (v1 : List Int) : List Cell := vc (.d .fro (.sl (.pair (.int .i64) (.pair (.int .i64) (.int .i64)))) v0) :: ac [.d .fro (.sl (.int .i64)) v1] :: []
def spec_l3True.mk (b : Bool) : R := (⟨.one, [bL b]⟩, nn 2 ([]))
def spec_l3True.un (r : R) : Bool := ((leafR r 0).dat .bool)
noncomputable def spec_l3True (v0 : List (Int × Int × Int)) (v1 : List Int) : Option (Bool) := tOf spec_l3True.mk (vlim E 115 (spec_l3True.c v0 v1))
def impl_SelectRows.c (v0 : Int) (v1 : List (List Int × Int)) (v2 : List (Int × Int × Int)) : List Cell := ac [iL v0, .d .fro (.sl (.pair (.sl (.int .i64)) (.int .i64))) v1] :: vc (.d .fro (.sl (.pair (.int .i64) (.pair (.int .i64) (.int .i64)))) v2) :: []
def impl_SelectRows.mk (b : Int × (List (List Int × Int)) × Bool) : R := (⟨(.tup [some 2, none]), [iL b.1, .d .deep (.sl (.pair (.sl (.int .i64)) (.int .i64))) b.2.1, bL b.2.2]⟩, nn 2 ([]))
def impl_SelectRows.un (r : R) : Int × (List (List Int × Int)) × Bool := ((leafR r 0).dat (.int .i64), (leafR r 1).dat (.sl (.pair (.sl (.int .i64)) (.int .i64))), (leafR r 2).dat .bool)
noncomputable def impl_SelectRows (v0 : Int) (v1 : List (List Int × Int)) (v2 : List (Int × Int × Int)) : Option (Int × (List (List Int × Int)) × Bool) := tOf impl_SelectRows.mk (vlim E 33 (impl_SelectRows.c v0 v1 v2))
def impl_GoodTests.c (v0 : List (Int × Int × Int)) (v1 : Int) : List Cell := vc (.d .fro (.sl (.pair (.int .i64) (.pair (.int .i64) (.int .i64)))) v0) :: vc (iL v1) :: []
def impl_GoodTests.mk (b : Bool) : R := (⟨.one, [bL b]⟩, nn 2 ([]))
def impl_GoodTests.un (r : R) : Bool := ((leafR r 0).dat .bool)
noncomputable def impl_GoodTests (v0 : List (Int × Int × Int)) (v1 : Int) : Option (Bool) := tOf impl_GoodTests.mk (vlim E 80 (impl_GoodTests.c v0 v1))
def impl_areAll_impl_Test_impl_GoodTests_1.c (v0 : List (Int × Int × Int)) (v1 : Int) : List Cell := vc (.d .fro (.sl (.pair (.int .i64) (.pair (.int .i64) (.int .i64)))) v0) :: vc (.fn 117 [.rp [iL v1] 0]) :: []
def impl_areAll_impl_Test_impl_GoodTests_1.mk (b : Bool) : R := (⟨.one, [bL b]⟩, nn 2 ([]))
def impl_areAll_impl_Test_impl_GoodTests_1.un (r : R) : Bool := ((leafR r 0).dat .bool)
noncomputable def impl_areAll_impl_Test_impl_GoodTests_1 (v0 : List (Int × Int × Int)) (v1 : Int) : Option (Bool) := tOf impl_areAll_impl_Test_impl_GoodTests_1.mk (vlim E 116 (impl_areAll_impl_Test_impl_GoodTests_1.c v0 v1))
def slices_ContainsFunc_impl_Test_impl_Test_impl_areAll_impl_Test_1_impl_GoodTests_1.c (v0 : List (Int × Int × Int)) (v1 : Int) : List Cell := vc (.d .fro (.sl (.pair (.int .i64) (.pair (.int .i64) (.int .i64)))) v0) :: vc (.fn 144 [.rp [.fn 117 [.rp [iL v1] 0]] 0]) :: []
def slices_ContainsFunc_impl_Test_impl_Test_impl_areAll_impl_Test_1_impl_GoodTests_1.mk (b : Bool) : R := (⟨.one, [bL b]⟩, nn 2 ([]))
def slices_ContainsFunc_impl_Test_impl_Test_impl_areAll_impl_Test_1_impl_GoodTests_1.un (r : R) : Bool := ((leafR r 0).dat .bool)
noncomputable def slices_ContainsFunc_impl_Test_impl_Test_impl_areAll_impl_Test_1_impl_GoodTests_1 (v0 : List (Int × Int × Int)) (v1 : Int) : Option (Bool) := tOf slices_ContainsFunc_impl_Test_impl_Test_impl_areAll_impl_Test_1_impl_GoodTests_1.mk (vlim E 143 (slices_ContainsFunc_impl_Test_impl_Test_impl_areAll_impl_Test_1_impl_GoodTests_1.c v0 v1))
def slices_IndexFunc_impl_Test_impl_Test_impl_areAll_impl_Test_1_impl_GoodTests_1.c (v0 : List (Int × Int × Int)) (v1 : Int) : List Cell := vc (.d .fro (.sl (.pair (.int .i64) (.pair (.int .i64) (.int .i64)))) v0) :: vc (.fn 144 [.rp [.fn 117 [.rp [iL v1] 0]] 0]) :: []
def slices_IndexFunc_impl_Test_impl_Test_impl_areAll_impl_Test_1_impl_GoodTests_1.mk (b : Int) : R := (⟨.one, [iL b]⟩, nn 2 ([]))
def slices_IndexFunc_impl_Test_impl_Test_impl_areAll_impl_Test_1_impl_GoodTests_1.un (r : R) : Int := ((leafR r 0).dat (.int .i64))
noncomputable def slices_IndexFunc_impl_Test_impl_Test_impl_areAll_impl_Test_1_impl_GoodTests_1 (v0 : List (Int × Int × Int)) (v1 : Int) : Option (Int) := tOf slices_IndexFunc_impl_Test_impl_Test_impl_areAll_impl_Test_1_impl_GoodTests_1.mk (vlim E 156 (slices_IndexFunc_impl_Test_impl_Test_impl_areAll_impl_Test_1_impl_GoodTests_1.c v0 v1))
def impl_areAll_impl_Test_1_impl_GoodTests_1.c (v0 : Int) (v1 : Int) (v2 : Int) (v3 : Int) : List Cell := ac [iL v0, iL v1, iL v2] :: vc (.rp [.fn 117 [.rp [iL v3] 0]] 0) :: []
def impl_areAll_impl_Test_1_impl_GoodTests_1.mk (b : Bool) : R := (⟨.one, [bL b]⟩, nn 2 ([]))
def impl_areAll_impl_Test_1_impl_GoodTests_1.un (r : R) : Bool := ((leafR r 0).dat .bool)
noncomputable def impl_areAll_impl_Test_1_impl_GoodTests_1 (v0 : Int) (v1 : Int) (v2 : Int) (v3 : Int) : Option (Bool) := tOf impl_areAll_impl_Test_1_impl_GoodTests_1.mk (vlim E 144 (impl_areAll_impl_Test_1_impl_GoodTests_1.c v0 v1 v2 v3))
def impl_GoodTests_1.c (v0 : Int) (v1 : Int) (v2 : Int) (v3 : Int) : List Cell := ac [iL v0, iL v1, iL v2] :: vc (.rp [iL v3] 0) :: []
def impl_GoodTests_1.mk (b : Bool) : R := (⟨.one, [bL b]⟩, nn 2 ([]))
def impl_GoodTests_1.un (r : R) : Bool := ((leafR r 0).dat .bool)
noncomputable def impl_GoodTests_1 (v0 : Int) (v1 : Int) (v2 : Int) (v3 : Int) : Option (Bool) := tOf impl_GoodTests_1.mk (vlim E 117 (impl_GoodTests_1.c v0 v1 v2 v3))
def impl_isPlace.c (v0 : Int) (v1 : Int) : List Cell := vc (iL v0) :: vc (iL v1) :: []
def impl_isPlace.mk (b : Bool) : R := (⟨.one, [bL b]⟩, nn 2 ([]))
def impl_isPlace.un (r : R) : Bool := ((leafR r 0).dat .bool)
noncomputable def impl_isPlace (v0 : Int) (v1 : Int) : Option (Bool) := tOf impl_isPlace.mk (vlim E 118 (impl_isPlace.c v0 v1))
def impl_Table_selected.c (v0 : Int) (v1 : List (List Int × Int)) (v2 : List (Int × Int × Int)) : List Cell := ac [iL v0, .d .fro (.sl (.pair (.sl (.int .i64)) (.int .i64))) v1] :: vc (.d .fro (.sl (.pair (.int .i64) (.pair (.int .i64) (.int .i64)))) v2) :: []
def impl_Table_selected.mk (b : Int × (List (List Int × Int))) : R := (⟨.agg, [iL b.1, .d .deep (.sl (.pair (.sl (.int .i64)) (.int .i64))) b.2]⟩, nn 2 ([]))
def impl_Table_selected.un (r : R) : Int × (List (List Int × Int)) := ((leafR r 0).dat (.int .i64), (leafR r 1).dat (.sl (.pair (.sl (.int .i64)) (.int .i64))))
noncomputable def impl_Table_selected (v0 : Int) (v1 : List (List Int × Int)) (v2 : List (Int × Int × Int)) : Option (Int × (List (List Int × Int))) := tOf impl_Table_selected.mk (vlim E 81 (impl_Table_selected.c v0 v1 v2))
def impl_Table_kept_impl_Table_selected_1.c (v0 : Int) (v1 : List (List Int × Int)) (v2 : List (Int × Int × Int)) : List Cell := ac [iL v0, .d .fro (.sl (.pair (.sl (.int .i64)) (.int .i64))) v1] :: vc (.fn 120 [.rp [.d .fro (.sl (.pair (.int .i64) (.pair (.int .i64) (.int .i64)))) v2] 0]) :: []
def impl_Table_kept_impl_Table_selected_1.mk (b : Int × (List (List Int × Int))) : R := (⟨.agg, [iL b.1, .d .deep (.sl (.pair (.sl (.int .i64)) (.int .i64))) b.2]⟩, nn 2 ([]))
def impl_Table_kept_impl_Table_selected_1.un (r : R) : Int × (List (List Int × Int)) := ((leafR r 0).dat (.int .i64), (leafR r 1).dat (.sl (.pair (.sl (.int .i64)) (.int .i64))))
noncomputable def impl_Table_kept_impl_Table_selected_1 (v0 : Int) (v1 : List (List Int × Int)) (v2 : List (Int × Int × Int)) : Option (Int × (List (List Int × Int))) := tOf impl_Table_kept_impl_Table_selected_1.mk (vlim E 72 (impl_Table_kept_impl_Table_selected_1.c v0 v1 v2))
def impl_Table_selected_1.c (v0 : List Int) (v1 : Int) (v2 : List (Int × Int × Int)) : List Cell := ac [.d .fro (.sl (.int .i64)) v0, iL v1] :: vc (.rp [.d .fro (.sl (.pair (.int .i64) (.pair (.int .i64) (.int .i64)))) v2] 0) :: []
def impl_Table_selected_1.mk (b : Int) : R := (⟨.one, [iL b]⟩, nn 2 ([]))
def impl_Table_selected_1.un (r : R) : Int := ((leafR r 0).dat (.int .i64))
noncomputable def impl_Table_selected_1 (v0 : List Int) (v1 : Int) (v2 : List (Int × Int × Int)) : Option (Int) := tOf impl_Table_selected_1.mk (vlim E 120 (impl_Table_selected_1.c v0 v1 v2))
def impl_areAll_impl_Test_impl_Table_selected_1_1.c (v0 : List (Int × Int × Int)) (v1 : List Int) (v2 : Int) : List Cell := vc (.d .fro (.sl (.pair (.int .i64) (.pair (.int .i64) (.int .i64)))) v0) :: vc (.fn 121 [.rp [.d .fro (.sl (.int .i64)) v1, iL v2] 0]) :: []
def impl_areAll_impl_Test_impl_Table_selected_1_1.mk (b : Bool) : R := (⟨.one, [bL b]⟩, nn 2 ([]))
def impl_areAll_impl_Test_impl_Table_selected_1_1.un (r : R) : Bool := ((leafR r 0).dat .bool)
noncomputable def impl_areAll_impl_Test_impl_Table_selected_1_1 (v0 : List (Int × Int × Int)) (v1 : List Int) (v2 : Int) : Option (Bool) := tOf impl_areAll_impl_Test_impl_Table_selected_1_1.mk (vlim E 116 (impl_areAll_impl_Test_impl_Table_selected_1_1.c v0 v1 v2))
def slices_ContainsFunc_impl_Test_impl_Test_impl_areAll_impl_Test_1_impl_Table_selected_1_1.c (v0 : List (Int × Int × Int)) (v1 : List Int) (v2 : Int) : List Cell := vc (.d .fro (.sl (.pair (.int .i64) (.pair (.int .i64) (.int .i64)))) v0) :: vc (.fn 144 [.rp [.fn 121 [.rp [.d .fro (.sl (.int .i64)) v1, iL v2] 0]] 0]) :: []
def slices_ContainsFunc_impl_Test_impl_Test_impl_areAll_impl_Test_1_impl_Table_selected_1_1.mk (b : Bool) : R := (⟨.one, [bL b]⟩, nn 2 ([]))
def slices_ContainsFunc_impl_Test_impl_Test_impl_areAll_impl_Test_1_impl_Table_selected_1_1.un (r : R) : Bool := ((leafR r 0).dat .bool)
noncomputable def slices_ContainsFunc_impl_Test_impl_Test_impl_areAll_impl_Test_1_impl_Table_selected_1_1 (v0 : List (Int × Int × Int)) (v1 : List Int) (v2 : Int) : Option (Bool) := tOf slices_ContainsFunc_impl_Test_impl_Test_impl_areAll_impl_Test_1_impl_Table_selected_1_1.mk (vlim E 143 (slices_ContainsFunc_impl_Test_impl_Test_impl_areAll_impl_Test_1_impl_Table_selected_1_1.c v0 v1 v2))
def slices_IndexFunc_impl_Test_impl_Test_impl_areAll_impl_Test_1_impl_Table_selected_1_1.c (v0 : List (Int × Int × Int)) (v1 : List Int) (v2 : Int) : List Cell := vc (.d .fro (.sl (.pair (.int .i64) (.pair (.int .i64) (.int .i64)))) v0) :: vc (.fn 144 [.rp [.fn 121 [.rp [.d .fro (.sl (.int .i64)) v1, iL v2] 0]] 0]) :: []
def slices_IndexFunc_impl_Test_impl_Test_impl_areAll_impl_Test_1_impl_Table_selected_1_1.mk (b : Int) : R := (⟨.one, [iL b]⟩, nn 2 ([]))
def slices_IndexFunc_impl_Test_impl_Test_impl_areAll_impl_Test_1_impl_Table_selected_1_1.un (r : R) : Int := ((leafR r 0).dat (.int .i64))
noncomputable def slices_IndexFunc_impl_Test_impl_Test_impl_areAll_impl_Test_1_impl_Table_selected_1_1 (v0 : List (Int × Int × Int)) (v1 : List Int) (v2 : Int) : Option (Int) := tOf slices_IndexFunc_impl_Test_impl_Test_impl_areAll_impl_Test_1_impl_Table_selected_1_1.mk (vlim E 156 (slices_IndexFunc_impl_Test_impl_Test_impl_areAll_impl_Test_1_impl_Table_selected_1_1.c v0 v1 v2))
def impl_areAll_impl_Test_1_impl_Table_selected_1_1.c (v0 : Int) (v1 : Int) (v2 : Int) (v3 : List Int) (v4 : Int) : List Cell := ac [iL v0, iL v1, iL v2] :: vc (.rp [.fn 121 [.rp [.d .fro (.sl (.int .i64)) v3, iL v4] 0]] 0) :: []
def impl_areAll_impl_Test_1_impl_Table_selected_1_1.mk (b : Bool) : R := (⟨.one, [bL b]⟩, nn 2 ([]))
def impl_areAll_impl_Test_1_impl_Table_selected_1_1.un (r : R) : Bool := ((leafR r 0).dat .bool)
noncomputable def impl_areAll_impl_Test_1_impl_Table_selected_1_1 (v0 : Int) (v1 : Int) (v2 : Int) (v3 : List Int) (v4 : Int) : Option (Bool) := tOf impl_areAll_impl_Test_1_impl_Table_selected_1_1.mk (vlim E 144 (impl_areAll_impl_Test_1_impl_Table_selected_1_1.c v0 v1 v2 v3 v4))
def impl_Table_selected_1_1.c (v0 : Int) (v1 : Int) (v2 : Int) (v3 : List Int) (v4 : Int) : List Cell := ac [iL v0, iL v1, iL v2] :: vc (.rp [.d .fro (.sl (.int .i64)) v3, iL v4] 0) :: []
def impl_Table_selected_1_1.mk (b : Bool) : R := (⟨.one, [bL b]⟩, nn 2 ([]))
def impl_Table_selected_1_1.un (r : R) : Bool := ((leafR r 0).dat .bool)
noncomputable def impl_Table_selected_1_1 (v0 : Int) (v1 : Int) (v2 : Int) (v3 : List Int) (v4 : Int) : Option (Bool) := tOf impl_Table_selected_1_1.mk (vlim E 121 (impl_Table_selected_1_1.c v0 v1 v2 v3 v4))
def impl_Test_isTrue.c (v0 : Int) (v1 : Int) (v2 : Int) (v3 : List Int) : List Cell := ac [iL v0, iL v1, iL v2] :: ac [.d .fro (.sl (.int .i64)) v3] :: []
def impl_Test_isTrue.mk (b : Bool) : R := (⟨.one, [bL b]⟩, nn 2 ([]))
def impl_Test_isTrue.un (r : R) : Bool := ((leafR r 0).dat .bool)
noncomputable def impl_Test_isTrue (v0 : Int) (v1 : Int) (v2 : Int) (v3 : List Int) : Option (Bool) := tOf impl_Test_isTrue.mk (vlim E 122 (impl_Test_isTrue.c v0 v1 v2 v3))
def laws_eqTestS.c (v0 : List (Int × Int × Int)) (v1 : List (Int × Int × Int)) : List Cell := vc (.d .fro (.sl (.pair (.int .i64) (.pair (.int .i64) (.int .i64)))) v0) :: vc (.d .fro (.sl (.pair (.int .i64) (.pair (.int .i64) (.int .i64)))) v1) :: []
def laws_eqTestS.mk (b : Bool) : R := (⟨.one, [bL b]⟩, nn 2 ([]))
def laws_eqTestS.un (r : R) : Bool := ((leafR r 0).dat .bool)
noncomputable def laws_eqTestS (v0 : List (Int × Int × Int)) (v1 : List (Int × Int × Int)) : Option (Bool) := tOf laws_eqTestS.mk (vlim E 34 (laws_eqTestS.c v0 v1))
def laws_eqTest.c (v0 : Int) (v1 : Int) (v2 : Int) (v3 : Int) (v4 : Int) (v5 : Int) : List Cell := ac [iL v0, iL v1, iL v2] :: ac [iL v3, iL v4, iL v5] :: []
def laws_eqTest.mk (b : Bool) : R := (⟨.one, [bL b]⟩, nn 2 ([]))
def laws_eqTest.un (r : R) : Bool := ((leafR r 0).dat .bool)
noncomputable def laws_eqTest (v0 : Int) (v1 : Int) (v2 : Int) (v3 : Int) (v4 : Int) (v5 : Int) : Option (Bool) := tOf laws_eqTest.mk (vlim E 82 (laws_eqTest.c v0 v1 v2 v3 v4 v5))
def laws_markTestS_5b1.c (v0 : List (Int × Int × Int)) (v1 : Int) : List Cell := ⟨(.val .one), [.d .deep (.sl (.pair (.int .i64) (.pair (.int .i64) (.int .i64)))) v0], true, false, false, 0, 0⟩ :: vc (iL v1) :: []
def laws_markTestS_5b1.mk (b : Int × (List (Int × Int × Int))) : R := (⟨.one, [iL b.1]⟩, ⟨(.val .one), [.d .deep (.sl (.pair (.int .i64) (.pair (.int .i64) (.int .i64)))) b.2], true, false, false, 0, 0⟩ :: nn 1 ([]))
def laws_markTestS_5b1.un (r : R) : Int × (List (Int × Int × Int)) := ((leafR r 0).dat (.int .i64), (leafF r 0 0).dat (.sl (.pair (.int .i64) (.pair (.int .i64) (.int .i64)))))
noncomputable def laws_markTestS_5b1 (v0 : List (Int × Int × Int)) (v1 : Int) : Option (Int × (List (Int × Int × Int))) := tOf laws_markTestS_5b1.mk (vlim E 35 (laws_markTestS_5b1.c v0 v1))
def tabT : List (Nat × List (List Cell × Tb)) := [
  (8, [(laws_FnExactSelectRows.c 0 [] [], ⟨Bool, laws_FnExactSelectRows.mk⟩)]),
  (15, [(laws_szTable.c 0 [] 0, ⟨Int, laws_szTable.mk⟩)]),
  (17, [(laws_toTable.c 0 [], ⟨Int × (List (List Int × Int)), laws_toTable.mk⟩)]),
  (19, [(laws_eqTable.c 0 [] 0 [], ⟨Bool, laws_eqTable.mk⟩)]),
  (20, [(laws_markTable_d7a.c 0 [] 0, ⟨Int × Int × (List (List Int × Int)), laws_markTable_d7a.mk⟩)]),
  (21, [(laws_heldTable.c 0 [] 0, ⟨Int, laws_heldTable.mk⟩)]),
  (30, [(laws_szTestS.c [] 0, ⟨Int, laws_szTestS.mk⟩)]),
  (31, [(spec_SelectRows.c 0 [] [], ⟨Int × (List (List Int × Int)) × Bool, spec_SelectRows.mk⟩)]),
  (32, [(laws_toTestS.c [], ⟨(List (Int × Int × Int)), laws_toTestS.mk⟩)]),
  (33, [(impl_SelectRows.c 0 [] [], ⟨Int × (List (List Int × Int)) × Bool, impl_SelectRows.mk⟩)]),
  (34, [(laws_eqTestS.c [] [], ⟨Bool, laws_eqTestS.mk⟩)]),
  (35, [(laws_markTestS_5b1.c [] 0, ⟨Int × (List (Int × Int × Int)), laws_markTestS_5b1.mk⟩)]),
  (36, [(laws_szWeightedS.c [] 0, ⟨Int, laws_szWeightedS.mk⟩)]),
  (38, [(laws_toWeightedS.c [], ⟨(List (List Int × Int)), laws_toWeightedS.mk⟩)]),
  (40, [(laws_eqWeightedS.c [] [], ⟨Bool, laws_eqWeightedS.mk⟩)]),
  (41, [(laws_markWeightedS_d97.c [] 0, ⟨Int × (List (List Int × Int)), laws_markWeightedS_d97.mk⟩)]),
  (45, [(laws_toIntS.c [], ⟨(List Int), laws_toIntS.mk⟩)]),
  (47, [(laws_eqIntS.c [] [], ⟨Bool, laws_eqIntS.mk⟩)]),
  (48, [(laws_markIntS_83f.c [] 0, ⟨Int × (List Int), laws_markIntS_83f.mk⟩)]),
  (59, [(spec_GoodTable.c 0 [], ⟨Bool, spec_GoodTable.mk⟩)]),
  (60, [(spec_l2Tell.c 0 [], ⟨Int × (List (List Int × Int)) × Bool, spec_l2Tell.mk⟩)]),
  (62, [(impl_GoodTable.c 0 [], ⟨Bool, impl_GoodTable.mk⟩)]),
  (64, [(laws_heldWeightedS.c [] 0, ⟨Int, laws_heldWeightedS.mk⟩)]),
  (65, [(spec_l1In.c 0 0 0, ⟨Bool, spec_l1In.mk⟩)]),
  (66, [(impl_within.c 0 0 0, ⟨Bool, impl_within.mk⟩)]),
  (72, [(impl_Table_kept_impl_Table_selected_1.c 0 [] [], ⟨Int × (List (List Int × Int)), impl_Table_kept_impl_Table_selected_1.mk⟩)]),
  (77, [(spec_GoodTests.c [] 0, ⟨Bool, spec_GoodTests.mk⟩)]),
  (78, [(spec_l3Select.c [] [], ⟨(List (List Int × Int)), spec_l3Select.mk⟩)]),
  (79, [(laws_toTest.c 0 0 0, ⟨Int × Int × Int, laws_toTest.mk⟩)]),
  (80, [(impl_GoodTests.c [] 0, ⟨Bool, impl_GoodTests.mk⟩)]),
  (81, [(impl_Table_selected.c 0 [] [], ⟨Int × (List (List Int × Int)), impl_Table_selected.mk⟩)]),
  (82, [(laws_eqTest.c 0 0 0 0 0 0, ⟨Bool, laws_eqTest.mk⟩)]),
  (83, [(laws_szWeighted.c [] 0 0, ⟨Int, laws_szWeighted.mk⟩)]),
  (84, [(spec_GoodRow.c [], ⟨Bool, spec_GoodRow.mk⟩)]),
  (85, [(spec_l2Weight.c 0, ⟨Bool, spec_l2Weight.mk⟩)]),
  (87, [(laws_toWeighted.c [] 0, ⟨(List Int) × Int, laws_toWeighted.mk⟩)]),
  (88, [(impl_isColumns.c 0, ⟨Bool, impl_isColumns.mk⟩)]),
  (91, [(impl_isRowOf.c [] 0, ⟨Bool, impl_isRowOf.mk⟩)]),
  (92, [(impl_isWeight.c 0, ⟨Bool, impl_isWeight.mk⟩)]),
  (94, [(laws_eqWeighted.c [] 0 [] 0, ⟨Bool, laws_eqWeighted.mk⟩)]),
  (100, [(laws_szIntS.c [] 0, ⟨Int, laws_szIntS.mk⟩)]),
  (106, [(spec_l1Compare.c [] [], ⟨Int, spec_l1Compare.mk⟩)]),
  (107, [(spec_l2OwnRow.c [], ⟨(List Int), spec_l2OwnRow.mk⟩)]),
  (108, [(impl_compareRows.c [] [], ⟨Int, impl_compareRows.mk⟩)]),
  (109, [(impl_Row_own.c [], ⟨(List Int), impl_Row_own.mk⟩)]),
  (110, [(laws_heldIntS.c [] 0, ⟨Int, laws_heldIntS.mk⟩)]),
  (115, [(spec_l3True.c [] [], ⟨Bool, spec_l3True.mk⟩)]),
  (116, [(impl_areAll_impl_Test_impl_GoodTests_1.c [] 0, ⟨Bool, impl_areAll_impl_Test_impl_GoodTests_1.mk⟩), (impl_areAll_impl_Test_impl_Table_selected_1_1.c [] [] 0, ⟨Bool, impl_areAll_impl_Test_impl_Table_selected_1_1.mk⟩)]),
  (117, [(impl_GoodTests_1.c 0 0 0 0, ⟨Bool, impl_GoodTests_1.mk⟩)]),
  (118, [(impl_isPlace.c 0 0, ⟨Bool, impl_isPlace.mk⟩)]),
  (119, [(impl_isCell.c 0, ⟨Bool, impl_isCell.mk⟩)]),
  (120, [(impl_Table_selected_1.c [] 0 [], ⟨Int, impl_Table_selected_1.mk⟩)]),
  (121, [(impl_Table_selected_1_1.c 0 0 0 [] 0, ⟨Bool, impl_Table_selected_1_1.mk⟩)]),
  (122, [(impl_Test_isTrue.c 0 0 0 [], ⟨Bool, impl_Test_isTrue.mk⟩)]),
  (123, [(laws_szRow.c [] 0, ⟨Int, laws_szRow.mk⟩)]),
  (124, [(laws_toRow.c [], ⟨(List Int), laws_toRow.mk⟩)]),
  (127, [(impl_GoodRow.c [], ⟨Bool, impl_GoodRow.mk⟩)]),
  (131, [(laws_eqRow.c [] [], ⟨Bool, laws_eqRow.mk⟩)]),
  (133, [(impl_areAll_int_impl_isCell.c [], ⟨Bool, impl_areAll_int_impl_isCell.mk⟩)]),
  (141, [(slices_Compare_int_int.c [] [], ⟨Int, slices_Compare_int_int.mk⟩)]),
  (142, [(slices_Clone_int_int.c [], ⟨(List Int), slices_Clone_int_int.mk⟩)]),
  (143, [(slices_ContainsFunc_impl_Test_impl_Test_impl_areAll_impl_Test_1_impl_GoodTests_1.c [] 0, ⟨Bool, slices_ContainsFunc_impl_Test_impl_Test_impl_areAll_impl_Test_1_impl_GoodTests_1.mk⟩), (slices_ContainsFunc_impl_Test_impl_Test_impl_areAll_impl_Test_1_impl_Table_selected_1_1.c [] [] 0, ⟨Bool, slices_ContainsFunc_impl_Test_impl_Test_impl_areAll_impl_Test_1_impl_Table_selected_1_1.mk⟩)]),
  (144, [(impl_areAll_impl_Test_1_impl_GoodTests_1.c 0 0 0 0, ⟨Bool, impl_areAll_impl_Test_1_impl_GoodTests_1.mk⟩), (impl_areAll_impl_Test_1_impl_Table_selected_1_1.c 0 0 0 [] 0, ⟨Bool, impl_areAll_impl_Test_1_impl_Table_selected_1_1.mk⟩)]),
  (148, [(slices_ContainsFunc_int_int_impl_areAll_int_1_impl_isCell.c [], ⟨Bool, slices_ContainsFunc_int_int_impl_areAll_int_1_impl_isCell.mk⟩)]),
  (149, [(impl_areAll_int_1_impl_isCell.c 0, ⟨Bool, impl_areAll_int_1_impl_isCell.mk⟩)]),
  (155, [(cmp_Compare_int.c 0 0, ⟨Int, cmp_Compare_int.mk⟩)]),
  (156, [(slices_IndexFunc_impl_Test_impl_Test_impl_areAll_impl_Test_1_impl_GoodTests_1.c [] 0, ⟨Int, slices_IndexFunc_impl_Test_impl_Test_impl_areAll_impl_Test_1_impl_GoodTests_1.mk⟩), (slices_IndexFunc_impl_Test_impl_Test_impl_areAll_impl_Test_1_impl_Table_selected_1_1.c [] [] 0, ⟨Int, slices_IndexFunc_impl_Test_impl_Test_impl_areAll_impl_Test_1_impl_Table_selected_1_1.mk⟩)]),
  (159, [(slices_IndexFunc_int_int_impl_areAll_int_1_impl_isCell.c [], ⟨Int, slices_IndexFunc_int_int_impl_areAll_int_1_impl_isCell.mk⟩)]),
  (163, [(cmp_isNaN_int.c 0, ⟨Bool, cmp_isNaN_int.mk⟩)])]
def tab : FuncId → List Cell → Tb := fun g cs => match assoc tabT g with | some l => pickT l cs | none => ⟨Unit, fun _ => (⟨.one, []⟩, [])⟩
end GoV

/- Equations of the program's functions (printed by wip/tools/emit.py). -/
namespace GoV
open Go Go.Proofs
set_option maxRecDepth 100000

noncomputable def laws_szTable.t {γ : Type} (ret : (Int) → Option γ) (v0 : Int) (v1 : List (List Int × Int)) (v2 : Int) : Option γ :=
  (laws_szWeightedS (v1) (v2)).bind fun (r0 : Int) =>
  bif Decidable.decide (r0 < (0 : Int)) then
    ret ((-1 : Int))
  else
    ret (r0)
theorem laws_szTable.k (v0 : Int) (v1 : List (List Int × Int)) (v2 : Int) : topL E (callT E tab) 15 Try.f15 (laws_szTable.c v0 v1 v2) = laws_szTable.t (fun b => some (laws_szTable.mk b)) v0 v1 v2 := by kernel_rfl
theorem laws_szTable.s (v0 : Int) (v1 : List (List Int × Int)) (v2 : Int) : Sub laws_szTable.mk (laws_szTable.t some v0 v1 v2) (laws_szTable.t (fun b => some (laws_szTable.mk b)) v0 v1 v2) := by
  unfold laws_szTable.t
  repeat' first | exact Sub.ret | exact Sub.none | exact Sub.loop | apply Sub.cond | (apply Sub.bind; intro _)
theorem laws_szTable.eq (v0 : Int) (v1 : List (List Int × Int)) (v2 : Int) {b : Int} (h : laws_szTable.t some v0 v1 v2 = some b) : laws_szTable v0 v1 v2 = some b := tOf_intro laws_szTable.un (fun _ => by kernel_rfl) (vlim_fn (callT_le E tab) rfl rfl rfl ((laws_szTable.k v0 v1 v2).trans (laws_szTable.s v0 v1 v2 b h)))
noncomputable def laws_szWeightedS.q5 (v0 : List (List Int × Int)) (v1 : Int) (v2 : Int) : Option R := loopAtL E (callT E tab) 36 Try.f36 2 [.r, .r, .r, .l, .r, .b] (vc (.d .fro (.sl (.pair (.sl (.int .i64)) (.int .i64))) v0) :: vc (iL v1) :: nn 3 (vc (iL v2) :: nn 21 ([])))
noncomputable def laws_szWeightedS.l5 (v0 : List (List Int × Int)) (v1 : Int) (v2 : Int) : Option (Int) := tOf laws_szWeightedS.mk (laws_szWeightedS.q5 v0 v1 v2)
noncomputable def laws_szWeightedS.t {γ : Type} (ret : (Int) → Option γ) (lp5 : (List (List Int × Int)) → Int → Int → Option γ) (v0 : List (List Int × Int)) (v1 : Int) : Option γ :=
  bif Decidable.decide (Go.IntKind.i64.wrap (v1 - (↑v0.length : Int)) < (0 : Int)) then
    ret ((-1 : Int))
  else
    lp5 (v0) (Go.IntKind.i64.wrap (v1 - (↑v0.length : Int))) ((0 : Int))
noncomputable def laws_szWeightedS.t5 {γ : Type} (ret : (Int) → Option γ) (lp5 : (List (List Int × Int)) → Int → Int → Option γ) (v0 : List (List Int × Int)) (v1 : Int) (v2 : Int) : Option γ :=
  bif Decidable.decide (v2 < (↑v0.length : Int)) then
    bif Decidable.decide ((0 : Int) ≤ v2) then
      bif Decidable.decide (v2.toNat < v0.length) then
        (laws_szWeighted ((v0.getD v2.toNat ([], (0 : Int))).fst) ((v0.getD v2.toNat ([], (0 : Int))).snd) (v1)).bind fun (r0 : Int) =>
        bif Decidable.decide (r0 < (0 : Int)) then
          ret ((-1 : Int))
        else
          lp5 (v0) (r0) (Go.IntKind.i64.wrap (v2 + (1 : Int)))
      else
        none
    else
      none
  else
    ret (v1)
theorem laws_szWeightedS.k (v0 : List (List Int × Int)) (v1 : Int) : topL E (callT E tab) 36 Try.f36 (laws_szWeightedS.c v0 v1) = laws_szWeightedS.t (fun b => some (laws_szWeightedS.mk b)) laws_szWeightedS.q5 v0 v1 := by kernel_rfl
theorem laws_szWeightedS.k5 (v0 : List (List Int × Int)) (v1 : Int) (v2 : Int) : roundL E (callT E tab) 36 Try.f36 2 [.r, .r, .r, .l, .r, .b] (vc (.d .fro (.sl (.pair (.sl (.int .i64)) (.int .i64))) v0) :: vc (iL v1) :: nn 3 (vc (iL v2) :: nn 21 ([]))) = laws_szWeightedS.t5 (fun b => some (laws_szWeightedS.mk b)) laws_szWeightedS.q5 v0 v1 v2 := by kernel_rfl
theorem laws_szWeightedS.s (v0 : List (List Int × Int)) (v1 : Int) : Sub laws_szWeightedS.mk (laws_szWeightedS.t some laws_szWeightedS.l5 v0 v1) (laws_szWeightedS.t (fun b => some (laws_szWeightedS.mk b)) laws_szWeightedS.q5 v0 v1) := by
  unfold laws_szWeightedS.t
  repeat' first | exact Sub.ret | exact Sub.none | exact Sub.loop | apply Sub.cond | (apply Sub.bind; intro _)
theorem laws_szWeightedS.eq (v0 : List (List Int × Int)) (v1 : Int) {b : Int} (h : laws_szWeightedS.t some laws_szWeightedS.l5 v0 v1 = some b) : laws_szWeightedS v0 v1 = some b := tOf_intro laws_szWeightedS.un (fun _ => by kernel_rfl) (vlim_fn (callT_le E tab) rfl rfl rfl ((laws_szWeightedS.k v0 v1).trans (laws_szWeightedS.s v0 v1 b h)))
theorem laws_szWeightedS.s5 (v0 : List (List Int × Int)) (v1 : Int) (v2 : Int) : Sub laws_szWeightedS.mk (laws_szWeightedS.t5 some laws_szWeightedS.l5 v0 v1 v2) (laws_szWeightedS.t5 (fun b => some (laws_szWeightedS.mk b)) laws_szWeightedS.q5 v0 v1 v2) := by
  unfold laws_szWeightedS.t5
  repeat' first | exact Sub.ret | exact Sub.none | exact Sub.loop | apply Sub.cond | (apply Sub.bind; intro _)
theorem laws_szWeightedS.eq5 (v0 : List (List Int × Int)) (v1 : Int) (v2 : Int) {b : Int} (h : laws_szWeightedS.t5 some laws_szWeightedS.l5 v0 v1 v2 = some b) : laws_szWeightedS.l5 v0 v1 v2 = some b := tOf_intro laws_szWeightedS.un (fun _ => by kernel_rfl) (loopAtL_step ((laws_szWeightedS.k5 v0 v1 v2).trans (laws_szWeightedS.s5 v0 v1 v2 b h)))
noncomputable def laws_szWeighted.t {γ : Type} (ret : (Int) → Option γ) (v0 : List Int) (v1 : Int) (v2 : Int) : Option γ :=
  (laws_szRow (v0) (v2)).bind fun (r0 : Int) =>
  bif Decidable.decide (r0 < (0 : Int)) then
    ret ((-1 : Int))
  else
    ret (r0)
theorem laws_szWeighted.k (v0 : List Int) (v1 : Int) (v2 : Int) : topL E (callT E tab) 83 Try.f83 (laws_szWeighted.c v0 v1 v2) = laws_szWeighted.t (fun b => some (laws_szWeighted.mk b)) v0 v1 v2 := by kernel_rfl
theorem laws_szWeighted.s (v0 : List Int) (v1 : Int) (v2 : Int) : Sub laws_szWeighted.mk (laws_szWeighted.t some v0 v1 v2) (laws_szWeighted.t (fun b => some (laws_szWeighted.mk b)) v0 v1 v2) := by
  unfold laws_szWeighted.t
  repeat' first | exact Sub.ret | exact Sub.none | exact Sub.loop | apply Sub.cond | (apply Sub.bind; intro _)
theorem laws_szWeighted.eq (v0 : List Int) (v1 : Int) (v2 : Int) {b : Int} (h : laws_szWeighted.t some v0 v1 v2 = some b) : laws_szWeighted v0 v1 v2 = some b := tOf_intro laws_szWeighted.un (fun _ => by kernel_rfl) (vlim_fn (callT_le E tab) rfl rfl rfl ((laws_szWeighted.k v0 v1 v2).trans (laws_szWeighted.s v0 v1 v2 b h)))
noncomputable def laws_szRow.t {γ : Type} (ret : (Int) → Option γ) (v0 : List Int) (v1 : Int) : Option γ :=
  (laws_szIntS (v0) (v1)).bind fun (r0 : Int) =>
  bif Decidable.decide (r0 < (0 : Int)) then
    ret ((-1 : Int))
  else
    ret (r0)
theorem laws_szRow.k (v0 : List Int) (v1 : Int) : topL E (callT E tab) 123 Try.f123 (laws_szRow.c v0 v1) = laws_szRow.t (fun b => some (laws_szRow.mk b)) v0 v1 := by kernel_rfl
theorem laws_szRow.s (v0 : List Int) (v1 : Int) : Sub laws_szRow.mk (laws_szRow.t some v0 v1) (laws_szRow.t (fun b => some (laws_szRow.mk b)) v0 v1) := by
  unfold laws_szRow.t
  repeat' first | exact Sub.ret | exact Sub.none | exact Sub.loop | apply Sub.cond | (apply Sub.bind; intro _)
theorem laws_szRow.eq (v0 : List Int) (v1 : Int) {b : Int} (h : laws_szRow.t some v0 v1 = some b) : laws_szRow v0 v1 = some b := tOf_intro laws_szRow.un (fun _ => by kernel_rfl) (vlim_fn (callT_le E tab) rfl rfl rfl ((laws_szRow.k v0 v1).trans (laws_szRow.s v0 v1 b h)))
noncomputable def laws_szIntS.t {γ : Type} (ret : (Int) → Option γ) (v0 : List Int) (v1 : Int) : Option γ :=
  bif Decidable.decide (Go.IntKind.i64.wrap (v1 - (↑v0.length : Int)) < (0 : Int)) then
    ret ((-1 : Int))
  else
    ret (Go.IntKind.i64.wrap (v1 - (↑v0.length : Int)))
theorem laws_szIntS.k (v0 : List Int) (v1 : Int) : topL E (callT E tab) 100 Try.f100 (laws_szIntS.c v0 v1) = laws_szIntS.t (fun b => some (laws_szIntS.mk b)) v0 v1 := by kernel_rfl
theorem laws_szIntS.s (v0 : List Int) (v1 : Int) : Sub laws_szIntS.mk (laws_szIntS.t some v0 v1) (laws_szIntS.t (fun b => some (laws_szIntS.mk b)) v0 v1) := by
  unfold laws_szIntS.t
  repeat' first | exact Sub.ret | exact Sub.none | exact Sub.loop | apply Sub.cond | (apply Sub.bind; intro _)
theorem laws_szIntS.eq (v0 : List Int) (v1 : Int) {b : Int} (h : laws_szIntS.t some v0 v1 = some b) : laws_szIntS v0 v1 = some b := tOf_intro laws_szIntS.un (fun _ => by kernel_rfl) (vlim_fn (callT_le E tab) rfl rfl rfl ((laws_szIntS.k v0 v1).trans (laws_szIntS.s v0 v1 b h)))
noncomputable def laws_toTable.t {γ : Type} (ret : (Int × (List (List Int × Int))) → Option γ) (v0 : Int) (v1 : List (List Int × Int)) : Option γ :=
  (laws_toWeightedS (v1)).bind fun (r0 : (List (List Int × Int))) =>
  ret (v0, r0)
theorem laws_toTable.k (v0 : Int) (v1 : List (List Int × Int)) : topL E (callT E tab) 17 Try.f17 (laws_toTable.c v0 v1) = laws_toTable.t (fun b => some (laws_toTable.mk b)) v0 v1 := by kernel_rfl
theorem laws_toTable.s (v0 : Int) (v1 : List (List Int × Int)) : Sub laws_toTable.mk (laws_toTable.t some v0 v1) (laws_toTable.t (fun b => some (laws_toTable.mk b)) v0 v1) := by
  unfold laws_toTable.t
  repeat' first | exact Sub.ret | exact Sub.none | exact Sub.loop | apply Sub.cond | (apply Sub.bind; intro _)
theorem laws_toTable.eq (v0 : Int) (v1 : List (List Int × Int)) {b : Int × (List (List Int × Int))} (h : laws_toTable.t some v0 v1 = some b) : laws_toTable v0 v1 = some b := tOf_intro laws_toTable.un (fun _ => by kernel_rfl) (vlim_fn (callT_le E tab) rfl rfl rfl ((laws_toTable.k v0 v1).trans (laws_toTable.s v0 v1 b h)))
noncomputable def laws_toWeightedS.q3 (v0 : List (List Int × Int)) (v1 : List (List Int × Int)) (v2 : Int) : Option R := loopAtL E (callT E tab) 38 Try.f38 1 [.r, .r, .l, .r, .b] (vc (.d .fro (.sl (.pair (.sl (.int .i64)) (.int .i64))) v0) :: nn 2 (vc (.d .deep (.sl (.pair (.sl (.int .i64)) (.int .i64))) v1) :: vc (iL v2) :: nn 18 ([])))
noncomputable def laws_toWeightedS.l3 (v0 : List (List Int × Int)) (v1 : List (List Int × Int)) (v2 : Int) : Option ((List (List Int × Int))) := tOf laws_toWeightedS.mk (laws_toWeightedS.q3 v0 v1 v2)
noncomputable def laws_toWeightedS.t {γ : Type} (ret : ((List (List Int × Int))) → Option γ) (lp3 : (List (List Int × Int)) → (List (List Int × Int)) → Int → Option γ) (v0 : List (List Int × Int)) : Option γ :=
  bif Decidable.decide ((↑v0.length : Int) = (↑v0.length : Int)) then
    bif Decidable.decide ((↑v0.length : Int) ≤ (↑(4294967296 : Nat) : Int)) then
      lp3 (v0) (List.replicate (↑v0.length : Int).toNat ([], (0 : Int))) ((0 : Int))
    else
      none
  else
    none
noncomputable def laws_toWeightedS.t3 {γ : Type} (ret : ((List (List Int × Int))) → Option γ) (lp3 : (List (List Int × Int)) → (List (List Int × Int)) → Int → Option γ) (v0 : List (List Int × Int)) (v1 : List (List Int × Int)) (v2 : Int) : Option γ :=
  bif Decidable.decide (v2 < (↑v0.length : Int)) then
    bif Decidable.decide ((0 : Int) ≤ v2) then
      bif Decidable.decide (v2.toNat < v0.length) then
        (laws_toWeighted ((v0.getD v2.toNat ([], (0 : Int))).fst) ((v0.getD v2.toNat ([], (0 : Int))).snd)).bind fun (r0 : (List Int) × Int) =>
        bif Decidable.decide ((0 : Int) ≤ v2) then
          bif Decidable.decide (v2.toNat < v1.length) then
            bif Decidable.decide (v2.toNat < v1.length) then
              lp3 (v0) (v1.set v2.toNat (r0.fst, r0.snd)) (Go.IntKind.i64.wrap (v2 + (1 : Int)))
            else
              none
          else
            none
        else
          none
      else
        none
    else
      none
  else
    ret (v1)
theorem laws_toWeightedS.k (v0 : List (List Int × Int)) : topL E (callT E tab) 38 Try.f38 (laws_toWeightedS.c v0) = laws_toWeightedS.t (fun b => some (laws_toWeightedS.mk b)) laws_toWeightedS.q3 v0 := by kernel_rfl
theorem laws_toWeightedS.k3 (v0 : List (List Int × Int)) (v1 : List (List Int × Int)) (v2 : Int) : roundL E (callT E tab) 38 Try.f38 1 [.r, .r, .l, .r, .b] (vc (.d .fro (.sl (.pair (.sl (.int .i64)) (.int .i64))) v0) :: nn 2 (vc (.d .deep (.sl (.pair (.sl (.int .i64)) (.int .i64))) v1) :: vc (iL v2) :: nn 18 ([]))) = laws_toWeightedS.t3 (fun b => some (laws_toWeightedS.mk b)) laws_toWeightedS.q3 v0 v1 v2 := by kernel_rfl
theorem laws_toWeightedS.s (v0 : List (List Int × Int)) : Sub laws_toWeightedS.mk (laws_toWeightedS.t some laws_toWeightedS.l3 v0) (laws_toWeightedS.t (fun b => some (laws_toWeightedS.mk b)) laws_toWeightedS.q3 v0) := by
  unfold laws_toWeightedS.t
  repeat' first | exact Sub.ret | exact Sub.none | exact Sub.loop | apply Sub.cond | (apply Sub.bind; intro _)
theorem laws_toWeightedS.eq (v0 : List (List Int × Int)) {b : (List (List Int × Int))} (h : laws_toWeightedS.t some laws_toWeightedS.l3 v0 = some b) : laws_toWeightedS v0 = some b := tOf_intro laws_toWeightedS.un (fun _ => by kernel_rfl) (vlim_fn (callT_le E tab) rfl rfl rfl ((laws_toWeightedS.k v0).trans (laws_toWeightedS.s v0 b h)))
theorem laws_toWeightedS.s3 (v0 : List (List Int × Int)) (v1 : List (List Int × Int)) (v2 : Int) : Sub laws_toWeightedS.mk (laws_toWeightedS.t3 some laws_toWeightedS.l3 v0 v1 v2) (laws_toWeightedS.t3 (fun b => some (laws_toWeightedS.mk b)) laws_toWeightedS.q3 v0 v1 v2) := by
  unfold laws_toWeightedS.t3
  repeat' first | exact Sub.ret | exact Sub.none | exact Sub.loop | apply Sub.cond | (apply Sub.bind; intro _)
theorem laws_toWeightedS.eq3 (v0 : List (List Int × Int)) (v1 : List (List Int × Int)) (v2 : Int) {b : (List (List Int × Int))} (h : laws_toWeightedS.t3 some laws_toWeightedS.l3 v0 v1 v2 = some b) : laws_toWeightedS.l3 v0 v1 v2 = some b := tOf_intro laws_toWeightedS.un (fun _ => by kernel_rfl) (loopAtL_step ((laws_toWeightedS.k3 v0 v1 v2).trans (laws_toWeightedS.s3 v0 v1 v2 b h)))
noncomputable def laws_toWeighted.t {γ : Type} (ret : ((List Int) × Int) → Option γ) (v0 : List Int) (v1 : Int) : Option γ :=
  (laws_toRow (v0)).bind fun (r0 : (List Int)) =>
  ret (r0, v1)
theorem laws_toWeighted.k (v0 : List Int) (v1 : Int) : topL E (callT E tab) 87 Try.f87 (laws_toWeighted.c v0 v1) = laws_toWeighted.t (fun b => some (laws_toWeighted.mk b)) v0 v1 := by kernel_rfl
theorem laws_toWeighted.s (v0 : List Int) (v1 : Int) : Sub laws_toWeighted.mk (laws_toWeighted.t some v0 v1) (laws_toWeighted.t (fun b => some (laws_toWeighted.mk b)) v0 v1) := by
  unfold laws_toWeighted.t
  repeat' first | exact Sub.ret | exact Sub.none | exact Sub.loop | apply Sub.cond | (apply Sub.bind; intro _)
theorem laws_toWeighted.eq (v0 : List Int) (v1 : Int) {b : (List Int) × Int} (h : laws_toWeighted.t some v0 v1 = some b) : laws_toWeighted v0 v1 = some b := tOf_intro laws_toWeighted.un (fun _ => by kernel_rfl) (vlim_fn (callT_le E tab) rfl rfl rfl ((laws_toWeighted.k v0 v1).trans (laws_toWeighted.s v0 v1 b h)))
noncomputable def laws_toRow.t {γ : Type} (ret : ((List Int)) → Option γ) (v0 : List Int) : Option γ :=
  (laws_toIntS (v0)).bind fun (r0 : (List Int)) =>
  ret (r0)
theorem laws_toRow.k (v0 : List Int) : topL E (callT E tab) 124 Try.f124 (laws_toRow.c v0) = laws_toRow.t (fun b => some (laws_toRow.mk b)) v0 := by kernel_rfl
theorem laws_toRow.s (v0 : List Int) : Sub laws_toRow.mk (laws_toRow.t some v0) (laws_toRow.t (fun b => some (laws_toRow.mk b)) v0) := by
  unfold laws_toRow.t
  repeat' first | exact Sub.ret | exact Sub.none | exact Sub.loop | apply Sub.cond | (apply Sub.bind; intro _)
theorem laws_toRow.eq (v0 : List Int) {b : (List Int)} (h : laws_toRow.t some v0 = some b) : laws_toRow v0 = some b := tOf_intro laws_toRow.un (fun _ => by kernel_rfl) (vlim_fn (callT_le E tab) rfl rfl rfl ((laws_toRow.k v0).trans (laws_toRow.s v0 b h)))
noncomputable def laws_toIntS.q3 (v0 : List Int) (v1 : List Int) (v2 : Int) : Option R := loopAtL E (callT E tab) 45 Try.f45 1 [.r, .r, .l, .r, .b] (vc (.d .fro (.sl (.int .i64)) v0) :: nn 2 (vc (.d .deep (.sl (.int .i64)) v1) :: vc (iL v2) :: nn 17 ([])))
noncomputable def laws_toIntS.l3 (v0 : List Int) (v1 : List Int) (v2 : Int) : Option ((List Int)) := tOf laws_toIntS.mk (laws_toIntS.q3 v0 v1 v2)
noncomputable def laws_toIntS.t {γ : Type} (ret : ((List Int)) → Option γ) (lp3 : (List Int) → (List Int) → Int → Option γ) (v0 : List Int) : Option γ :=
  bif Decidable.decide ((↑v0.length : Int) = (↑v0.length : Int)) then
    bif Decidable.decide ((↑v0.length : Int) ≤ (↑(4294967296 : Nat) : Int)) then
      lp3 (v0) (List.replicate (↑v0.length : Int).toNat (0 : Int)) ((0 : Int))
    else
      none
  else
    none
noncomputable def laws_toIntS.t3 {γ : Type} (ret : ((List Int)) → Option γ) (lp3 : (List Int) → (List Int) → Int → Option γ) (v0 : List Int) (v1 : List Int) (v2 : Int) : Option γ :=
  bif Decidable.decide (v2 < (↑v0.length : Int)) then
    bif Decidable.decide ((0 : Int) ≤ v2) then
      bif Decidable.decide (v2.toNat < v0.length) then
        bif Decidable.decide ((0 : Int) ≤ v2) then
          bif Decidable.decide (v2.toNat < v1.length) then
            bif Decidable.decide (v2.toNat < v1.length) then
              lp3 (v0) (v1.set v2.toNat (v0.getD v2.toNat (0 : Int))) (Go.IntKind.i64.wrap (v2 + (1 : Int)))
            else
              none
          else
            none
        else
          none
      else
        none
    else
      none
  else
    ret (v1)
theorem laws_toIntS.k (v0 : List Int) : topL E (callT E tab) 45 Try.f45 (laws_toIntS.c v0) = laws_toIntS.t (fun b => some (laws_toIntS.mk b)) laws_toIntS.q3 v0 := by kernel_rfl
theorem laws_toIntS.k3 (v0 : List Int) (v1 : List Int) (v2 : Int) : roundL E (callT E tab) 45 Try.f45 1 [.r, .r, .l, .r, .b] (vc (.d .fro (.sl (.int .i64)) v0) :: nn 2 (vc (.d .deep (.sl (.int .i64)) v1) :: vc (iL v2) :: nn 17 ([]))) = laws_toIntS.t3 (fun b => some (laws_toIntS.mk b)) laws_toIntS.q3 v0 v1 v2 := by kernel_rfl
theorem laws_toIntS.s (v0 : List Int) : Sub laws_toIntS.mk (laws_toIntS.t some laws_toIntS.l3 v0) (laws_toIntS.t (fun b => some (laws_toIntS.mk b)) laws_toIntS.q3 v0) := by
  unfold laws_toIntS.t
  repeat' first | exact Sub.ret | exact Sub.none | exact Sub.loop | apply Sub.cond | (apply Sub.bind; intro _)
theorem laws_toIntS.eq (v0 : List Int) {b : (List Int)} (h : laws_toIntS.t some laws_toIntS.l3 v0 = some b) : laws_toIntS v0 = some b := tOf_intro laws_toIntS.un (fun _ => by kernel_rfl) (vlim_fn (callT_le E tab) rfl rfl rfl ((laws_toIntS.k v0).trans (laws_toIntS.s v0 b h)))
theorem laws_toIntS.s3 (v0 : List Int) (v1 : List Int) (v2 : Int) : Sub laws_toIntS.mk (laws_toIntS.t3 some laws_toIntS.l3 v0 v1 v2) (laws_toIntS.t3 (fun b => some (laws_toIntS.mk b)) laws_toIntS.q3 v0 v1 v2) := by
  unfold laws_toIntS.t3
  repeat' first | exact Sub.ret | exact Sub.none | exact Sub.loop | apply Sub.cond | (apply Sub.bind; intro _)
theorem laws_toIntS.eq3 (v0 : List Int) (v1 : List Int) (v2 : Int) {b : (List Int)} (h : laws_toIntS.t3 some laws_toIntS.l3 v0 v1 v2 = some b) : laws_toIntS.l3 v0 v1 v2 = some b := tOf_intro laws_toIntS.un (fun _ => by kernel_rfl) (loopAtL_step ((laws_toIntS.k3 v0 v1 v2).trans (laws_toIntS.s3 v0 v1 v2 b h)))
noncomputable def spec_GoodTable.q2 (v0 : Int) (v1 : List (List Int × Int)) (v2 : List (List Int × Int)) (v3 : Int) (v4 : Int) : Option R := loopAtL E (callT E tab) 59 Try.f59 1 [.r, .l, .r, .b] (nn 1 (⟨(.box false), [iL v0, .d .fro (.sl (.pair (.sl (.int .i64)) (.int .i64))) v1], false, false, false, 0, 0⟩ :: nn 4 (vc (.d .fro (.sl (.pair (.sl (.int .i64)) (.int .i64))) v2) :: vc (iL v3) :: vc (iL v4) :: nn 55 ([]))))
noncomputable def spec_GoodTable.l2 (v0 : Int) (v1 : List (List Int × Int)) (v2 : List (List Int × Int)) (v3 : Int) (v4 : Int) : Option (Bool) := tOf spec_GoodTable.mk (spec_GoodTable.q2 v0 v1 v2 v3 v4)
noncomputable def spec_GoodTable.t {γ : Type} (ret : (Bool) → Option γ) (lp2 : Int → (List (List Int × Int)) → (List (List Int × Int)) → Int → Int → Option γ) (v0 : Int) (v1 : List (List Int × Int)) : Option γ :=
  lp2 (v0) (v1) (v1) ((↑v1.length : Int)) ((0 : Int))
noncomputable def spec_GoodTable.t2 {γ : Type} (ret : (Bool) → Option γ) (lp2 : Int → (List (List Int × Int)) → (List (List Int × Int)) → Int → Int → Option γ) (v0 : Int) (v1 : List (List Int × Int)) (v2 : List (List Int × Int)) (v3 : Int) (v4 : Int) : Option γ :=
  bif Decidable.decide (v4 < v3) then
    bif Decidable.decide ((0 : Int) ≤ v4) then
      bif Decidable.decide (v4.toNat < v2.length) then
        (spec_GoodRow ((v2.getD v4.toNat ([], (0 : Int))).fst)).bind fun (r0 : Bool) =>
        bif !r0 then
          ret (Bool.false)
        else
          bif (↑(v2.getD v4.toNat ([], (0 : Int))).fst.length : Int) != v0 then
            ret (Bool.false)
          else
            (spec_l2Weight ((v2.getD v4.toNat ([], (0 : Int))).snd)).bind fun (r1 : Bool) =>
            bif !r1 then
              ret (Bool.false)
            else
              bif (v2.getD v4.toNat ([], (0 : Int))).snd == (0 : Int) then
                ret (Bool.false)
              else
                bif Decidable.decide (v4 > (0 : Int)) then
                  bif Decidable.decide ((0 : Int) ≤ Go.IntKind.i64.wrap (v4 - (1 : Int))) then
                    bif Decidable.decide ((Go.IntKind.i64.wrap (v4 - (1 : Int))).toNat < v1.length) then
                      (spec_l1Compare ((v1.getD (Go.IntKind.i64.wrap (v4 - (1 : Int))).toNat ([], (0 : Int))).fst) ((v2.getD v4.toNat ([], (0 : Int))).fst)).bind fun (r2 : Int) =>
                      bif Decidable.decide (r2 ≥ (0 : Int)) then
                        ret (Bool.false)
                      else
                        lp2 (v0) (v1) (v2) (v3) (Go.IntKind.i64.wrap (v4 + (1 : Int)))
                    else
                      none
                  else
                    none
                else
                  lp2 (v0) (v1) (v2) (v3) (Go.IntKind.i64.wrap (v4 + (1 : Int)))
      else
        none
    else
      none
  else
    (spec_l1In (v0) ((0 : Int)) ((6 : Int))).bind fun (r3 : Bool) =>
    bif r3 then
      ret (Decidable.decide ((↑v1.length : Int) ≤ (60 : Int)))
    else
      ret (Bool.false)
theorem spec_GoodTable.k (v0 : Int) (v1 : List (List Int × Int)) : topL E (callT E tab) 59 Try.f59 (spec_GoodTable.c v0 v1) = spec_GoodTable.t (fun b => some (spec_GoodTable.mk b)) spec_GoodTable.q2 v0 v1 := by kernel_rfl
theorem spec_GoodTable.k2 (v0 : Int) (v1 : List (List Int × Int)) (v2 : List (List Int × Int)) (v3 : Int) (v4 : Int) : roundL E (callT E tab) 59 Try.f59 1 [.r, .l, .r, .b] (nn 1 (⟨(.box false), [iL v0, .d .fro (.sl (.pair (.sl (.int .i64)) (.int .i64))) v1], false, false, false, 0, 0⟩ :: nn 4 (vc (.d .fro (.sl (.pair (.sl (.int .i64)) (.int .i64))) v2) :: vc (iL v3) :: vc (iL v4) :: nn 55 ([])))) = spec_GoodTable.t2 (fun b => some (spec_GoodTable.mk b)) spec_GoodTable.q2 v0 v1 v2 v3 v4 := by kernel_rfl
theorem spec_GoodTable.s (v0 : Int) (v1 : List (List Int × Int)) : Sub spec_GoodTable.mk (spec_GoodTable.t some spec_GoodTable.l2 v0 v1) (spec_GoodTable.t (fun b => some (spec_GoodTable.mk b)) spec_GoodTable.q2 v0 v1) := by
  unfold spec_GoodTable.t
  repeat' first | exact Sub.ret | exact Sub.none | exact Sub.loop | apply Sub.cond | (apply Sub.bind; intro _)
theorem spec_GoodTable.eq (v0 : Int) (v1 : List (List Int × Int)) {b : Bool} (h : spec_GoodTable.t some spec_GoodTable.l2 v0 v1 = some b) : spec_GoodTable v0 v1 = some b := tOf_intro spec_GoodTable.un (fun _ => by kernel_rfl) (vlim_fn (callT_le E tab) rfl rfl rfl ((spec_GoodTable.k v0 v1).trans (spec_GoodTable.s v0 v1 b h)))
theorem spec_GoodTable.s2 (v0 : Int) (v1 : List (List Int × Int)) (v2 : List (List Int × Int)) (v3 : Int) (v4 : Int) : Sub spec_GoodTable.mk (spec_GoodTable.t2 some spec_GoodTable.l2 v0 v1 v2 v3 v4) (spec_GoodTable.t2 (fun b => some (spec_GoodTable.mk b)) spec_GoodTable.q2 v0 v1 v2 v3 v4) := by
  unfold spec_GoodTable.t2
  repeat' first | exact Sub.ret | exact Sub.none | exact Sub.loop | apply Sub.cond | (apply Sub.bind; intro _)
theorem spec_GoodTable.eq2 (v0 : Int) (v1 : List (List Int × Int)) (v2 : List (List Int × Int)) (v3 : Int) (v4 : Int) {b : Bool} (h : spec_GoodTable.t2 some spec_GoodTable.l2 v0 v1 v2 v3 v4 = some b) : spec_GoodTable.l2 v0 v1 v2 v3 v4 = some b := tOf_intro spec_GoodTable.un (fun _ => by kernel_rfl) (loopAtL_step ((spec_GoodTable.k2 v0 v1 v2 v3 v4).trans (spec_GoodTable.s2 v0 v1 v2 v3 v4 b h)))
noncomputable def spec_GoodRow.q2 (v0 : List Int) (v1 : List Int) (v2 : Int) (v3 : Int) : Option R := loopAtL E (callT E tab) 84 Try.f84 1 [.r, .l, .r, .b] (nn 1 (⟨(.box false), [.d .fro (.sl (.int .i64)) v0], false, false, false, 0, 0⟩ :: nn 4 (vc (.d .fro (.sl (.int .i64)) v1) :: vc (iL v2) :: vc (iL v3) :: nn 11 ([]))))
noncomputable def spec_GoodRow.l2 (v0 : List Int) (v1 : List Int) (v2 : Int) (v3 : Int) : Option (Bool) := tOf spec_GoodRow.mk (spec_GoodRow.q2 v0 v1 v2 v3)
noncomputable def spec_GoodRow.t {γ : Type} (ret : (Bool) → Option γ) (lp2 : (List Int) → (List Int) → Int → Int → Option γ) (v0 : List Int) : Option γ :=
  lp2 (v0) (v0) ((↑v0.length : Int)) ((0 : Int))
noncomputable def spec_GoodRow.t2 {γ : Type} (ret : (Bool) → Option γ) (lp2 : (List Int) → (List Int) → Int → Int → Option γ) (v0 : List Int) (v1 : List Int) (v2 : Int) (v3 : Int) : Option γ :=
  bif Decidable.decide (v3 < v2) then
    bif Decidable.decide ((0 : Int) ≤ v3) then
      bif Decidable.decide (v3.toNat < v1.length) then
        (spec_l1In (v1.getD v3.toNat (0 : Int)) ((-100000 : Int)) ((100000 : Int))).bind fun (r0 : Bool) =>
        bif !r0 then
          ret (Bool.false)
        else
          lp2 (v0) (v1) (v2) (Go.IntKind.i64.wrap (v3 + (1 : Int)))
      else
        none
    else
      none
  else
    ret (Decidable.decide ((↑v0.length : Int) ≤ (6 : Int)))
theorem spec_GoodRow.k (v0 : List Int) : topL E (callT E tab) 84 Try.f84 (spec_GoodRow.c v0) = spec_GoodRow.t (fun b => some (spec_GoodRow.mk b)) spec_GoodRow.q2 v0 := by kernel_rfl
theorem spec_GoodRow.k2 (v0 : List Int) (v1 : List Int) (v2 : Int) (v3 : Int) : roundL E (callT E tab) 84 Try.f84 1 [.r, .l, .r, .b] (nn 1 (⟨(.box false), [.d .fro (.sl (.int .i64)) v0], false, false, false, 0, 0⟩ :: nn 4 (vc (.d .fro (.sl (.int .i64)) v1) :: vc (iL v2) :: vc (iL v3) :: nn 11 ([])))) = spec_GoodRow.t2 (fun b => some (spec_GoodRow.mk b)) spec_GoodRow.q2 v0 v1 v2 v3 := by kernel_rfl
theorem spec_GoodRow.s (v0 : List Int) : Sub spec_GoodRow.mk (spec_GoodRow.t some spec_GoodRow.l2 v0) (spec_GoodRow.t (fun b => some (spec_GoodRow.mk b)) spec_GoodRow.q2 v0) := by
  unfold spec_GoodRow.t
  repeat' first | exact Sub.ret | exact Sub.none | exact Sub.loop | apply Sub.cond | (apply Sub.bind; intro _)
theorem spec_GoodRow.eq (v0 : List Int) {b : Bool} (h : spec_GoodRow.t some spec_GoodRow.l2 v0 = some b) : spec_GoodRow v0 = some b := tOf_intro spec_GoodRow.un (fun _ => by kernel_rfl) (vlim_fn (callT_le E tab) rfl rfl rfl ((spec_GoodRow.k v0).trans (spec_GoodRow.s v0 b h)))
theorem spec_GoodRow.s2 (v0 : List Int) (v1 : List Int) (v2 : Int) (v3 : Int) : Sub spec_GoodRow.mk (spec_GoodRow.t2 some spec_GoodRow.l2 v0 v1 v2 v3) (spec_GoodRow.t2 (fun b => some (spec_GoodRow.mk b)) spec_GoodRow.q2 v0 v1 v2 v3) := by
  unfold spec_GoodRow.t2
  repeat' first | exact Sub.ret | exact Sub.none | exact Sub.loop | apply Sub.cond | (apply Sub.bind; intro _)
theorem spec_GoodRow.eq2 (v0 : List Int) (v1 : List Int) (v2 : Int) (v3 : Int) {b : Bool} (h : spec_GoodRow.t2 some spec_GoodRow.l2 v0 v1 v2 v3 = some b) : spec_GoodRow.l2 v0 v1 v2 v3 = some b := tOf_intro spec_GoodRow.un (fun _ => by kernel_rfl) (loopAtL_step ((spec_GoodRow.k2 v0 v1 v2 v3).trans (spec_GoodRow.s2 v0 v1 v2 v3 b h)))
noncomputable def spec_l1In.t {γ : Type} (ret : (Bool) → Option γ) (v0 : Int) (v1 : Int) (v2 : Int) : Option γ :=
  bif Decidable.decide (v0 ≥ v1) then
    ret (Decidable.decide (v0 ≤ v2))
  else
    ret (Bool.false)
theorem spec_l1In.k (v0 : Int) (v1 : Int) (v2 : Int) : topL E (callT E tab) 65 Try.f65 (spec_l1In.c v0 v1 v2) = spec_l1In.t (fun b => some (spec_l1In.mk b)) v0 v1 v2 := by kernel_rfl
theorem spec_l1In.s (v0 : Int) (v1 : Int) (v2 : Int) : Sub spec_l1In.mk (spec_l1In.t some v0 v1 v2) (spec_l1In.t (fun b => some (spec_l1In.mk b)) v0 v1 v2) := by
  unfold spec_l1In.t
  repeat' first | exact Sub.ret | exact Sub.none | exact Sub.loop | apply Sub.cond | (apply Sub.bind; intro _)
theorem spec_l1In.eq (v0 : Int) (v1 : Int) (v2 : Int) {b : Bool} (h : spec_l1In.t some v0 v1 v2 = some b) : spec_l1In v0 v1 v2 = some b := tOf_intro spec_l1In.un (fun _ => by kernel_rfl) (vlim_fn (callT_le E tab) rfl rfl rfl ((spec_l1In.k v0 v1 v2).trans (spec_l1In.s v0 v1 v2 b h)))
noncomputable def spec_l2Weight.t {γ : Type} (ret : (Bool) → Option γ) (v0 : Int) : Option γ :=
  (spec_l1In (v0) ((-1000000 : Int)) ((1000000 : Int))).bind fun (r0 : Bool) =>
  ret (r0)
theorem spec_l2Weight.k (v0 : Int) : topL E (callT E tab) 85 Try.f85 (spec_l2Weight.c v0) = spec_l2Weight.t (fun b => some (spec_l2Weight.mk b)) v0 := by kernel_rfl
theorem spec_l2Weight.s (v0 : Int) : Sub spec_l2Weight.mk (spec_l2Weight.t some v0) (spec_l2Weight.t (fun b => some (spec_l2Weight.mk b)) v0) := by
  unfold spec_l2Weight.t
  repeat' first | exact Sub.ret | exact Sub.none | exact Sub.loop | apply Sub.cond | (apply Sub.bind; intro _)
theorem spec_l2Weight.eq (v0 : Int) {b : Bool} (h : spec_l2Weight.t some v0 = some b) : spec_l2Weight v0 = some b := tOf_intro spec_l2Weight.un (fun _ => by kernel_rfl) (vlim_fn (callT_le E tab) rfl rfl rfl ((spec_l2Weight.k v0).trans (spec_l2Weight.s v0 b h)))
noncomputable def spec_l1Compare.q2 (v0 : List Int) (v1 : List Int) (v2 : Int) : Option R := loopAtL E (callT E tab) 106 Try.f106 2 [.r, .l, .r, .b] (nn 2 (⟨(.box false), [.d .fro (.sl (.int .i64)) v0], false, false, false, 0, 0⟩ :: ⟨(.box false), [.d .fro (.sl (.int .i64)) v1], false, false, false, 0, 0⟩ :: nn 1 (vc (iL v2) :: nn 52 ([]))))
noncomputable def spec_l1Compare.l2 (v0 : List Int) (v1 : List Int) (v2 : Int) : Option (Int) := tOf spec_l1Compare.mk (spec_l1Compare.q2 v0 v1 v2)
noncomputable def spec_l1Compare.t {γ : Type} (ret : (Int) → Option γ) (lp2 : (List Int) → (List Int) → Int → Option γ) (v0 : List Int) (v1 : List Int) : Option γ :=
  lp2 (v0) (v1) ((0 : Int))
noncomputable def spec_l1Compare.t2 {γ : Type} (ret : (Int) → Option γ) (lp2 : (List Int) → (List Int) → Int → Option γ) (v0 : List Int) (v1 : List Int) (v2 : Int) : Option γ :=
  bif Decidable.decide (v2 < (↑v0.length : Int)) then
    bif Decidable.decide (v2 < (↑v1.length : Int)) then
      bif Decidable.decide ((0 : Int) ≤ v2) then
        bif Decidable.decide (v2.toNat < v0.length) then
          bif Decidable.decide ((0 : Int) ≤ v2) then
            bif Decidable.decide (v2.toNat < v1.length) then
              bif Decidable.decide (v0.getD v2.toNat (0 : Int) < v1.getD v2.toNat (0 : Int)) then
                ret ((-1 : Int))
              else
                bif Decidable.decide ((0 : Int) ≤ v2) then
                  bif Decidable.decide (v2.toNat < v0.length) then
                    bif Decidable.decide ((0 : Int) ≤ v2) then
                      bif Decidable.decide (v2.toNat < v1.length) then
                        bif Decidable.decide (v0.getD v2.toNat (0 : Int) > v1.getD v2.toNat (0 : Int)) then
                          ret ((1 : Int))
                        else
                          lp2 (v0) (v1) (Go.IntKind.i64.wrap (v2 + (1 : Int)))
                      else
                        none
                    else
                      none
                  else
                    none
                else
                  none
            else
              none
          else
            none
        else
          none
      else
        none
    else
      bif Decidable.decide ((↑v0.length : Int) < (↑v1.length : Int)) then
        ret ((-1 : Int))
      else
        bif Decidable.decide ((↑v0.length : Int) > (↑v1.length : Int)) then
          ret ((1 : Int))
        else
          ret ((0 : Int))
  else
    bif Decidable.decide ((↑v0.length : Int) < (↑v1.length : Int)) then
      ret ((-1 : Int))
    else
      bif Decidable.decide ((↑v0.length : Int) > (↑v1.length : Int)) then
        ret ((1 : Int))
      else
        ret ((0 : Int))
theorem spec_l1Compare.k (v0 : List Int) (v1 : List Int) : topL E (callT E tab) 106 Try.f106 (spec_l1Compare.c v0 v1) = spec_l1Compare.t (fun b => some (spec_l1Compare.mk b)) spec_l1Compare.q2 v0 v1 := by kernel_rfl
theorem spec_l1Compare.k2 (v0 : List Int) (v1 : List Int) (v2 : Int) : roundL E (callT E tab) 106 Try.f106 2 [.r, .l, .r, .b] (nn 2 (⟨(.box false), [.d .fro (.sl (.int .i64)) v0], false, false, false, 0, 0⟩ :: ⟨(.box false), [.d .fro (.sl (.int .i64)) v1], false, false, false, 0, 0⟩ :: nn 1 (vc (iL v2) :: nn 52 ([])))) = spec_l1Compare.t2 (fun b => some (spec_l1Compare.mk b)) spec_l1Compare.q2 v0 v1 v2 := by kernel_rfl
theorem spec_l1Compare.s (v0 : List Int) (v1 : List Int) : Sub spec_l1Compare.mk (spec_l1Compare.t some spec_l1Compare.l2 v0 v1) (spec_l1Compare.t (fun b => some (spec_l1Compare.mk b)) spec_l1Compare.q2 v0 v1) := by
  unfold spec_l1Compare.t
  repeat' first | exact Sub.ret | exact Sub.none | exact Sub.loop | apply Sub.cond | (apply Sub.bind; intro _)
theorem spec_l1Compare.eq (v0 : List Int) (v1 : List Int) {b : Int} (h : spec_l1Compare.t some spec_l1Compare.l2 v0 v1 = some b) : spec_l1Compare v0 v1 = some b := tOf_intro spec_l1Compare.un (fun _ => by kernel_rfl) (vlim_fn (callT_le E tab) rfl rfl rfl ((spec_l1Compare.k v0 v1).trans (spec_l1Compare.s v0 v1 b h)))
theorem spec_l1Compare.s2 (v0 : List Int) (v1 : List Int) (v2 : Int) : Sub spec_l1Compare.mk (spec_l1Compare.t2 some spec_l1Compare.l2 v0 v1 v2) (spec_l1Compare.t2 (fun b => some (spec_l1Compare.mk b)) spec_l1Compare.q2 v0 v1 v2) := by
  unfold spec_l1Compare.t2
  repeat' first | exact Sub.ret | exact Sub.none | exact Sub.loop | apply Sub.cond | (apply Sub.bind; intro _)
theorem spec_l1Compare.eq2 (v0 : List Int) (v1 : List Int) (v2 : Int) {b : Int} (h : spec_l1Compare.t2 some spec_l1Compare.l2 v0 v1 v2 = some b) : spec_l1Compare.l2 v0 v1 v2 = some b := tOf_intro spec_l1Compare.un (fun _ => by kernel_rfl) (loopAtL_step ((spec_l1Compare.k2 v0 v1 v2).trans (spec_l1Compare.s2 v0 v1 v2 b h)))
noncomputable def spec_l2Tell.q3 (v0 : Int) (v1 : List (List Int × Int)) (v2 : Int) (v3 : List (List Int × Int)) (v4 : List (List Int × Int)) (v5 : Int) (v6 : Int) : Option R := loopAtL E (callT E tab) 60 Try.f60 2 [.r, .r, .l, .r, .b] (nn 4 (⟨(.box false), [iL v0, .d .deep (.sl (.pair (.sl (.int .i64)) (.int .i64))) v1], false, false, false, 0, 0⟩ :: nn 1 (⟨(.box false), [iL v2, .d .deep (.sl (.pair (.sl (.int .i64)) (.int .i64))) v3], false, false, false, 0, 0⟩ :: nn 4 (vc (.d .fro (.sl (.pair (.sl (.int .i64)) (.int .i64))) v4) :: vc (iL v5) :: vc (iL v6) :: nn 20 ([])))))
noncomputable def spec_l2Tell.l3 (v0 : Int) (v1 : List (List Int × Int)) (v2 : Int) (v3 : List (List Int × Int)) (v4 : List (List Int × Int)) (v5 : Int) (v6 : Int) : Option (Int × (List (List Int × Int)) × Bool) := tOf spec_l2Tell.mk (spec_l2Tell.q3 v0 v1 v2 v3 v4 v5 v6)
noncomputable def spec_l2Tell.t {γ : Type} (ret : (Int × (List (List Int × Int)) × Bool) → Option γ) (lp3 : Int → (List (List Int × Int)) → Int → (List (List Int × Int)) → (List (List Int × Int)) → Int → Int → Option γ) (v0 : Int) (v1 : List (List Int × Int)) : Option γ :=
  lp3 ((0 : Int)) ([]) (v0) ([]) (v1) ((↑v1.length : Int)) ((0 : Int))
noncomputable def spec_l2Tell.t3 {γ : Type} (ret : (Int × (List (List Int × Int)) × Bool) → Option γ) (lp3 : Int → (List (List Int × Int)) → Int → (List (List Int × Int)) → (List (List Int × Int)) → Int → Int → Option γ) (v0 : Int) (v1 : List (List Int × Int)) (v2 : Int) (v3 : List (List Int × Int)) (v4 : List (List Int × Int)) (v5 : Int) (v6 : Int) : Option γ :=
  bif Decidable.decide (v6 < v5) then
    bif Decidable.decide ((0 : Int) ≤ v6) then
      bif Decidable.decide (v6.toNat < v4.length) then
        (spec_l2OwnRow ((v4.getD v6.toNat ([], (0 : Int))).fst)).bind fun (r0 : (List Int)) =>
        bif Decidable.decide (v3.length + [(r0, (v4.getD v6.toNat ([], (0 : Int))).snd)].length ≤ (4294967296 : Nat)) then
          lp3 (v0) (v1) (v2) (v3 ++ [(r0, (v4.getD v6.toNat ([], (0 : Int))).snd)]) (v4) (v5) (Go.IntKind.i64.wrap (v6 + (1 : Int)))
        else
          none
      else
        none
    else
      none
  else
    (spec_GoodTable (v2) (v3)).bind fun (r1 : Bool) =>
    bif !r1 then
      ret ((0 : Int), [], Bool.false)
    else
      ret (v2, v3, Bool.true)
theorem spec_l2Tell.k (v0 : Int) (v1 : List (List Int × Int)) : topL E (callT E tab) 60 Try.f60 (spec_l2Tell.c v0 v1) = spec_l2Tell.t (fun b => some (spec_l2Tell.mk b)) spec_l2Tell.q3 v0 v1 := by kernel_rfl
theorem spec_l2Tell.k3 (v0 : Int) (v1 : List (List Int × Int)) (v2 : Int) (v3 : List (List Int × Int)) (v4 : List (List Int × Int)) (v5 : Int) (v6 : Int) : roundL E (callT E tab) 60 Try.f60 2 [.r, .r, .l, .r, .b] (nn 4 (⟨(.box false), [iL v0, .d .deep (.sl (.pair (.sl (.int .i64)) (.int .i64))) v1], false, false, false, 0, 0⟩ :: nn 1 (⟨(.box false), [iL v2, .d .deep (.sl (.pair (.sl (.int .i64)) (.int .i64))) v3], false, false, false, 0, 0⟩ :: nn 4 (vc (.d .fro (.sl (.pair (.sl (.int .i64)) (.int .i64))) v4) :: vc (iL v5) :: vc (iL v6) :: nn 20 ([]))))) = spec_l2Tell.t3 (fun b => some (spec_l2Tell.mk b)) spec_l2Tell.q3 v0 v1 v2 v3 v4 v5 v6 := by kernel_rfl
theorem spec_l2Tell.s (v0 : Int) (v1 : List (List Int × Int)) : Sub spec_l2Tell.mk (spec_l2Tell.t some spec_l2Tell.l3 v0 v1) (spec_l2Tell.t (fun b => some (spec_l2Tell.mk b)) spec_l2Tell.q3 v0 v1) := by
  unfold spec_l2Tell.t
  repeat' first | exact Sub.ret | exact Sub.none | exact Sub.loop | apply Sub.cond | (apply Sub.bind; intro _)
theorem spec_l2Tell.eq (v0 : Int) (v1 : List (List Int × Int)) {b : Int × (List (List Int × Int)) × Bool} (h : spec_l2Tell.t some spec_l2Tell.l3 v0 v1 = some b) : spec_l2Tell v0 v1 = some b := tOf_intro spec_l2Tell.un (fun _ => by kernel_rfl) (vlim_fn (callT_le E tab) rfl rfl rfl ((spec_l2Tell.k v0 v1).trans (spec_l2Tell.s v0 v1 b h)))
theorem spec_l2Tell.s3 (v0 : Int) (v1 : List (List Int × Int)) (v2 : Int) (v3 : List (List Int × Int)) (v4 : List (List Int × Int)) (v5 : Int) (v6 : Int) : Sub spec_l2Tell.mk (spec_l2Tell.t3 some spec_l2Tell.l3 v0 v1 v2 v3 v4 v5 v6) (spec_l2Tell.t3 (fun b => some (spec_l2Tell.mk b)) spec_l2Tell.q3 v0 v1 v2 v3 v4 v5 v6) := by
  unfold spec_l2Tell.t3
  repeat' first | exact Sub.ret | exact Sub.none | exact Sub.loop | apply Sub.cond | (apply Sub.bind; intro _)
theorem spec_l2Tell.eq3 (v0 : Int) (v1 : List (List Int × Int)) (v2 : Int) (v3 : List (List Int × Int)) (v4 : List (List Int × Int)) (v5 : Int) (v6 : Int) {b : Int × (List (List Int × Int)) × Bool} (h : spec_l2Tell.t3 some spec_l2Tell.l3 v0 v1 v2 v3 v4 v5 v6 = some b) : spec_l2Tell.l3 v0 v1 v2 v3 v4 v5 v6 = some b := tOf_intro spec_l2Tell.un (fun _ => by kernel_rfl) (loopAtL_step ((spec_l2Tell.k3 v0 v1 v2 v3 v4 v5 v6).trans (spec_l2Tell.s3 v0 v1 v2 v3 v4 v5 v6 b h)))
noncomputable def spec_l2OwnRow.t {γ : Type} (ret : ((List Int)) → Option γ) (v0 : List Int) : Option γ :=
  bif Decidable.decide (([] : List Int).length + v0.length ≤ (4294967296 : Nat)) then
    ret ([] ++ v0)
  else
    none
theorem spec_l2OwnRow.k (v0 : List Int) : topL E (callT E tab) 107 Try.f107 (spec_l2OwnRow.c v0) = spec_l2OwnRow.t (fun b => some (spec_l2OwnRow.mk b)) v0 := by kernel_rfl
theorem spec_l2OwnRow.s (v0 : List Int) : Sub spec_l2OwnRow.mk (spec_l2OwnRow.t some v0) (spec_l2OwnRow.t (fun b => some (spec_l2OwnRow.mk b)) v0) := by
  unfold spec_l2OwnRow.t
  repeat' first | exact Sub.ret | exact Sub.none | exact Sub.loop | apply Sub.cond | (apply Sub.bind; intro _)
theorem spec_l2OwnRow.eq (v0 : List Int) {b : (List Int)} (h : spec_l2OwnRow.t some v0 = some b) : spec_l2OwnRow v0 = some b := tOf_intro spec_l2OwnRow.un (fun _ => by kernel_rfl) (vlim_fn (callT_le E tab) rfl rfl rfl ((spec_l2OwnRow.k v0).trans (spec_l2OwnRow.s v0 b h)))
noncomputable def impl_GoodTable.q4 (v0 : Int) (v1 : List (List Int × Int)) (v2 : List (List Int × Int)) (v3 : Int) (v4 : Int) : Option R := loopAtL E (callT E tab) 62 Try.f62 1 [.r, .r, .l, .r, .b] (nn 1 (⟨(.box false), [iL v0, .d .fro (.sl (.pair (.sl (.int .i64)) (.int .i64))) v1], false, false, false, 0, 0⟩ :: nn 14 (vc (.d .fro (.sl (.pair (.sl (.int .i64)) (.int .i64))) v2) :: vc (iL v3) :: vc (iL v4) :: nn 39 ([]))))
noncomputable def impl_GoodTable.l4 (v0 : Int) (v1 : List (List Int × Int)) (v2 : List (List Int × Int)) (v3 : Int) (v4 : Int) : Option (Bool) := tOf impl_GoodTable.mk (impl_GoodTable.q4 v0 v1 v2 v3 v4)
noncomputable def impl_GoodTable.t {γ : Type} (ret : (Bool) → Option γ) (lp4 : Int → (List (List Int × Int)) → (List (List Int × Int)) → Int → Int → Option γ) (v0 : Int) (v1 : List (List Int × Int)) : Option γ :=
  (impl_isColumns (v0)).bind fun (r0 : Bool) =>
  bif !r0 then
    ret (Bool.false)
  else
    bif Decidable.decide ((↑v1.length : Int) > (60 : Int)) then
      ret (Bool.false)
    else
      lp4 (v0) (v1) (v1) ((↑v1.length : Int)) ((0 : Int))
noncomputable def impl_GoodTable.t4 {γ : Type} (ret : (Bool) → Option γ) (lp4 : Int → (List (List Int × Int)) → (List (List Int × Int)) → Int → Int → Option γ) (v0 : Int) (v1 : List (List Int × Int)) (v2 : List (List Int × Int)) (v3 : Int) (v4 : Int) : Option γ :=
  bif Decidable.decide (v4 < v3) then
    bif Decidable.decide ((0 : Int) ≤ v4) then
      bif Decidable.decide (v4.toNat < v2.length) then
        (impl_isRowOf ((v2.getD v4.toNat ([], (0 : Int))).fst) (v0)).bind fun (r1 : Bool) =>
        bif !r1 then
          ret (Bool.false)
        else
          (impl_isWeight ((v2.getD v4.toNat ([], (0 : Int))).snd)).bind fun (r2 : Bool) =>
          bif !r2 then
            ret (Bool.false)
          else
            bif (v2.getD v4.toNat ([], (0 : Int))).snd == (0 : Int) then
              ret (Bool.false)
            else
              bif Decidable.decide (v4 > (0 : Int)) then
                bif Decidable.decide ((0 : Int) ≤ Go.IntKind.i64.wrap (v4 - (1 : Int))) then
                  bif Decidable.decide ((Go.IntKind.i64.wrap (v4 - (1 : Int))).toNat < v1.length) then
                    (impl_compareRows ((v1.getD (Go.IntKind.i64.wrap (v4 - (1 : Int))).toNat ([], (0 : Int))).fst) ((v2.getD v4.toNat ([], (0 : Int))).fst)).bind fun (r3 : Int) =>
                    bif Decidable.decide (r3 ≥ (0 : Int)) then
                      ret (Bool.false)
                    else
                      lp4 (v0) (v1) (v2) (v3) (Go.IntKind.i64.wrap (v4 + (1 : Int)))
                  else
                    none
                else
                  none
              else
                lp4 (v0) (v1) (v2) (v3) (Go.IntKind.i64.wrap (v4 + (1 : Int)))
      else
        none
    else
      none
  else
    ret (Bool.true)
theorem impl_GoodTable.k (v0 : Int) (v1 : List (List Int × Int)) : topL E (callT E tab) 62 Try.f62 (impl_GoodTable.c v0 v1) = impl_GoodTable.t (fun b => some (impl_GoodTable.mk b)) impl_GoodTable.q4 v0 v1 := by kernel_rfl
theorem impl_GoodTable.k4 (v0 : Int) (v1 : List (List Int × Int)) (v2 : List (List Int × Int)) (v3 : Int) (v4 : Int) : roundL E (callT E tab) 62 Try.f62 1 [.r, .r, .l, .r, .b] (nn 1 (⟨(.box false), [iL v0, .d .fro (.sl (.pair (.sl (.int .i64)) (.int .i64))) v1], false, false, false, 0, 0⟩ :: nn 14 (vc (.d .fro (.sl (.pair (.sl (.int .i64)) (.int .i64))) v2) :: vc (iL v3) :: vc (iL v4) :: nn 39 ([])))) = impl_GoodTable.t4 (fun b => some (impl_GoodTable.mk b)) impl_GoodTable.q4 v0 v1 v2 v3 v4 := by kernel_rfl
theorem impl_GoodTable.s (v0 : Int) (v1 : List (List Int × Int)) : Sub impl_GoodTable.mk (impl_GoodTable.t some impl_GoodTable.l4 v0 v1) (impl_GoodTable.t (fun b => some (impl_GoodTable.mk b)) impl_GoodTable.q4 v0 v1) := by
  unfold impl_GoodTable.t
  repeat' first | exact Sub.ret | exact Sub.none | exact Sub.loop | apply Sub.cond | (apply Sub.bind; intro _)
theorem impl_GoodTable.eq (v0 : Int) (v1 : List (List Int × Int)) {b : Bool} (h : impl_GoodTable.t some impl_GoodTable.l4 v0 v1 = some b) : impl_GoodTable v0 v1 = some b := tOf_intro impl_GoodTable.un (fun _ => by kernel_rfl) (vlim_fn (callT_le E tab) rfl rfl rfl ((impl_GoodTable.k v0 v1).trans (impl_GoodTable.s v0 v1 b h)))
theorem impl_GoodTable.s4 (v0 : Int) (v1 : List (List Int × Int)) (v2 : List (List Int × Int)) (v3 : Int) (v4 : Int) : Sub impl_GoodTable.mk (impl_GoodTable.t4 some impl_GoodTable.l4 v0 v1 v2 v3 v4) (impl_GoodTable.t4 (fun b => some (impl_GoodTable.mk b)) impl_GoodTable.q4 v0 v1 v2 v3 v4) := by
  unfold impl_GoodTable.t4
  repeat' first | exact Sub.ret | exact Sub.none | exact Sub.loop | apply Sub.cond | (apply Sub.bind; intro _)
theorem impl_GoodTable.eq4 (v0 : Int) (v1 : List (List Int × Int)) (v2 : List (List Int × Int)) (v3 : Int) (v4 : Int) {b : Bool} (h : impl_GoodTable.t4 some impl_GoodTable.l4 v0 v1 v2 v3 v4 = some b) : impl_GoodTable.l4 v0 v1 v2 v3 v4 = some b := tOf_intro impl_GoodTable.un (fun _ => by kernel_rfl) (loopAtL_step ((impl_GoodTable.k4 v0 v1 v2 v3 v4).trans (impl_GoodTable.s4 v0 v1 v2 v3 v4 b h)))
noncomputable def impl_isColumns.t {γ : Type} (ret : (Bool) → Option γ) (v0 : Int) : Option γ :=
  (impl_within (v0) ((0 : Int)) ((6 : Int))).bind fun (r0 : Bool) =>
  ret (r0)
theorem impl_isColumns.k (v0 : Int) : topL E (callT E tab) 88 Try.f88 (impl_isColumns.c v0) = impl_isColumns.t (fun b => some (impl_isColumns.mk b)) v0 := by kernel_rfl
theorem impl_isColumns.s (v0 : Int) : Sub impl_isColumns.mk (impl_isColumns.t some v0) (impl_isColumns.t (fun b => some (impl_isColumns.mk b)) v0) := by
  unfold impl_isColumns.t
  repeat' first | exact Sub.ret | exact Sub.none | exact Sub.loop | apply Sub.cond | (apply Sub.bind; intro _)
theorem impl_isColumns.eq (v0 : Int) {b : Bool} (h : impl_isColumns.t some v0 = some b) : impl_isColumns v0 = some b := tOf_intro impl_isColumns.un (fun _ => by kernel_rfl) (vlim_fn (callT_le E tab) rfl rfl rfl ((impl_isColumns.k v0).trans (impl_isColumns.s v0 b h)))
noncomputable def impl_within.t {γ : Type} (ret : (Bool) → Option γ) (v0 : Int) (v1 : Int) (v2 : Int) : Option γ :=
  bif Decidable.decide (v1 ≤ v0) then
    ret (Decidable.decide (v0 ≤ v2))
  else
    ret (Bool.false)
theorem impl_within.k (v0 : Int) (v1 : Int) (v2 : Int) : topL E (callT E tab) 66 Try.f66 (impl_within.c v0 v1 v2) = impl_within.t (fun b => some (impl_within.mk b)) v0 v1 v2 := by kernel_rfl
theorem impl_within.s (v0 : Int) (v1 : Int) (v2 : Int) : Sub impl_within.mk (impl_within.t some v0 v1 v2) (impl_within.t (fun b => some (impl_within.mk b)) v0 v1 v2) := by
  unfold impl_within.t
  repeat' first | exact Sub.ret | exact Sub.none | exact Sub.loop | apply Sub.cond | (apply Sub.bind; intro _)
theorem impl_within.eq (v0 : Int) (v1 : Int) (v2 : Int) {b : Bool} (h : impl_within.t some v0 v1 v2 = some b) : impl_within v0 v1 v2 = some b := tOf_intro impl_within.un (fun _ => by kernel_rfl) (vlim_fn (callT_le E tab) rfl rfl rfl ((impl_within.k v0 v1 v2).trans (impl_within.s v0 v1 v2 b h)))
end GoV

/- Equations of the program's functions (printed by wip/tools/emit.py). -/
namespace GoV
open Go Go.Proofs
set_option maxRecDepth 100000

noncomputable def impl_isRowOf.t {γ : Type} (ret : (Bool) → Option γ) (v0 : List Int) (v1 : Int) : Option γ :=
  (impl_GoodRow (v0)).bind fun (r0 : Bool) =>
  bif r0 then
    ret ((↑v0.length : Int) == v1)
  else
    ret (Bool.false)
theorem impl_isRowOf.k (v0 : List Int) (v1 : Int) : topL E (callT E tab) 91 Try.f91 (impl_isRowOf.c v0 v1) = impl_isRowOf.t (fun b => some (impl_isRowOf.mk b)) v0 v1 := by kernel_rfl
theorem impl_isRowOf.s (v0 : List Int) (v1 : Int) : Sub impl_isRowOf.mk (impl_isRowOf.t some v0 v1) (impl_isRowOf.t (fun b => some (impl_isRowOf.mk b)) v0 v1) := by
  unfold impl_isRowOf.t
  repeat' first | exact Sub.ret | exact Sub.none | exact Sub.loop | apply Sub.cond | (apply Sub.bind; intro _)
theorem impl_isRowOf.eq (v0 : List Int) (v1 : Int) {b : Bool} (h : impl_isRowOf.t some v0 v1 = some b) : impl_isRowOf v0 v1 = some b := tOf_intro impl_isRowOf.un (fun _ => by kernel_rfl) (vlim_fn (callT_le E tab) rfl rfl rfl ((impl_isRowOf.k v0 v1).trans (impl_isRowOf.s v0 v1 b h)))
noncomputable def impl_GoodRow.t {γ : Type} (ret : (Bool) → Option γ) (v0 : List Int) : Option γ :=
  bif Decidable.decide ((↑v0.length : Int) ≤ (6 : Int)) then
    (impl_areAll_int_impl_isCell (v0)).bind fun (r0 : Bool) =>
    ret (r0)
  else
    ret (Bool.false)
theorem impl_GoodRow.k (v0 : List Int) : topL E (callT E tab) 127 Try.f127 (impl_GoodRow.c v0) = impl_GoodRow.t (fun b => some (impl_GoodRow.mk b)) v0 := by kernel_rfl
theorem impl_GoodRow.s (v0 : List Int) : Sub impl_GoodRow.mk (impl_GoodRow.t some v0) (impl_GoodRow.t (fun b => some (impl_GoodRow.mk b)) v0) := by
  unfold impl_GoodRow.t
  repeat' first | exact Sub.ret | exact Sub.none | exact Sub.loop | apply Sub.cond | (apply Sub.bind; intro _)
theorem impl_GoodRow.eq (v0 : List Int) {b : Bool} (h : impl_GoodRow.t some v0 = some b) : impl_GoodRow v0 = some b := tOf_intro impl_GoodRow.un (fun _ => by kernel_rfl) (vlim_fn (callT_le E tab) rfl rfl rfl ((impl_GoodRow.k v0).trans (impl_GoodRow.s v0 b h)))
noncomputable def impl_areAll_int_impl_isCell.t {γ : Type} (ret : (Bool) → Option γ) (v0 : List Int) : Option γ :=
  (slices_ContainsFunc_int_int_impl_areAll_int_1_impl_isCell (v0)).bind fun (r0 : Bool) =>
  ret (!r0)
theorem impl_areAll_int_impl_isCell.k (v0 : List Int) : topL E (callT E tab) 133 Try.f133 (impl_areAll_int_impl_isCell.c v0) = impl_areAll_int_impl_isCell.t (fun b => some (impl_areAll_int_impl_isCell.mk b)) v0 := by kernel_rfl
theorem impl_areAll_int_impl_isCell.s (v0 : List Int) : Sub impl_areAll_int_impl_isCell.mk (impl_areAll_int_impl_isCell.t some v0) (impl_areAll_int_impl_isCell.t (fun b => some (impl_areAll_int_impl_isCell.mk b)) v0) := by
  unfold impl_areAll_int_impl_isCell.t
  repeat' first | exact Sub.ret | exact Sub.none | exact Sub.loop | apply Sub.cond | (apply Sub.bind; intro _)
theorem impl_areAll_int_impl_isCell.eq (v0 : List Int) {b : Bool} (h : impl_areAll_int_impl_isCell.t some v0 = some b) : impl_areAll_int_impl_isCell v0 = some b := tOf_intro impl_areAll_int_impl_isCell.un (fun _ => by kernel_rfl) (vlim_fn (callT_le E tab) rfl rfl rfl ((impl_areAll_int_impl_isCell.k v0).trans (impl_areAll_int_impl_isCell.s v0 b h)))
noncomputable def slices_ContainsFunc_int_int_impl_areAll_int_1_impl_isCell.t {γ : Type} (ret : (Bool) → Option γ) (v0 : List Int) : Option γ :=
  (slices_IndexFunc_int_int_impl_areAll_int_1_impl_isCell (v0)).bind fun (r0 : Int) =>
  ret (Decidable.decide (r0 ≥ (0 : Int)))
theorem slices_ContainsFunc_int_int_impl_areAll_int_1_impl_isCell.k (v0 : List Int) : topL E (callT E tab) 148 Try.f148 (slices_ContainsFunc_int_int_impl_areAll_int_1_impl_isCell.c v0) = slices_ContainsFunc_int_int_impl_areAll_int_1_impl_isCell.t (fun b => some (slices_ContainsFunc_int_int_impl_areAll_int_1_impl_isCell.mk b)) v0 := by kernel_rfl
theorem slices_ContainsFunc_int_int_impl_areAll_int_1_impl_isCell.s (v0 : List Int) : Sub slices_ContainsFunc_int_int_impl_areAll_int_1_impl_isCell.mk (slices_ContainsFunc_int_int_impl_areAll_int_1_impl_isCell.t some v0) (slices_ContainsFunc_int_int_impl_areAll_int_1_impl_isCell.t (fun b => some (slices_ContainsFunc_int_int_impl_areAll_int_1_impl_isCell.mk b)) v0) := by
  unfold slices_ContainsFunc_int_int_impl_areAll_int_1_impl_isCell.t
  repeat' first | exact Sub.ret | exact Sub.none | exact Sub.loop | apply Sub.cond | (apply Sub.bind; intro _)
theorem slices_ContainsFunc_int_int_impl_areAll_int_1_impl_isCell.eq (v0 : List Int) {b : Bool} (h : slices_ContainsFunc_int_int_impl_areAll_int_1_impl_isCell.t some v0 = some b) : slices_ContainsFunc_int_int_impl_areAll_int_1_impl_isCell v0 = some b := tOf_intro slices_ContainsFunc_int_int_impl_areAll_int_1_impl_isCell.un (fun _ => by kernel_rfl) (vlim_fn (callT_le E tab) rfl rfl rfl ((slices_ContainsFunc_int_int_impl_areAll_int_1_impl_isCell.k v0).trans (slices_ContainsFunc_int_int_impl_areAll_int_1_impl_isCell.s v0 b h)))
noncomputable def slices_IndexFunc_int_int_impl_areAll_int_1_impl_isCell.q2 (v0 : List Int) (v1 : Int) (v2 : Int) : Option R := loopAtL E (callT E tab) 159 Try.f159 2 [.r, .l, .r, .b] (vc (.d .fro (.sl (.int .i64)) v0) :: vc (.fn 149 [.rp [.fn 119 []] 0]) :: nn 5 (vc (iL v1) :: vc (iL v2) :: nn 10 ([])))
noncomputable def slices_IndexFunc_int_int_impl_areAll_int_1_impl_isCell.l2 (v0 : List Int) (v1 : Int) (v2 : Int) : Option (Int) := tOf slices_IndexFunc_int_int_impl_areAll_int_1_impl_isCell.mk (slices_IndexFunc_int_int_impl_areAll_int_1_impl_isCell.q2 v0 v1 v2)
noncomputable def slices_IndexFunc_int_int_impl_areAll_int_1_impl_isCell.t {γ : Type} (ret : (Int) → Option γ) (lp2 : (List Int) → Int → Int → Option γ) (v0 : List Int) : Option γ :=
  lp2 (v0) ((↑v0.length : Int)) ((0 : Int))
noncomputable def slices_IndexFunc_int_int_impl_areAll_int_1_impl_isCell.t2 {γ : Type} (ret : (Int) → Option γ) (lp2 : (List Int) → Int → Int → Option γ) (v0 : List Int) (v1 : Int) (v2 : Int) : Option γ :=
  bif Decidable.decide (v2 < v1) then
    bif Decidable.decide ((0 : Int) ≤ v2) then
      bif Decidable.decide (v2.toNat < v0.length) then
        (impl_areAll_int_1_impl_isCell (v0.getD v2.toNat (0 : Int))).bind fun (r0 : Bool) =>
        bif r0 then
          ret (v2)
        else
          lp2 (v0) (v1) (Go.IntKind.i64.wrap (v2 + (1 : Int)))
      else
        none
    else
      none
  else
    ret ((-1 : Int))
theorem slices_IndexFunc_int_int_impl_areAll_int_1_impl_isCell.k (v0 : List Int) : topL E (callT E tab) 159 Try.f159 (slices_IndexFunc_int_int_impl_areAll_int_1_impl_isCell.c v0) = slices_IndexFunc_int_int_impl_areAll_int_1_impl_isCell.t (fun b => some (slices_IndexFunc_int_int_impl_areAll_int_1_impl_isCell.mk b)) slices_IndexFunc_int_int_impl_areAll_int_1_impl_isCell.q2 v0 := by kernel_rfl
theorem slices_IndexFunc_int_int_impl_areAll_int_1_impl_isCell.k2 (v0 : List Int) (v1 : Int) (v2 : Int) : roundL E (callT E tab) 159 Try.f159 2 [.r, .l, .r, .b] (vc (.d .fro (.sl (.int .i64)) v0) :: vc (.fn 149 [.rp [.fn 119 []] 0]) :: nn 5 (vc (iL v1) :: vc (iL v2) :: nn 10 ([]))) = slices_IndexFunc_int_int_impl_areAll_int_1_impl_isCell.t2 (fun b => some (slices_IndexFunc_int_int_impl_areAll_int_1_impl_isCell.mk b)) slices_IndexFunc_int_int_impl_areAll_int_1_impl_isCell.q2 v0 v1 v2 := by kernel_rfl
theorem slices_IndexFunc_int_int_impl_areAll_int_1_impl_isCell.s (v0 : List Int) : Sub slices_IndexFunc_int_int_impl_areAll_int_1_impl_isCell.mk (slices_IndexFunc_int_int_impl_areAll_int_1_impl_isCell.t some slices_IndexFunc_int_int_impl_areAll_int_1_impl_isCell.l2 v0) (slices_IndexFunc_int_int_impl_areAll_int_1_impl_isCell.t (fun b => some (slices_IndexFunc_int_int_impl_areAll_int_1_impl_isCell.mk b)) slices_IndexFunc_int_int_impl_areAll_int_1_impl_isCell.q2 v0) := by
  unfold slices_IndexFunc_int_int_impl_areAll_int_1_impl_isCell.t
  repeat' first | exact Sub.ret | exact Sub.none | exact Sub.loop | apply Sub.cond | (apply Sub.bind; intro _)
theorem slices_IndexFunc_int_int_impl_areAll_int_1_impl_isCell.eq (v0 : List Int) {b : Int} (h : slices_IndexFunc_int_int_impl_areAll_int_1_impl_isCell.t some slices_IndexFunc_int_int_impl_areAll_int_1_impl_isCell.l2 v0 = some b) : slices_IndexFunc_int_int_impl_areAll_int_1_impl_isCell v0 = some b := tOf_intro slices_IndexFunc_int_int_impl_areAll_int_1_impl_isCell.un (fun _ => by kernel_rfl) (vlim_fn (callT_le E tab) rfl rfl rfl ((slices_IndexFunc_int_int_impl_areAll_int_1_impl_isCell.k v0).trans (slices_IndexFunc_int_int_impl_areAll_int_1_impl_isCell.s v0 b h)))
theorem slices_IndexFunc_int_int_impl_areAll_int_1_impl_isCell.s2 (v0 : List Int) (v1 : Int) (v2 : Int) : Sub slices_IndexFunc_int_int_impl_areAll_int_1_impl_isCell.mk (slices_IndexFunc_int_int_impl_areAll_int_1_impl_isCell.t2 some slices_IndexFunc_int_int_impl_areAll_int_1_impl_isCell.l2 v0 v1 v2) (slices_IndexFunc_int_int_impl_areAll_int_1_impl_isCell.t2 (fun b => some (slices_IndexFunc_int_int_impl_areAll_int_1_impl_isCell.mk b)) slices_IndexFunc_int_int_impl_areAll_int_1_impl_isCell.q2 v0 v1 v2) := by
  unfold slices_IndexFunc_int_int_impl_areAll_int_1_impl_isCell.t2
  repeat' first | exact Sub.ret | exact Sub.none | exact Sub.loop | apply Sub.cond | (apply Sub.bind; intro _)
theorem slices_IndexFunc_int_int_impl_areAll_int_1_impl_isCell.eq2 (v0 : List Int) (v1 : Int) (v2 : Int) {b : Int} (h : slices_IndexFunc_int_int_impl_areAll_int_1_impl_isCell.t2 some slices_IndexFunc_int_int_impl_areAll_int_1_impl_isCell.l2 v0 v1 v2 = some b) : slices_IndexFunc_int_int_impl_areAll_int_1_impl_isCell.l2 v0 v1 v2 = some b := tOf_intro slices_IndexFunc_int_int_impl_areAll_int_1_impl_isCell.un (fun _ => by kernel_rfl) (loopAtL_step ((slices_IndexFunc_int_int_impl_areAll_int_1_impl_isCell.k2 v0 v1 v2).trans (slices_IndexFunc_int_int_impl_areAll_int_1_impl_isCell.s2 v0 v1 v2 b h)))
noncomputable def impl_areAll_int_1_impl_isCell.t {γ : Type} (ret : (Bool) → Option γ) (v0 : Int) : Option γ :=
  (impl_isCell (v0)).bind fun (r0 : Bool) =>
  ret (!r0)
theorem impl_areAll_int_1_impl_isCell.k (v0 : Int) : topL E (callT E tab) 149 Try.f149 (impl_areAll_int_1_impl_isCell.c v0) = impl_areAll_int_1_impl_isCell.t (fun b => some (impl_areAll_int_1_impl_isCell.mk b)) v0 := by kernel_rfl
theorem impl_areAll_int_1_impl_isCell.s (v0 : Int) : Sub impl_areAll_int_1_impl_isCell.mk (impl_areAll_int_1_impl_isCell.t some v0) (impl_areAll_int_1_impl_isCell.t (fun b => some (impl_areAll_int_1_impl_isCell.mk b)) v0) := by
  unfold impl_areAll_int_1_impl_isCell.t
  repeat' first | exact Sub.ret | exact Sub.none | exact Sub.loop | apply Sub.cond | (apply Sub.bind; intro _)
theorem impl_areAll_int_1_impl_isCell.eq (v0 : Int) {b : Bool} (h : impl_areAll_int_1_impl_isCell.t some v0 = some b) : impl_areAll_int_1_impl_isCell v0 = some b := tOf_intro impl_areAll_int_1_impl_isCell.un (fun _ => by kernel_rfl) (vlim_fn (callT_le E tab) rfl rfl rfl ((impl_areAll_int_1_impl_isCell.k v0).trans (impl_areAll_int_1_impl_isCell.s v0 b h)))
noncomputable def impl_isCell.t {γ : Type} (ret : (Bool) → Option γ) (v0 : Int) : Option γ :=
  (impl_within (v0) ((-100000 : Int)) ((100000 : Int))).bind fun (r0 : Bool) =>
  ret (r0)
theorem impl_isCell.k (v0 : Int) : topL E (callT E tab) 119 Try.f119 (impl_isCell.c v0) = impl_isCell.t (fun b => some (impl_isCell.mk b)) v0 := by kernel_rfl
theorem impl_isCell.s (v0 : Int) : Sub impl_isCell.mk (impl_isCell.t some v0) (impl_isCell.t (fun b => some (impl_isCell.mk b)) v0) := by
  unfold impl_isCell.t
  repeat' first | exact Sub.ret | exact Sub.none | exact Sub.loop | apply Sub.cond | (apply Sub.bind; intro _)
theorem impl_isCell.eq (v0 : Int) {b : Bool} (h : impl_isCell.t some v0 = some b) : impl_isCell v0 = some b := tOf_intro impl_isCell.un (fun _ => by kernel_rfl) (vlim_fn (callT_le E tab) rfl rfl rfl ((impl_isCell.k v0).trans (impl_isCell.s v0 b h)))
noncomputable def impl_isWeight.t {γ : Type} (ret : (Bool) → Option γ) (v0 : Int) : Option γ :=
  (impl_within (v0) ((-1000000 : Int)) ((1000000 : Int))).bind fun (r0 : Bool) =>
  ret (r0)
theorem impl_isWeight.k (v0 : Int) : topL E (callT E tab) 92 Try.f92 (impl_isWeight.c v0) = impl_isWeight.t (fun b => some (impl_isWeight.mk b)) v0 := by kernel_rfl
theorem impl_isWeight.s (v0 : Int) : Sub impl_isWeight.mk (impl_isWeight.t some v0) (impl_isWeight.t (fun b => some (impl_isWeight.mk b)) v0) := by
  unfold impl_isWeight.t
  repeat' first | exact Sub.ret | exact Sub.none | exact Sub.loop | apply Sub.cond | (apply Sub.bind; intro _)
theorem impl_isWeight.eq (v0 : Int) {b : Bool} (h : impl_isWeight.t some v0 = some b) : impl_isWeight v0 = some b := tOf_intro impl_isWeight.un (fun _ => by kernel_rfl) (vlim_fn (callT_le E tab) rfl rfl rfl ((impl_isWeight.k v0).trans (impl_isWeight.s v0 b h)))
noncomputable def impl_compareRows.t {γ : Type} (ret : (Int) → Option γ) (v0 : List Int) (v1 : List Int) : Option γ :=
  (slices_Compare_int_int (v0) (v1)).bind fun (r0 : Int) =>
  ret (r0)
theorem impl_compareRows.k (v0 : List Int) (v1 : List Int) : topL E (callT E tab) 108 Try.f108 (impl_compareRows.c v0 v1) = impl_compareRows.t (fun b => some (impl_compareRows.mk b)) v0 v1 := by kernel_rfl
theorem impl_compareRows.s (v0 : List Int) (v1 : List Int) : Sub impl_compareRows.mk (impl_compareRows.t some v0 v1) (impl_compareRows.t (fun b => some (impl_compareRows.mk b)) v0 v1) := by
  unfold impl_compareRows.t
  repeat' first | exact Sub.ret | exact Sub.none | exact Sub.loop | apply Sub.cond | (apply Sub.bind; intro _)
theorem impl_compareRows.eq (v0 : List Int) (v1 : List Int) {b : Int} (h : impl_compareRows.t some v0 v1 = some b) : impl_compareRows v0 v1 = some b := tOf_intro impl_compareRows.un (fun _ => by kernel_rfl) (vlim_fn (callT_le E tab) rfl rfl rfl ((impl_compareRows.k v0 v1).trans (impl_compareRows.s v0 v1 b h)))
noncomputable def slices_Compare_int_int.q2 (v0 : List Int) (v1 : List Int) (v2 : List Int) (v3 : Int) (v4 : Int) : Option R := loopAtL E (callT E tab) 141 Try.f141 2 [.r, .l, .r, .b] (vc (.d .fro (.sl (.int .i64)) v0) :: vc (.d .fro (.sl (.int .i64)) v1) :: nn 7 (vc (.d .fro (.sl (.int .i64)) v2) :: vc (iL v3) :: vc (iL v4) :: nn 24 ([])))
noncomputable def slices_Compare_int_int.l2 (v0 : List Int) (v1 : List Int) (v2 : List Int) (v3 : Int) (v4 : Int) : Option (Int) := tOf slices_Compare_int_int.mk (slices_Compare_int_int.q2 v0 v1 v2 v3 v4)
noncomputable def slices_Compare_int_int.t {γ : Type} (ret : (Int) → Option γ) (lp2 : (List Int) → (List Int) → (List Int) → Int → Int → Option γ) (v0 : List Int) (v1 : List Int) : Option γ :=
  lp2 (v0) (v1) (v0) ((↑v0.length : Int)) ((0 : Int))
noncomputable def slices_Compare_int_int.t2 {γ : Type} (ret : (Int) → Option γ) (lp2 : (List Int) → (List Int) → (List Int) → Int → Int → Option γ) (v0 : List Int) (v1 : List Int) (v2 : List Int) (v3 : Int) (v4 : Int) : Option γ :=
  bif Decidable.decide (v4 < v3) then
    bif Decidable.decide ((0 : Int) ≤ v4) then
      bif Decidable.decide (v4.toNat < v2.length) then
        bif Decidable.decide (v4 ≥ (↑v1.length : Int)) then
          ret ((1 : Int))
        else
          bif Decidable.decide ((0 : Int) ≤ v4) then
            bif Decidable.decide (v4.toNat < v1.length) then
              (cmp_Compare_int (v2.getD v4.toNat (0 : Int)) (v1.getD v4.toNat (0 : Int))).bind fun (r0 : Int) =>
              bif r0 != (0 : Int) then
                ret (r0)
              else
                lp2 (v0) (v1) (v2) (v3) (Go.IntKind.i64.wrap (v4 + (1 : Int)))
            else
              none
          else
            none
      else
        none
    else
      none
  else
    bif Decidable.decide ((↑v0.length : Int) < (↑v1.length : Int)) then
      ret ((-1 : Int))
    else
      ret ((0 : Int))
theorem slices_Compare_int_int.k (v0 : List Int) (v1 : List Int) : topL E (callT E tab) 141 Try.f141 (slices_Compare_int_int.c v0 v1) = slices_Compare_int_int.t (fun b => some (slices_Compare_int_int.mk b)) slices_Compare_int_int.q2 v0 v1 := by kernel_rfl
theorem slices_Compare_int_int.k2 (v0 : List Int) (v1 : List Int) (v2 : List Int) (v3 : Int) (v4 : Int) : roundL E (callT E tab) 141 Try.f141 2 [.r, .l, .r, .b] (vc (.d .fro (.sl (.int .i64)) v0) :: vc (.d .fro (.sl (.int .i64)) v1) :: nn 7 (vc (.d .fro (.sl (.int .i64)) v2) :: vc (iL v3) :: vc (iL v4) :: nn 24 ([]))) = slices_Compare_int_int.t2 (fun b => some (slices_Compare_int_int.mk b)) slices_Compare_int_int.q2 v0 v1 v2 v3 v4 := by kernel_rfl
theorem slices_Compare_int_int.s (v0 : List Int) (v1 : List Int) : Sub slices_Compare_int_int.mk (slices_Compare_int_int.t some slices_Compare_int_int.l2 v0 v1) (slices_Compare_int_int.t (fun b => some (slices_Compare_int_int.mk b)) slices_Compare_int_int.q2 v0 v1) := by
  unfold slices_Compare_int_int.t
  repeat' first | exact Sub.ret | exact Sub.none | exact Sub.loop | apply Sub.cond | (apply Sub.bind; intro _)
theorem slices_Compare_int_int.eq (v0 : List Int) (v1 : List Int) {b : Int} (h : slices_Compare_int_int.t some slices_Compare_int_int.l2 v0 v1 = some b) : slices_Compare_int_int v0 v1 = some b := tOf_intro slices_Compare_int_int.un (fun _ => by kernel_rfl) (vlim_fn (callT_le E tab) rfl rfl rfl ((slices_Compare_int_int.k v0 v1).trans (slices_Compare_int_int.s v0 v1 b h)))
theorem slices_Compare_int_int.s2 (v0 : List Int) (v1 : List Int) (v2 : List Int) (v3 : Int) (v4 : Int) : Sub slices_Compare_int_int.mk (slices_Compare_int_int.t2 some slices_Compare_int_int.l2 v0 v1 v2 v3 v4) (slices_Compare_int_int.t2 (fun b => some (slices_Compare_int_int.mk b)) slices_Compare_int_int.q2 v0 v1 v2 v3 v4) := by
  unfold slices_Compare_int_int.t2
  repeat' first | exact Sub.ret | exact Sub.none | exact Sub.loop | apply Sub.cond | (apply Sub.bind; intro _)
theorem slices_Compare_int_int.eq2 (v0 : List Int) (v1 : List Int) (v2 : List Int) (v3 : Int) (v4 : Int) {b : Int} (h : slices_Compare_int_int.t2 some slices_Compare_int_int.l2 v0 v1 v2 v3 v4 = some b) : slices_Compare_int_int.l2 v0 v1 v2 v3 v4 = some b := tOf_intro slices_Compare_int_int.un (fun _ => by kernel_rfl) (loopAtL_step ((slices_Compare_int_int.k2 v0 v1 v2 v3 v4).trans (slices_Compare_int_int.s2 v0 v1 v2 v3 v4 b h)))
noncomputable def cmp_Compare_int.t {γ : Type} (ret : (Int) → Option γ) (v0 : Int) (v1 : Int) : Option γ :=
  (cmp_isNaN_int (v0)).bind fun (r0 : Bool) =>
  (cmp_isNaN_int (v1)).bind fun (r1 : Bool) =>
  bif r0 then
    bif r1 then
      ret ((0 : Int))
    else
      ret ((-1 : Int))
  else
    bif r1 then
      ret ((1 : Int))
    else
      bif Decidable.decide (v0 < v1) then
        ret ((-1 : Int))
      else
        bif Decidable.decide (v0 > v1) then
          ret ((1 : Int))
        else
          ret ((0 : Int))
theorem cmp_Compare_int.k (v0 : Int) (v1 : Int) : topL E (callT E tab) 155 Try.f155 (cmp_Compare_int.c v0 v1) = cmp_Compare_int.t (fun b => some (cmp_Compare_int.mk b)) v0 v1 := by kernel_rfl
theorem cmp_Compare_int.s (v0 : Int) (v1 : Int) : Sub cmp_Compare_int.mk (cmp_Compare_int.t some v0 v1) (cmp_Compare_int.t (fun b => some (cmp_Compare_int.mk b)) v0 v1) := by
  unfold cmp_Compare_int.t
  repeat' first | exact Sub.ret | exact Sub.none | exact Sub.loop | apply Sub.cond | (apply Sub.bind; intro _)
theorem cmp_Compare_int.eq (v0 : Int) (v1 : Int) {b : Int} (h : cmp_Compare_int.t some v0 v1 = some b) : cmp_Compare_int v0 v1 = some b := tOf_intro cmp_Compare_int.un (fun _ => by kernel_rfl) (vlim_fn (callT_le E tab) rfl rfl rfl ((cmp_Compare_int.k v0 v1).trans (cmp_Compare_int.s v0 v1 b h)))
noncomputable def cmp_isNaN_int.t {γ : Type} (ret : (Bool) → Option γ) (v0 : Int) : Option γ :=
  ret (v0 != v0)
theorem cmp_isNaN_int.k (v0 : Int) : topL E (callT E tab) 163 Try.f163 (cmp_isNaN_int.c v0) = cmp_isNaN_int.t (fun b => some (cmp_isNaN_int.mk b)) v0 := by kernel_rfl
theorem cmp_isNaN_int.s (v0 : Int) : Sub cmp_isNaN_int.mk (cmp_isNaN_int.t some v0) (cmp_isNaN_int.t (fun b => some (cmp_isNaN_int.mk b)) v0) := by
  unfold cmp_isNaN_int.t
  repeat' first | exact Sub.ret | exact Sub.none | exact Sub.loop | apply Sub.cond | (apply Sub.bind; intro _)
theorem cmp_isNaN_int.eq (v0 : Int) {b : Bool} (h : cmp_isNaN_int.t some v0 = some b) : cmp_isNaN_int v0 = some b := tOf_intro cmp_isNaN_int.un (fun _ => by kernel_rfl) (vlim_fn (callT_le E tab) rfl rfl rfl ((cmp_isNaN_int.k v0).trans (cmp_isNaN_int.s v0 b h)))
noncomputable def impl_Row_own.t {γ : Type} (ret : ((List Int)) → Option γ) (v0 : List Int) : Option γ :=
  (slices_Clone_int_int (v0)).bind fun (r0 : (List Int)) =>
  ret (r0)
theorem impl_Row_own.k (v0 : List Int) : topL E (callT E tab) 109 Try.f109 (impl_Row_own.c v0) = impl_Row_own.t (fun b => some (impl_Row_own.mk b)) v0 := by kernel_rfl
theorem impl_Row_own.s (v0 : List Int) : Sub impl_Row_own.mk (impl_Row_own.t some v0) (impl_Row_own.t (fun b => some (impl_Row_own.mk b)) v0) := by
  unfold impl_Row_own.t
  repeat' first | exact Sub.ret | exact Sub.none | exact Sub.loop | apply Sub.cond | (apply Sub.bind; intro _)
theorem impl_Row_own.eq (v0 : List Int) {b : (List Int)} (h : impl_Row_own.t some v0 = some b) : impl_Row_own v0 = some b := tOf_intro impl_Row_own.un (fun _ => by kernel_rfl) (vlim_fn (callT_le E tab) rfl rfl rfl ((impl_Row_own.k v0).trans (impl_Row_own.s v0 b h)))
noncomputable def slices_Clone_int_int.t {γ : Type} (ret : ((List Int)) → Option γ) (v0 : List Int) : Option γ :=
  bif Decidable.decide (v0.length ≤ (4294967296 : Nat)) then
    ret (v0)
  else
    none
theorem slices_Clone_int_int.k (v0 : List Int) : extOf 142 (slices_Clone_int_int.c v0) = slices_Clone_int_int.t (fun b => some (slices_Clone_int_int.mk b)) v0 := by kernel_rfl
theorem slices_Clone_int_int.s (v0 : List Int) : Sub slices_Clone_int_int.mk (slices_Clone_int_int.t some v0) (slices_Clone_int_int.t (fun b => some (slices_Clone_int_int.mk b)) v0) := by
  unfold slices_Clone_int_int.t
  repeat' first | exact Sub.ret | exact Sub.none | exact Sub.loop | apply Sub.cond | (apply Sub.bind; intro _)
theorem slices_Clone_int_int.eq (v0 : List Int) {b : (List Int)} (h : slices_Clone_int_int.t some v0 = some b) : slices_Clone_int_int v0 = some b := tOf_intro slices_Clone_int_int.un (fun _ => by kernel_rfl) (vlim_ext (g := extOf 142) rfl ((slices_Clone_int_int.k v0).trans (slices_Clone_int_int.s v0 b h)))
noncomputable def laws_eqTable.t {γ : Type} (ret : (Bool) → Option γ) (v0 : Int) (v1 : List (List Int × Int)) (v2 : Int) (v3 : List (List Int × Int)) : Option γ :=
  bif v0 != v2 then
    ret (Bool.false)
  else
    (laws_eqWeightedS (v1) (v3)).bind fun (r0 : Bool) =>
    bif !r0 then
      ret (Bool.false)
    else
      ret (Bool.true)
theorem laws_eqTable.k (v0 : Int) (v1 : List (List Int × Int)) (v2 : Int) (v3 : List (List Int × Int)) : topL E (callT E tab) 19 Try.f19 (laws_eqTable.c v0 v1 v2 v3) = laws_eqTable.t (fun b => some (laws_eqTable.mk b)) v0 v1 v2 v3 := by kernel_rfl
theorem laws_eqTable.s (v0 : Int) (v1 : List (List Int × Int)) (v2 : Int) (v3 : List (List Int × Int)) : Sub laws_eqTable.mk (laws_eqTable.t some v0 v1 v2 v3) (laws_eqTable.t (fun b => some (laws_eqTable.mk b)) v0 v1 v2 v3) := by
  unfold laws_eqTable.t
  repeat' first | exact Sub.ret | exact Sub.none | exact Sub.loop | apply Sub.cond | (apply Sub.bind; intro _)
theorem laws_eqTable.eq (v0 : Int) (v1 : List (List Int × Int)) (v2 : Int) (v3 : List (List Int × Int)) {b : Bool} (h : laws_eqTable.t some v0 v1 v2 v3 = some b) : laws_eqTable v0 v1 v2 v3 = some b := tOf_intro laws_eqTable.un (fun _ => by kernel_rfl) (vlim_fn (callT_le E tab) rfl rfl rfl ((laws_eqTable.k v0 v1 v2 v3).trans (laws_eqTable.s v0 v1 v2 v3 b h)))
noncomputable def laws_eqWeightedS.q4 (v0 : List (List Int × Int)) (v1 : List (List Int × Int)) (v2 : Int) : Option R := loopAtL E (callT E tab) 40 Try.f40 2 [.r, .r, .l, .r, .b] (vc (.d .fro (.sl (.pair (.sl (.int .i64)) (.int .i64))) v0) :: vc (.d .fro (.sl (.pair (.sl (.int .i64)) (.int .i64))) v1) :: nn 3 (vc (iL v2) :: nn 21 ([])))
noncomputable def laws_eqWeightedS.l4 (v0 : List (List Int × Int)) (v1 : List (List Int × Int)) (v2 : Int) : Option (Bool) := tOf laws_eqWeightedS.mk (laws_eqWeightedS.q4 v0 v1 v2)
noncomputable def laws_eqWeightedS.t {γ : Type} (ret : (Bool) → Option γ) (lp4 : (List (List Int × Int)) → (List (List Int × Int)) → Int → Option γ) (v0 : List (List Int × Int)) (v1 : List (List Int × Int)) : Option γ :=
  bif (↑v0.length : Int) != (↑v1.length : Int) then
    ret (Bool.false)
  else
    lp4 (v0) (v1) ((0 : Int))
noncomputable def laws_eqWeightedS.t4 {γ : Type} (ret : (Bool) → Option γ) (lp4 : (List (List Int × Int)) → (List (List Int × Int)) → Int → Option γ) (v0 : List (List Int × Int)) (v1 : List (List Int × Int)) (v2 : Int) : Option γ :=
  bif Decidable.decide (v2 < (↑v0.length : Int)) then
    bif Decidable.decide ((0 : Int) ≤ v2) then
      bif Decidable.decide (v2.toNat < v0.length) then
        bif Decidable.decide ((0 : Int) ≤ v2) then
          bif Decidable.decide (v2.toNat < v1.length) then
            (laws_eqWeighted ((v0.getD v2.toNat ([], (0 : Int))).fst) ((v0.getD v2.toNat ([], (0 : Int))).snd) ((v1.getD v2.toNat ([], (0 : Int))).fst) ((v1.getD v2.toNat ([], (0 : Int))).snd)).bind fun (r0 : Bool) =>
            bif !r0 then
              ret (Bool.false)
            else
              lp4 (v0) (v1) (Go.IntKind.i64.wrap (v2 + (1 : Int)))
          else
            none
        else
          none
      else
        none
    else
      none
  else
    ret (Bool.true)
theorem laws_eqWeightedS.k (v0 : List (List Int × Int)) (v1 : List (List Int × Int)) : topL E (callT E tab) 40 Try.f40 (laws_eqWeightedS.c v0 v1) = laws_eqWeightedS.t (fun b => some (laws_eqWeightedS.mk b)) laws_eqWeightedS.q4 v0 v1 := by kernel_rfl
theorem laws_eqWeightedS.k4 (v0 : List (List Int × Int)) (v1 : List (List Int × Int)) (v2 : Int) : roundL E (callT E tab) 40 Try.f40 2 [.r, .r, .l, .r, .b] (vc (.d .fro (.sl (.pair (.sl (.int .i64)) (.int .i64))) v0) :: vc (.d .fro (.sl (.pair (.sl (.int .i64)) (.int .i64))) v1) :: nn 3 (vc (iL v2) :: nn 21 ([]))) = laws_eqWeightedS.t4 (fun b => some (laws_eqWeightedS.mk b)) laws_eqWeightedS.q4 v0 v1 v2 := by kernel_rfl
theorem laws_eqWeightedS.s (v0 : List (List Int × Int)) (v1 : List (List Int × Int)) : Sub laws_eqWeightedS.mk (laws_eqWeightedS.t some laws_eqWeightedS.l4 v0 v1) (laws_eqWeightedS.t (fun b => some (laws_eqWeightedS.mk b)) laws_eqWeightedS.q4 v0 v1) := by
  unfold laws_eqWeightedS.t
  repeat' first | exact Sub.ret | exact Sub.none | exact Sub.loop | apply Sub.cond | (apply Sub.bind; intro _)
theorem laws_eqWeightedS.eq (v0 : List (List Int × Int)) (v1 : List (List Int × Int)) {b : Bool} (h : laws_eqWeightedS.t some laws_eqWeightedS.l4 v0 v1 = some b) : laws_eqWeightedS v0 v1 = some b := tOf_intro laws_eqWeightedS.un (fun _ => by kernel_rfl) (vlim_fn (callT_le E tab) rfl rfl rfl ((laws_eqWeightedS.k v0 v1).trans (laws_eqWeightedS.s v0 v1 b h)))
theorem laws_eqWeightedS.s4 (v0 : List (List Int × Int)) (v1 : List (List Int × Int)) (v2 : Int) : Sub laws_eqWeightedS.mk (laws_eqWeightedS.t4 some laws_eqWeightedS.l4 v0 v1 v2) (laws_eqWeightedS.t4 (fun b => some (laws_eqWeightedS.mk b)) laws_eqWeightedS.q4 v0 v1 v2) := by
  unfold laws_eqWeightedS.t4
  repeat' first | exact Sub.ret | exact Sub.none | exact Sub.loop | apply Sub.cond | (apply Sub.bind; intro _)
theorem laws_eqWeightedS.eq4 (v0 : List (List Int × Int)) (v1 : List (List Int × Int)) (v2 : Int) {b : Bool} (h : laws_eqWeightedS.t4 some laws_eqWeightedS.l4 v0 v1 v2 = some b) : laws_eqWeightedS.l4 v0 v1 v2 = some b := tOf_intro laws_eqWeightedS.un (fun _ => by kernel_rfl) (loopAtL_step ((laws_eqWeightedS.k4 v0 v1 v2).trans (laws_eqWeightedS.s4 v0 v1 v2 b h)))
noncomputable def laws_eqWeighted.t {γ : Type} (ret : (Bool) → Option γ) (v0 : List Int) (v1 : Int) (v2 : List Int) (v3 : Int) : Option γ :=
  (laws_eqRow (v0) (v2)).bind fun (r0 : Bool) =>
  bif !r0 then
    ret (Bool.false)
  else
    bif v1 != v3 then
      ret (Bool.false)
    else
      ret (Bool.true)
theorem laws_eqWeighted.k (v0 : List Int) (v1 : Int) (v2 : List Int) (v3 : Int) : topL E (callT E tab) 94 Try.f94 (laws_eqWeighted.c v0 v1 v2 v3) = laws_eqWeighted.t (fun b => some (laws_eqWeighted.mk b)) v0 v1 v2 v3 := by kernel_rfl
theorem laws_eqWeighted.s (v0 : List Int) (v1 : Int) (v2 : List Int) (v3 : Int) : Sub laws_eqWeighted.mk (laws_eqWeighted.t some v0 v1 v2 v3) (laws_eqWeighted.t (fun b => some (laws_eqWeighted.mk b)) v0 v1 v2 v3) := by
  unfold laws_eqWeighted.t
  repeat' first | exact Sub.ret | exact Sub.none | exact Sub.loop | apply Sub.cond | (apply Sub.bind; intro _)
theorem laws_eqWeighted.eq (v0 : List Int) (v1 : Int) (v2 : List Int) (v3 : Int) {b : Bool} (h : laws_eqWeighted.t some v0 v1 v2 v3 = some b) : laws_eqWeighted v0 v1 v2 v3 = some b := tOf_intro laws_eqWeighted.un (fun _ => by kernel_rfl) (vlim_fn (callT_le E tab) rfl rfl rfl ((laws_eqWeighted.k v0 v1 v2 v3).trans (laws_eqWeighted.s v0 v1 v2 v3 b h)))
noncomputable def laws_eqRow.t {γ : Type} (ret : (Bool) → Option γ) (v0 : List Int) (v1 : List Int) : Option γ :=
  (laws_eqIntS (v0) (v1)).bind fun (r0 : Bool) =>
  bif !r0 then
    ret (Bool.false)
  else
    ret (Bool.true)
theorem laws_eqRow.k (v0 : List Int) (v1 : List Int) : topL E (callT E tab) 131 Try.f131 (laws_eqRow.c v0 v1) = laws_eqRow.t (fun b => some (laws_eqRow.mk b)) v0 v1 := by kernel_rfl
theorem laws_eqRow.s (v0 : List Int) (v1 : List Int) : Sub laws_eqRow.mk (laws_eqRow.t some v0 v1) (laws_eqRow.t (fun b => some (laws_eqRow.mk b)) v0 v1) := by
  unfold laws_eqRow.t
  repeat' first | exact Sub.ret | exact Sub.none | exact Sub.loop | apply Sub.cond | (apply Sub.bind; intro _)
theorem laws_eqRow.eq (v0 : List Int) (v1 : List Int) {b : Bool} (h : laws_eqRow.t some v0 v1 = some b) : laws_eqRow v0 v1 = some b := tOf_intro laws_eqRow.un (fun _ => by kernel_rfl) (vlim_fn (callT_le E tab) rfl rfl rfl ((laws_eqRow.k v0 v1).trans (laws_eqRow.s v0 v1 b h)))
noncomputable def laws_eqIntS.q4 (v0 : List Int) (v1 : List Int) (v2 : Int) : Option R := loopAtL E (callT E tab) 47 Try.f47 2 [.r, .r, .l, .r, .b] (vc (.d .fro (.sl (.int .i64)) v0) :: vc (.d .fro (.sl (.int .i64)) v1) :: nn 3 (vc (iL v2) :: nn 20 ([])))
noncomputable def laws_eqIntS.l4 (v0 : List Int) (v1 : List Int) (v2 : Int) : Option (Bool) := tOf laws_eqIntS.mk (laws_eqIntS.q4 v0 v1 v2)
noncomputable def laws_eqIntS.t {γ : Type} (ret : (Bool) → Option γ) (lp4 : (List Int) → (List Int) → Int → Option γ) (v0 : List Int) (v1 : List Int) : Option γ :=
  bif (↑v0.length : Int) != (↑v1.length : Int) then
    ret (Bool.false)
  else
    lp4 (v0) (v1) ((0 : Int))
noncomputable def laws_eqIntS.t4 {γ : Type} (ret : (Bool) → Option γ) (lp4 : (List Int) → (List Int) → Int → Option γ) (v0 : List Int) (v1 : List Int) (v2 : Int) : Option γ :=
  bif Decidable.decide (v2 < (↑v0.length : Int)) then
    bif Decidable.decide ((0 : Int) ≤ v2) then
      bif Decidable.decide (v2.toNat < v0.length) then
        bif Decidable.decide ((0 : Int) ≤ v2) then
          bif Decidable.decide (v2.toNat < v1.length) then
            bif v0.getD v2.toNat (0 : Int) != v1.getD v2.toNat (0 : Int) then
              ret (Bool.false)
            else
              lp4 (v0) (v1) (Go.IntKind.i64.wrap (v2 + (1 : Int)))
          else
            none
        else
          none
      else
        none
    else
      none
  else
    ret (Bool.true)
theorem laws_eqIntS.k (v0 : List Int) (v1 : List Int) : topL E (callT E tab) 47 Try.f47 (laws_eqIntS.c v0 v1) = laws_eqIntS.t (fun b => some (laws_eqIntS.mk b)) laws_eqIntS.q4 v0 v1 := by kernel_rfl
theorem laws_eqIntS.k4 (v0 : List Int) (v1 : List Int) (v2 : Int) : roundL E (callT E tab) 47 Try.f47 2 [.r, .r, .l, .r, .b] (vc (.d .fro (.sl (.int .i64)) v0) :: vc (.d .fro (.sl (.int .i64)) v1) :: nn 3 (vc (iL v2) :: nn 20 ([]))) = laws_eqIntS.t4 (fun b => some (laws_eqIntS.mk b)) laws_eqIntS.q4 v0 v1 v2 := by kernel_rfl
theorem laws_eqIntS.s (v0 : List Int) (v1 : List Int) : Sub laws_eqIntS.mk (laws_eqIntS.t some laws_eqIntS.l4 v0 v1) (laws_eqIntS.t (fun b => some (laws_eqIntS.mk b)) laws_eqIntS.q4 v0 v1) := by
  unfold laws_eqIntS.t
  repeat' first | exact Sub.ret | exact Sub.none | exact Sub.loop | apply Sub.cond | (apply Sub.bind; intro _)
theorem laws_eqIntS.eq (v0 : List Int) (v1 : List Int) {b : Bool} (h : laws_eqIntS.t some laws_eqIntS.l4 v0 v1 = some b) : laws_eqIntS v0 v1 = some b := tOf_intro laws_eqIntS.un (fun _ => by kernel_rfl) (vlim_fn (callT_le E tab) rfl rfl rfl ((laws_eqIntS.k v0 v1).trans (laws_eqIntS.s v0 v1 b h)))
theorem laws_eqIntS.s4 (v0 : List Int) (v1 : List Int) (v2 : Int) : Sub laws_eqIntS.mk (laws_eqIntS.t4 some laws_eqIntS.l4 v0 v1 v2) (laws_eqIntS.t4 (fun b => some (laws_eqIntS.mk b)) laws_eqIntS.q4 v0 v1 v2) := by
  unfold laws_eqIntS.t4
  repeat' first | exact Sub.ret | exact Sub.none | exact Sub.loop | apply Sub.cond | (apply Sub.bind; intro _)
theorem laws_eqIntS.eq4 (v0 : List Int) (v1 : List Int) (v2 : Int) {b : Bool} (h : laws_eqIntS.t4 some laws_eqIntS.l4 v0 v1 v2 = some b) : laws_eqIntS.l4 v0 v1 v2 = some b := tOf_intro laws_eqIntS.un (fun _ => by kernel_rfl) (loopAtL_step ((laws_eqIntS.k4 v0 v1 v2).trans (laws_eqIntS.s4 v0 v1 v2 b h)))
noncomputable def laws_markTable_d7a.t {γ : Type} (ret : (Int × Int × (List (List Int × Int))) → Option γ) (v0 : Int) (v1 : List (List Int × Int)) (v2 : Int) : Option γ :=
  (laws_markWeightedS_d97 (v1) (v2)).bind fun (r0 : Int × (List (List Int × Int))) =>
  ret (r0.fst, v0, r0.snd)
theorem laws_markTable_d7a.k (v0 : Int) (v1 : List (List Int × Int)) (v2 : Int) : topL E (callT E tab) 20 Try.f20 (laws_markTable_d7a.c v0 v1 v2) = laws_markTable_d7a.t (fun b => some (laws_markTable_d7a.mk b)) v0 v1 v2 := by kernel_rfl
theorem laws_markTable_d7a.s (v0 : Int) (v1 : List (List Int × Int)) (v2 : Int) : Sub laws_markTable_d7a.mk (laws_markTable_d7a.t some v0 v1 v2) (laws_markTable_d7a.t (fun b => some (laws_markTable_d7a.mk b)) v0 v1 v2) := by
  unfold laws_markTable_d7a.t
  repeat' first | exact Sub.ret | exact Sub.none | exact Sub.loop | apply Sub.cond | (apply Sub.bind; intro _)
theorem laws_markTable_d7a.eq (v0 : Int) (v1 : List (List Int × Int)) (v2 : Int) {b : Int × Int × (List (List Int × Int))} (h : laws_markTable_d7a.t some v0 v1 v2 = some b) : laws_markTable_d7a v0 v1 v2 = some b := tOf_intro laws_markTable_d7a.un (fun _ => by kernel_rfl) (vlim_fn (callT_le E tab) rfl rfl rfl ((laws_markTable_d7a.k v0 v1 v2).trans (laws_markTable_d7a.s v0 v1 v2 b h)))
end GoV

/- Equations of the program's functions (printed by wip/tools/emit.py). -/
namespace GoV
open Go Go.Proofs
set_option maxRecDepth 100000

noncomputable def laws_markWeightedS_d97.q2 (v0 : List (List Int × Int)) (v1 : Int) (v2 : Int) : Option R := loopAtL E (callT E tab) 41 Try.f41 2 [.r, .l, .r, .b] (⟨(.val .one), [.d .deep (.sl (.pair (.sl (.int .i64)) (.int .i64))) v0], true, false, false, 0, 0⟩ :: vc (iL v1) :: nn 3 (vc (iL v2) :: nn 22 ([])))
noncomputable def laws_markWeightedS_d97.l2 (v0 : List (List Int × Int)) (v1 : Int) (v2 : Int) : Option (Int × (List (List Int × Int))) := tOf laws_markWeightedS_d97.mk (laws_markWeightedS_d97.q2 v0 v1 v2)
noncomputable def laws_markWeightedS_d97.t {γ : Type} (ret : (Int × (List (List Int × Int))) → Option γ) (lp2 : (List (List Int × Int)) → Int → Int → Option γ) (v0 : List (List Int × Int)) (v1 : Int) : Option γ :=
  lp2 (v0) (v1) ((0 : Int))
noncomputable def laws_markWeightedS_d97.t2 {γ : Type} (ret : (Int × (List (List Int × Int))) → Option γ) (lp2 : (List (List Int × Int)) → Int → Int → Option γ) (v0 : List (List Int × Int)) (v1 : Int) (v2 : Int) : Option γ :=
  bif Decidable.decide (v2 < (↑v0.length : Int)) then
    bif Decidable.decide ((0 : Int) ≤ v2) then
      bif Decidable.decide (v2.toNat < v0.length) then
        bif Decidable.decide (v2.toNat < v0.length) then
          bif Decidable.decide (v2.toNat < v0.length) then
            (laws_markIntS_83f ((v0.getD v2.toNat ([], (0 : Int))).fst) (v1)).bind fun (r0 : Int × (List Int)) =>
            bif Decidable.decide (v2.toNat = v2.toNat) &&   (Decidable.decide ((0 : Nat) + (0 : Nat) + (0 : Nat) = (0 : Nat) + (0 : Nat) + (0 : Nat)) &&     Decidable.decide ((1 : Nat) + (1 : Nat) = (1 : Nat) + (1 : Nat))) then
              bif Decidable.decide (v2.toNat < v0.length) then
                bif Decidable.decide ((0 : Int) ≤ v2) then
                  bif Decidable.decide (v2.toNat < (v0.set v2.toNat (r0.snd, (v0.getD v2.toNat ([], (0 : Int))).snd)).length) then
                    bif Decidable.decide (v2.toNat < (v0.set v2.toNat (r0.snd, (v0.getD v2.toNat ([], (0 : Int))).snd)).length) then
                      lp2 ((v0.set v2.toNat (r0.snd, (v0.getD v2.toNat ([], (0 : Int))).snd)).set v2.toNat   (((v0.set v2.toNat (r0.snd, (v0.getD v2.toNat ([], (0 : Int))).snd)).getD v2.toNat ([], (0 : Int))).fst, r0.fst)) (Go.IntKind.i64.wrap (r0.fst + (1 : Int))) (Go.IntKind.i64.wrap (v2 + (1 : Int)))
                    else
                      none
                  else
                    none
                else
                  none
              else
                none
            else
              none
          else
            none
        else
          none
      else
        none
    else
      none
  else
    ret (v1, v0)
theorem laws_markWeightedS_d97.k (v0 : List (List Int × Int)) (v1 : Int) : topL E (callT E tab) 41 Try.f41 (laws_markWeightedS_d97.c v0 v1) = laws_markWeightedS_d97.t (fun b => some (laws_markWeightedS_d97.mk b)) laws_markWeightedS_d97.q2 v0 v1 := by kernel_rfl
theorem laws_markWeightedS_d97.k2 (v0 : List (List Int × Int)) (v1 : Int) (v2 : Int) : roundL E (callT E tab) 41 Try.f41 2 [.r, .l, .r, .b] (⟨(.val .one), [.d .deep (.sl (.pair (.sl (.int .i64)) (.int .i64))) v0], true, false, false, 0, 0⟩ :: vc (iL v1) :: nn 3 (vc (iL v2) :: nn 22 ([]))) = laws_markWeightedS_d97.t2 (fun b => some (laws_markWeightedS_d97.mk b)) laws_markWeightedS_d97.q2 v0 v1 v2 := by kernel_rfl
theorem laws_markWeightedS_d97.s (v0 : List (List Int × Int)) (v1 : Int) : Sub laws_markWeightedS_d97.mk (laws_markWeightedS_d97.t some laws_markWeightedS_d97.l2 v0 v1) (laws_markWeightedS_d97.t (fun b => some (laws_markWeightedS_d97.mk b)) laws_markWeightedS_d97.q2 v0 v1) := by
  unfold laws_markWeightedS_d97.t
  repeat' first | exact Sub.ret | exact Sub.none | exact Sub.loop | apply Sub.cond | (apply Sub.bind; intro _)
theorem laws_markWeightedS_d97.eq (v0 : List (List Int × Int)) (v1 : Int) {b : Int × (List (List Int × Int))} (h : laws_markWeightedS_d97.t some laws_markWeightedS_d97.l2 v0 v1 = some b) : laws_markWeightedS_d97 v0 v1 = some b := tOf_intro laws_markWeightedS_d97.un (fun _ => by kernel_rfl) (vlim_fn (callT_le E tab) rfl rfl rfl ((laws_markWeightedS_d97.k v0 v1).trans (laws_markWeightedS_d97.s v0 v1 b h)))
theorem laws_markWeightedS_d97.s2 (v0 : List (List Int × Int)) (v1 : Int) (v2 : Int) : Sub laws_markWeightedS_d97.mk (laws_markWeightedS_d97.t2 some laws_markWeightedS_d97.l2 v0 v1 v2) (laws_markWeightedS_d97.t2 (fun b => some (laws_markWeightedS_d97.mk b)) laws_markWeightedS_d97.q2 v0 v1 v2) := by
  unfold laws_markWeightedS_d97.t2
  repeat' first | exact Sub.ret | exact Sub.none | exact Sub.loop | apply Sub.cond | (apply Sub.bind; intro _)
theorem laws_markWeightedS_d97.eq2 (v0 : List (List Int × Int)) (v1 : Int) (v2 : Int) {b : Int × (List (List Int × Int))} (h : laws_markWeightedS_d97.t2 some laws_markWeightedS_d97.l2 v0 v1 v2 = some b) : laws_markWeightedS_d97.l2 v0 v1 v2 = some b := tOf_intro laws_markWeightedS_d97.un (fun _ => by kernel_rfl) (loopAtL_step ((laws_markWeightedS_d97.k2 v0 v1 v2).trans (laws_markWeightedS_d97.s2 v0 v1 v2 b h)))
noncomputable def laws_markIntS_83f.q2 (v0 : List Int) (v1 : Int) (v2 : Int) : Option R := loopAtL E (callT E tab) 48 Try.f48 2 [.r, .l, .r, .b] (⟨(.val .one), [.d .deep (.sl (.int .i64)) v0], true, false, false, 0, 0⟩ :: vc (iL v1) :: nn 3 (vc (iL v2) :: nn 13 ([])))
noncomputable def laws_markIntS_83f.l2 (v0 : List Int) (v1 : Int) (v2 : Int) : Option (Int × (List Int)) := tOf laws_markIntS_83f.mk (laws_markIntS_83f.q2 v0 v1 v2)
noncomputable def laws_markIntS_83f.t {γ : Type} (ret : (Int × (List Int)) → Option γ) (lp2 : (List Int) → Int → Int → Option γ) (v0 : List Int) (v1 : Int) : Option γ :=
  lp2 (v0) (v1) ((0 : Int))
noncomputable def laws_markIntS_83f.t2 {γ : Type} (ret : (Int × (List Int)) → Option γ) (lp2 : (List Int) → Int → Int → Option γ) (v0 : List Int) (v1 : Int) (v2 : Int) : Option γ :=
  bif Decidable.decide (v2 < (↑v0.length : Int)) then
    bif Decidable.decide ((0 : Int) ≤ v2) then
      bif Decidable.decide (v2.toNat < v0.length) then
        bif Decidable.decide (v2.toNat < v0.length) then
          lp2 (v0.set v2.toNat v1) (Go.IntKind.i64.wrap (v1 + (1 : Int))) (Go.IntKind.i64.wrap (v2 + (1 : Int)))
        else
          none
      else
        none
    else
      none
  else
    ret (v1, v0)
theorem laws_markIntS_83f.k (v0 : List Int) (v1 : Int) : topL E (callT E tab) 48 Try.f48 (laws_markIntS_83f.c v0 v1) = laws_markIntS_83f.t (fun b => some (laws_markIntS_83f.mk b)) laws_markIntS_83f.q2 v0 v1 := by kernel_rfl
theorem laws_markIntS_83f.k2 (v0 : List Int) (v1 : Int) (v2 : Int) : roundL E (callT E tab) 48 Try.f48 2 [.r, .l, .r, .b] (⟨(.val .one), [.d .deep (.sl (.int .i64)) v0], true, false, false, 0, 0⟩ :: vc (iL v1) :: nn 3 (vc (iL v2) :: nn 13 ([]))) = laws_markIntS_83f.t2 (fun b => some (laws_markIntS_83f.mk b)) laws_markIntS_83f.q2 v0 v1 v2 := by kernel_rfl
theorem laws_markIntS_83f.s (v0 : List Int) (v1 : Int) : Sub laws_markIntS_83f.mk (laws_markIntS_83f.t some laws_markIntS_83f.l2 v0 v1) (laws_markIntS_83f.t (fun b => some (laws_markIntS_83f.mk b)) laws_markIntS_83f.q2 v0 v1) := by
  unfold laws_markIntS_83f.t
  repeat' first | exact Sub.ret | exact Sub.none | exact Sub.loop | apply Sub.cond | (apply Sub.bind; intro _)
theorem laws_markIntS_83f.eq (v0 : List Int) (v1 : Int) {b : Int × (List Int)} (h : laws_markIntS_83f.t some laws_markIntS_83f.l2 v0 v1 = some b) : laws_markIntS_83f v0 v1 = some b := tOf_intro laws_markIntS_83f.un (fun _ => by kernel_rfl) (vlim_fn (callT_le E tab) rfl rfl rfl ((laws_markIntS_83f.k v0 v1).trans (laws_markIntS_83f.s v0 v1 b h)))
theorem laws_markIntS_83f.s2 (v0 : List Int) (v1 : Int) (v2 : Int) : Sub laws_markIntS_83f.mk (laws_markIntS_83f.t2 some laws_markIntS_83f.l2 v0 v1 v2) (laws_markIntS_83f.t2 (fun b => some (laws_markIntS_83f.mk b)) laws_markIntS_83f.q2 v0 v1 v2) := by
  unfold laws_markIntS_83f.t2
  repeat' first | exact Sub.ret | exact Sub.none | exact Sub.loop | apply Sub.cond | (apply Sub.bind; intro _)
theorem laws_markIntS_83f.eq2 (v0 : List Int) (v1 : Int) (v2 : Int) {b : Int × (List Int)} (h : laws_markIntS_83f.t2 some laws_markIntS_83f.l2 v0 v1 v2 = some b) : laws_markIntS_83f.l2 v0 v1 v2 = some b := tOf_intro laws_markIntS_83f.un (fun _ => by kernel_rfl) (loopAtL_step ((laws_markIntS_83f.k2 v0 v1 v2).trans (laws_markIntS_83f.s2 v0 v1 v2 b h)))
noncomputable def laws_heldTable.t {γ : Type} (ret : (Int) → Option γ) (v0 : Int) (v1 : List (List Int × Int)) (v2 : Int) : Option γ :=
  (laws_heldWeightedS (v1) (v2)).bind fun (r0 : Int) =>
  bif Decidable.decide (r0 < (0 : Int)) then
    ret ((-1 : Int))
  else
    ret (r0)
theorem laws_heldTable.k (v0 : Int) (v1 : List (List Int × Int)) (v2 : Int) : topL E (callT E tab) 21 Try.f21 (laws_heldTable.c v0 v1 v2) = laws_heldTable.t (fun b => some (laws_heldTable.mk b)) v0 v1 v2 := by kernel_rfl
theorem laws_heldTable.s (v0 : Int) (v1 : List (List Int × Int)) (v2 : Int) : Sub laws_heldTable.mk (laws_heldTable.t some v0 v1 v2) (laws_heldTable.t (fun b => some (laws_heldTable.mk b)) v0 v1 v2) := by
  unfold laws_heldTable.t
  repeat' first | exact Sub.ret | exact Sub.none | exact Sub.loop | apply Sub.cond | (apply Sub.bind; intro _)
theorem laws_heldTable.eq (v0 : Int) (v1 : List (List Int × Int)) (v2 : Int) {b : Int} (h : laws_heldTable.t some v0 v1 v2 = some b) : laws_heldTable v0 v1 v2 = some b := tOf_intro laws_heldTable.un (fun _ => by kernel_rfl) (vlim_fn (callT_le E tab) rfl rfl rfl ((laws_heldTable.k v0 v1 v2).trans (laws_heldTable.s v0 v1 v2 b h)))
noncomputable def laws_heldWeightedS.q2 (v0 : List (List Int × Int)) (v1 : Int) (v2 : Int) : Option R := loopAtL E (callT E tab) 64 Try.f64 2 [.r, .l, .r, .b] (vc (.d .fro (.sl (.pair (.sl (.int .i64)) (.int .i64))) v0) :: vc (iL v1) :: nn 3 (vc (iL v2) :: nn 26 ([])))
noncomputable def laws_heldWeightedS.l2 (v0 : List (List Int × Int)) (v1 : Int) (v2 : Int) : Option (Int) := tOf laws_heldWeightedS.mk (laws_heldWeightedS.q2 v0 v1 v2)
noncomputable def laws_heldWeightedS.t {γ : Type} (ret : (Int) → Option γ) (lp2 : (List (List Int × Int)) → Int → Int → Option γ) (v0 : List (List Int × Int)) (v1 : Int) : Option γ :=
  lp2 (v0) (v1) ((0 : Int))
noncomputable def laws_heldWeightedS.t2 {γ : Type} (ret : (Int) → Option γ) (lp2 : (List (List Int × Int)) → Int → Int → Option γ) (v0 : List (List Int × Int)) (v1 : Int) (v2 : Int) : Option γ :=
  bif Decidable.decide (v2 < (↑v0.length : Int)) then
    bif Decidable.decide ((0 : Int) ≤ v2) then
      bif Decidable.decide (v2.toNat < v0.length) then
        (laws_heldIntS ((v0.getD v2.toNat ([], (0 : Int))).fst) (v1)).bind fun (r0 : Int) =>
        bif Decidable.decide (r0 < (0 : Int)) then
          ret ((-1 : Int))
        else
          bif Decidable.decide ((0 : Int) ≤ v2) then
            bif Decidable.decide (v2.toNat < v0.length) then
              bif (v0.getD v2.toNat ([], (0 : Int))).snd != r0 then
                ret ((-1 : Int))
              else
                lp2 (v0) (Go.IntKind.i64.wrap (r0 + (1 : Int))) (Go.IntKind.i64.wrap (v2 + (1 : Int)))
            else
              none
          else
            none
      else
        none
    else
      none
  else
    ret (v1)
theorem laws_heldWeightedS.k (v0 : List (List Int × Int)) (v1 : Int) : topL E (callT E tab) 64 Try.f64 (laws_heldWeightedS.c v0 v1) = laws_heldWeightedS.t (fun b => some (laws_heldWeightedS.mk b)) laws_heldWeightedS.q2 v0 v1 := by kernel_rfl
theorem laws_heldWeightedS.k2 (v0 : List (List Int × Int)) (v1 : Int) (v2 : Int) : roundL E (callT E tab) 64 Try.f64 2 [.r, .l, .r, .b] (vc (.d .fro (.sl (.pair (.sl (.int .i64)) (.int .i64))) v0) :: vc (iL v1) :: nn 3 (vc (iL v2) :: nn 26 ([]))) = laws_heldWeightedS.t2 (fun b => some (laws_heldWeightedS.mk b)) laws_heldWeightedS.q2 v0 v1 v2 := by kernel_rfl
theorem laws_heldWeightedS.s (v0 : List (List Int × Int)) (v1 : Int) : Sub laws_heldWeightedS.mk (laws_heldWeightedS.t some laws_heldWeightedS.l2 v0 v1) (laws_heldWeightedS.t (fun b => some (laws_heldWeightedS.mk b)) laws_heldWeightedS.q2 v0 v1) := by
  unfold laws_heldWeightedS.t
  repeat' first | exact Sub.ret | exact Sub.none | exact Sub.loop | apply Sub.cond | (apply Sub.bind; intro _)
theorem laws_heldWeightedS.eq (v0 : List (List Int × Int)) (v1 : Int) {b : Int} (h : laws_heldWeightedS.t some laws_heldWeightedS.l2 v0 v1 = some b) : laws_heldWeightedS v0 v1 = some b := tOf_intro laws_heldWeightedS.un (fun _ => by kernel_rfl) (vlim_fn (callT_le E tab) rfl rfl rfl ((laws_heldWeightedS.k v0 v1).trans (laws_heldWeightedS.s v0 v1 b h)))
theorem laws_heldWeightedS.s2 (v0 : List (List Int × Int)) (v1 : Int) (v2 : Int) : Sub laws_heldWeightedS.mk (laws_heldWeightedS.t2 some laws_heldWeightedS.l2 v0 v1 v2) (laws_heldWeightedS.t2 (fun b => some (laws_heldWeightedS.mk b)) laws_heldWeightedS.q2 v0 v1 v2) := by
  unfold laws_heldWeightedS.t2
  repeat' first | exact Sub.ret | exact Sub.none | exact Sub.loop | apply Sub.cond | (apply Sub.bind; intro _)
theorem laws_heldWeightedS.eq2 (v0 : List (List Int × Int)) (v1 : Int) (v2 : Int) {b : Int} (h : laws_heldWeightedS.t2 some laws_heldWeightedS.l2 v0 v1 v2 = some b) : laws_heldWeightedS.l2 v0 v1 v2 = some b := tOf_intro laws_heldWeightedS.un (fun _ => by kernel_rfl) (loopAtL_step ((laws_heldWeightedS.k2 v0 v1 v2).trans (laws_heldWeightedS.s2 v0 v1 v2 b h)))
noncomputable def laws_heldIntS.q2 (v0 : List Int) (v1 : Int) (v2 : Int) : Option R := loopAtL E (callT E tab) 110 Try.f110 2 [.r, .l, .r, .b] (vc (.d .fro (.sl (.int .i64)) v0) :: vc (iL v1) :: nn 3 (vc (iL v2) :: nn 15 ([])))
noncomputable def laws_heldIntS.l2 (v0 : List Int) (v1 : Int) (v2 : Int) : Option (Int) := tOf laws_heldIntS.mk (laws_heldIntS.q2 v0 v1 v2)
noncomputable def laws_heldIntS.t {γ : Type} (ret : (Int) → Option γ) (lp2 : (List Int) → Int → Int → Option γ) (v0 : List Int) (v1 : Int) : Option γ :=
  lp2 (v0) (v1) ((0 : Int))
noncomputable def laws_heldIntS.t2 {γ : Type} (ret : (Int) → Option γ) (lp2 : (List Int) → Int → Int → Option γ) (v0 : List Int) (v1 : Int) (v2 : Int) : Option γ :=
  bif Decidable.decide (v2 < (↑v0.length : Int)) then
    bif Decidable.decide ((0 : Int) ≤ v2) then
      bif Decidable.decide (v2.toNat < v0.length) then
        bif v0.getD v2.toNat (0 : Int) != v1 then
          ret ((-1 : Int))
        else
          lp2 (v0) (Go.IntKind.i64.wrap (v1 + (1 : Int))) (Go.IntKind.i64.wrap (v2 + (1 : Int)))
      else
        none
    else
      none
  else
    ret (v1)
theorem laws_heldIntS.k (v0 : List Int) (v1 : Int) : topL E (callT E tab) 110 Try.f110 (laws_heldIntS.c v0 v1) = laws_heldIntS.t (fun b => some (laws_heldIntS.mk b)) laws_heldIntS.q2 v0 v1 := by kernel_rfl
theorem laws_heldIntS.k2 (v0 : List Int) (v1 : Int) (v2 : Int) : roundL E (callT E tab) 110 Try.f110 2 [.r, .l, .r, .b] (vc (.d .fro (.sl (.int .i64)) v0) :: vc (iL v1) :: nn 3 (vc (iL v2) :: nn 15 ([]))) = laws_heldIntS.t2 (fun b => some (laws_heldIntS.mk b)) laws_heldIntS.q2 v0 v1 v2 := by kernel_rfl
theorem laws_heldIntS.s (v0 : List Int) (v1 : Int) : Sub laws_heldIntS.mk (laws_heldIntS.t some laws_heldIntS.l2 v0 v1) (laws_heldIntS.t (fun b => some (laws_heldIntS.mk b)) laws_heldIntS.q2 v0 v1) := by
  unfold laws_heldIntS.t
  repeat' first | exact Sub.ret | exact Sub.none | exact Sub.loop | apply Sub.cond | (apply Sub.bind; intro _)
theorem laws_heldIntS.eq (v0 : List Int) (v1 : Int) {b : Int} (h : laws_heldIntS.t some laws_heldIntS.l2 v0 v1 = some b) : laws_heldIntS v0 v1 = some b := tOf_intro laws_heldIntS.un (fun _ => by kernel_rfl) (vlim_fn (callT_le E tab) rfl rfl rfl ((laws_heldIntS.k v0 v1).trans (laws_heldIntS.s v0 v1 b h)))
theorem laws_heldIntS.s2 (v0 : List Int) (v1 : Int) (v2 : Int) : Sub laws_heldIntS.mk (laws_heldIntS.t2 some laws_heldIntS.l2 v0 v1 v2) (laws_heldIntS.t2 (fun b => some (laws_heldIntS.mk b)) laws_heldIntS.q2 v0 v1 v2) := by
  unfold laws_heldIntS.t2
  repeat' first | exact Sub.ret | exact Sub.none | exact Sub.loop | apply Sub.cond | (apply Sub.bind; intro _)
theorem laws_heldIntS.eq2 (v0 : List Int) (v1 : Int) (v2 : Int) {b : Int} (h : laws_heldIntS.t2 some laws_heldIntS.l2 v0 v1 v2 = some b) : laws_heldIntS.l2 v0 v1 v2 = some b := tOf_intro laws_heldIntS.un (fun _ => by kernel_rfl) (loopAtL_step ((laws_heldIntS.k2 v0 v1 v2).trans (laws_heldIntS.s2 v0 v1 v2 b h)))
noncomputable def laws_FnExactSelectRows.t {γ : Type} (ret : (Bool) → Option γ) (v0 : Int) (v1 : List (List Int × Int)) (v2 : List (Int × Int × Int)) : Option γ :=
  (laws_szTable (v0) (v1) ((1048576 : Int))).bind fun (r0 : Int) =>
  bif Decidable.decide (r0 < (0 : Int)) then
    ret (Bool.true)
  else
    (laws_szTestS (v2) (r0)).bind fun (r1 : Int) =>
    bif Decidable.decide (r1 < (0 : Int)) then
      ret (Bool.true)
    else
      (laws_toTable (v0) (v1)).bind fun (r2 : Int × (List (List Int × Int))) =>
      (laws_toTestS (v2)).bind fun (r3 : (List (Int × Int × Int))) =>
      (spec_SelectRows (r2.fst) (r2.snd) (r3)).bind fun (r4 : Int × (List (List Int × Int)) × Bool) =>
      (laws_toTable (v0) (v1)).bind fun (r5 : Int × (List (List Int × Int))) =>
      (laws_toTestS (v2)).bind fun (r6 : (List (Int × Int × Int))) =>
      (impl_SelectRows (r5.fst) (r5.snd) (r6)).bind fun (r7 : Int × (List (List Int × Int)) × Bool) =>
      (laws_eqTable (r7.fst) (r7.snd.fst) (r4.fst) (r4.snd.fst)).bind fun (r8 : Bool) =>
      bif !r8 then
        ret (Bool.false)
      else
        bif !r7.snd.snd == r4.snd.snd then
          ret (Bool.false)
        else
          (laws_toTable (v0) (v1)).bind fun (r9 : Int × (List (List Int × Int))) =>
          (laws_eqTable (r5.fst) (r5.snd) (r9.fst) (r9.snd)).bind fun (r10 : Bool) =>
          bif !r10 then
            ret (Bool.false)
          else
            (laws_toTestS (v2)).bind fun (r11 : (List (Int × Int × Int))) =>
            (laws_eqTestS (r6) (r11)).bind fun (r12 : Bool) =>
            bif !r12 then
              ret (Bool.false)
            else
              (laws_markTable_d7a (r5.fst) (r5.snd) ((1 : Int))).bind fun (r13 : Int × Int × (List (List Int × Int))) =>
              (laws_markTestS_5b1 (r6) (r13.fst)).bind fun (r14 : Int × (List (Int × Int × Int))) =>
              bif Decidable.decide (r14.fst < (0 : Int)) then
                ret (Bool.false)
              else
                (laws_eqTable (r7.fst) (r7.snd.fst) (r4.fst) (r4.snd.fst)).bind fun (r15 : Bool) =>
                bif !r15 then
                  ret (Bool.false)
                else
                  bif !r7.snd.snd == r4.snd.snd then
                    ret (Bool.false)
                  else
                    (laws_markTable_d7a (r7.fst) (r7.snd.fst) ((1 : Int))).bind fun (r16 : Int × Int × (List (List Int × Int))) =>
                    (laws_heldTable (r7.fst) (r16.snd.snd) ((1 : Int))).bind fun (r17 : Int) =>
                    bif Decidable.decide (r17 < (0 : Int)) then
                      ret (Bool.false)
                    else
                      bif r17 != r16.fst then
                        ret (Bool.false)
                      else
                        (laws_toTable (v0) (v1)).bind fun (r18 : Int × (List (List Int × Int))) =>
                        (laws_toTestS (v2)).bind fun (r19 : (List (Int × Int × Int))) =>
                        (impl_SelectRows (r18.fst) (r18.snd) (r19)).bind fun (r20 : Int × (List (List Int × Int)) × Bool) =>
                        (laws_eqTable (r20.fst) (r20.snd.fst) (r4.fst) (r4.snd.fst)).bind fun (r21 : Bool) =>
                        bif !r21 then
                          ret (Bool.false)
                        else
                          bif !r20.snd.snd == r4.snd.snd then
                            ret (Bool.false)
                          else
                            (laws_heldTable (r7.fst) (r16.snd.snd) ((1 : Int))).bind fun (r22 : Int) =>
                            bif Decidable.decide (r22 < (0 : Int)) then
                              ret (Bool.false)
                            else
                              bif r22 != r16.fst then
                                ret (Bool.false)
                              else
                                ret (Bool.true)
theorem laws_FnExactSelectRows.k (v0 : Int) (v1 : List (List Int × Int)) (v2 : List (Int × Int × Int)) : topL E (callT E tab) 8 Try.f8 (laws_FnExactSelectRows.c v0 v1 v2) = laws_FnExactSelectRows.t (fun b => some (laws_FnExactSelectRows.mk b)) v0 v1 v2 := by kernel_rfl
theorem laws_FnExactSelectRows.s (v0 : Int) (v1 : List (List Int × Int)) (v2 : List (Int × Int × Int)) : Sub laws_FnExactSelectRows.mk (laws_FnExactSelectRows.t some v0 v1 v2) (laws_FnExactSelectRows.t (fun b => some (laws_FnExactSelectRows.mk b)) v0 v1 v2) := by
  unfold laws_FnExactSelectRows.t
  repeat' first | exact Sub.ret | exact Sub.none | exact Sub.loop | apply Sub.cond | (apply Sub.bind; intro _)
theorem laws_FnExactSelectRows.eq (v0 : Int) (v1 : List (List Int × Int)) (v2 : List (Int × Int × Int)) {b : Bool} (h : laws_FnExactSelectRows.t some v0 v1 v2 = some b) : laws_FnExactSelectRows v0 v1 v2 = some b := tOf_intro laws_FnExactSelectRows.un (fun _ => by kernel_rfl) (vlim_fn (callT_le E tab) rfl rfl rfl ((laws_FnExactSelectRows.k v0 v1 v2).trans (laws_FnExactSelectRows.s v0 v1 v2 b h)))
noncomputable def laws_szTestS.t {γ : Type} (ret : (Int) → Option γ) (v0 : List (Int × Int × Int)) (v1 : Int) : Option γ :=
  bif Decidable.decide (Go.IntKind.i64.wrap (v1 - (↑v0.length : Int)) < (0 : Int)) then
    ret ((-1 : Int))
  else
    ret (Go.IntKind.i64.wrap (v1 - (↑v0.length : Int)))
theorem laws_szTestS.k (v0 : List (Int × Int × Int)) (v1 : Int) : topL E (callT E tab) 30 Try.f30 (laws_szTestS.c v0 v1) = laws_szTestS.t (fun b => some (laws_szTestS.mk b)) v0 v1 := by kernel_rfl
theorem laws_szTestS.s (v0 : List (Int × Int × Int)) (v1 : Int) : Sub laws_szTestS.mk (laws_szTestS.t some v0 v1) (laws_szTestS.t (fun b => some (laws_szTestS.mk b)) v0 v1) := by
  unfold laws_szTestS.t
  repeat' first | exact Sub.ret | exact Sub.none | exact Sub.loop | apply Sub.cond | (apply Sub.bind; intro _)
theorem laws_szTestS.eq (v0 : List (Int × Int × Int)) (v1 : Int) {b : Int} (h : laws_szTestS.t some v0 v1 = some b) : laws_szTestS v0 v1 = some b := tOf_intro laws_szTestS.un (fun _ => by kernel_rfl) (vlim_fn (callT_le E tab) rfl rfl rfl ((laws_szTestS.k v0 v1).trans (laws_szTestS.s v0 v1 b h)))
noncomputable def laws_toTestS.q3 (v0 : List (Int × Int × Int)) (v1 : List (Int × Int × Int)) (v2 : Int) : Option R := loopAtL E (callT E tab) 32 Try.f32 1 [.r, .r, .l, .r, .b] (vc (.d .fro (.sl (.pair (.int .i64) (.pair (.int .i64) (.int .i64)))) v0) :: nn 2 (vc (.d .deep (.sl (.pair (.int .i64) (.pair (.int .i64) (.int .i64)))) v1) :: vc (iL v2) :: nn 18 ([])))
noncomputable def laws_toTestS.l3 (v0 : List (Int × Int × Int)) (v1 : List (Int × Int × Int)) (v2 : Int) : Option ((List (Int × Int × Int))) := tOf laws_toTestS.mk (laws_toTestS.q3 v0 v1 v2)
noncomputable def laws_toTestS.t {γ : Type} (ret : ((List (Int × Int × Int))) → Option γ) (lp3 : (List (Int × Int × Int)) → (List (Int × Int × Int)) → Int → Option γ) (v0 : List (Int × Int × Int)) : Option γ :=
  bif Decidable.decide ((↑v0.length : Int) = (↑v0.length : Int)) then
    bif Decidable.decide ((↑v0.length : Int) ≤ (↑(4294967296 : Nat) : Int)) then
      lp3 (v0) (List.replicate (↑v0.length : Int).toNat ((0 : Int), (0 : Int), (0 : Int))) ((0 : Int))
    else
      none
  else
    none
noncomputable def laws_toTestS.t3 {γ : Type} (ret : ((List (Int × Int × Int))) → Option γ) (lp3 : (List (Int × Int × Int)) → (List (Int × Int × Int)) → Int → Option γ) (v0 : List (Int × Int × Int)) (v1 : List (Int × Int × Int)) (v2 : Int) : Option γ :=
  bif Decidable.decide (v2 < (↑v0.length : Int)) then
    bif Decidable.decide ((0 : Int) ≤ v2) then
      bif Decidable.decide (v2.toNat < v0.length) then
        (laws_toTest ((v0.getD v2.toNat ((0 : Int), (0 : Int), (0 : Int))).fst) ((v0.getD v2.toNat ((0 : Int), (0 : Int), (0 : Int))).snd.fst) ((v0.getD v2.toNat ((0 : Int), (0 : Int), (0 : Int))).snd.snd)).bind fun (r0 : Int × Int × Int) =>
        bif Decidable.decide ((0 : Int) ≤ v2) then
          bif Decidable.decide (v2.toNat < v1.length) then
            bif Decidable.decide (v2.toNat < v1.length) then
              lp3 (v0) (v1.set v2.toNat (r0.fst, r0.snd.fst, r0.snd.snd)) (Go.IntKind.i64.wrap (v2 + (1 : Int)))
            else
              none
          else
            none
        else
          none
      else
        none
    else
      none
  else
    ret (v1)
theorem laws_toTestS.k (v0 : List (Int × Int × Int)) : topL E (callT E tab) 32 Try.f32 (laws_toTestS.c v0) = laws_toTestS.t (fun b => some (laws_toTestS.mk b)) laws_toTestS.q3 v0 := by kernel_rfl
theorem laws_toTestS.k3 (v0 : List (Int × Int × Int)) (v1 : List (Int × Int × Int)) (v2 : Int) : roundL E (callT E tab) 32 Try.f32 1 [.r, .r, .l, .r, .b] (vc (.d .fro (.sl (.pair (.int .i64) (.pair (.int .i64) (.int .i64)))) v0) :: nn 2 (vc (.d .deep (.sl (.pair (.int .i64) (.pair (.int .i64) (.int .i64)))) v1) :: vc (iL v2) :: nn 18 ([]))) = laws_toTestS.t3 (fun b => some (laws_toTestS.mk b)) laws_toTestS.q3 v0 v1 v2 := by kernel_rfl
theorem laws_toTestS.s (v0 : List (Int × Int × Int)) : Sub laws_toTestS.mk (laws_toTestS.t some laws_toTestS.l3 v0) (laws_toTestS.t (fun b => some (laws_toTestS.mk b)) laws_toTestS.q3 v0) := by
  unfold laws_toTestS.t
  repeat' first | exact Sub.ret | exact Sub.none | exact Sub.loop | apply Sub.cond | (apply Sub.bind; intro _)
theorem laws_toTestS.eq (v0 : List (Int × Int × Int)) {b : (List (Int × Int × Int))} (h : laws_toTestS.t some laws_toTestS.l3 v0 = some b) : laws_toTestS v0 = some b := tOf_intro laws_toTestS.un (fun _ => by kernel_rfl) (vlim_fn (callT_le E tab) rfl rfl rfl ((laws_toTestS.k v0).trans (laws_toTestS.s v0 b h)))
theorem laws_toTestS.s3 (v0 : List (Int × Int × Int)) (v1 : List (Int × Int × Int)) (v2 : Int) : Sub laws_toTestS.mk (laws_toTestS.t3 some laws_toTestS.l3 v0 v1 v2) (laws_toTestS.t3 (fun b => some (laws_toTestS.mk b)) laws_toTestS.q3 v0 v1 v2) := by
  unfold laws_toTestS.t3
  repeat' first | exact Sub.ret | exact Sub.none | exact Sub.loop | apply Sub.cond | (apply Sub.bind; intro _)
theorem laws_toTestS.eq3 (v0 : List (Int × Int × Int)) (v1 : List (Int × Int × Int)) (v2 : Int) {b : (List (Int × Int × Int))} (h : laws_toTestS.t3 some laws_toTestS.l3 v0 v1 v2 = some b) : laws_toTestS.l3 v0 v1 v2 = some b := tOf_intro laws_toTestS.un (fun _ => by kernel_rfl) (loopAtL_step ((laws_toTestS.k3 v0 v1 v2).trans (laws_toTestS.s3 v0 v1 v2 b h)))
noncomputable def laws_toTest.t {γ : Type} (ret : (Int × Int × Int) → Option γ) (v0 : Int) (v1 : Int) (v2 : Int) : Option γ :=
  ret (v0, v1, v2)
theorem laws_toTest.k (v0 : Int) (v1 : Int) (v2 : Int) : topL E (callT E tab) 79 Try.f79 (laws_toTest.c v0 v1 v2) = laws_toTest.t (fun b => some (laws_toTest.mk b)) v0 v1 v2 := by kernel_rfl
theorem laws_toTest.s (v0 : Int) (v1 : Int) (v2 : Int) : Sub laws_toTest.mk (laws_toTest.t some v0 v1 v2) (laws_toTest.t (fun b => some (laws_toTest.mk b)) v0 v1 v2) := by
  unfold laws_toTest.t
  repeat' first | exact Sub.ret | exact Sub.none | exact Sub.loop | apply Sub.cond | (apply Sub.bind; intro _)
theorem laws_toTest.eq (v0 : Int) (v1 : Int) (v2 : Int) {b : Int × Int × Int} (h : laws_toTest.t some v0 v1 v2 = some b) : laws_toTest v0 v1 v2 = some b := tOf_intro laws_toTest.un (fun _ => by kernel_rfl) (vlim_fn (callT_le E tab) rfl rfl rfl ((laws_toTest.k v0 v1 v2).trans (laws_toTest.s v0 v1 v2 b h)))
noncomputable def spec_SelectRows.t {γ : Type} (ret : (Int × (List (List Int × Int)) × Bool) → Option γ) (v0 : Int) (v1 : List (List Int × Int)) (v2 : List (Int × Int × Int)) : Option γ :=
  (spec_GoodTable (v0) (v1)).bind fun (r0 : Bool) =>
  bif !r0 then
    ret ((0 : Int), [], Bool.false)
  else
    (spec_GoodTests (v2) (v0)).bind fun (r1 : Bool) =>
    bif !r1 then
      ret ((0 : Int), [], Bool.false)
    else
      (spec_l3Select (v1) (v2)).bind fun (r2 : (List (List Int × Int))) =>
      (spec_l2Tell (v0) (r2)).bind fun (r3 : Int × (List (List Int × Int)) × Bool) =>
      ret (r3.fst, r3.snd.fst, r3.snd.snd)
theorem spec_SelectRows.k (v0 : Int) (v1 : List (List Int × Int)) (v2 : List (Int × Int × Int)) : topL E (callT E tab) 31 Try.f31 (spec_SelectRows.c v0 v1 v2) = spec_SelectRows.t (fun b => some (spec_SelectRows.mk b)) v0 v1 v2 := by kernel_rfl
theorem spec_SelectRows.s (v0 : Int) (v1 : List (List Int × Int)) (v2 : List (Int × Int × Int)) : Sub spec_SelectRows.mk (spec_SelectRows.t some v0 v1 v2) (spec_SelectRows.t (fun b => some (spec_SelectRows.mk b)) v0 v1 v2) := by
  unfold spec_SelectRows.t
  repeat' first | exact Sub.ret | exact Sub.none | exact Sub.loop | apply Sub.cond | (apply Sub.bind; intro _)
theorem spec_SelectRows.eq (v0 : Int) (v1 : List (List Int × Int)) (v2 : List (Int × Int × Int)) {b : Int × (List (List Int × Int)) × Bool} (h : spec_SelectRows.t some v0 v1 v2 = some b) : spec_SelectRows v0 v1 v2 = some b := tOf_intro spec_SelectRows.un (fun _ => by kernel_rfl) (vlim_fn (callT_le E tab) rfl rfl rfl ((spec_SelectRows.k v0 v1 v2).trans (spec_SelectRows.s v0 v1 v2 b h)))
noncomputable def spec_GoodTests.q2 (v0 : List (Int × Int × Int)) (v1 : Int) (v2 : List (Int × Int × Int)) (v3 : Int) (v4 : Int) : Option R := loopAtL E (callT E tab) 77 Try.f77 2 [.r, .l, .r, .b] (vc (.d .fro (.sl (.pair (.int .i64) (.pair (.int .i64) (.int .i64)))) v0) :: vc (iL v1) :: nn 5 (vc (.d .fro (.sl (.pair (.int .i64) (.pair (.int .i64) (.int .i64)))) v2) :: vc (iL v3) :: vc (iL v4) :: nn 42 ([])))
noncomputable def spec_GoodTests.l2 (v0 : List (Int × Int × Int)) (v1 : Int) (v2 : List (Int × Int × Int)) (v3 : Int) (v4 : Int) : Option (Bool) := tOf spec_GoodTests.mk (spec_GoodTests.q2 v0 v1 v2 v3 v4)
noncomputable def spec_GoodTests.t {γ : Type} (ret : (Bool) → Option γ) (lp2 : (List (Int × Int × Int)) → Int → (List (Int × Int × Int)) → Int → Int → Option γ) (v0 : List (Int × Int × Int)) (v1 : Int) : Option γ :=
  lp2 (v0) (v1) (v0) ((↑v0.length : Int)) ((0 : Int))
noncomputable def spec_GoodTests.t2 {γ : Type} (ret : (Bool) → Option γ) (lp2 : (List (Int × Int × Int)) → Int → (List (Int × Int × Int)) → Int → Int → Option γ) (v0 : List (Int × Int × Int)) (v1 : Int) (v2 : List (Int × Int × Int)) (v3 : Int) (v4 : Int) : Option γ :=
  bif Decidable.decide (v4 < v3) then
    bif Decidable.decide ((0 : Int) ≤ v4) then
      bif Decidable.decide (v4.toNat < v2.length) then
        bif Decidable.decide ((v2.getD v4.toNat ((0 : Int), (0 : Int), (0 : Int))).snd.fst < (0 : Int)) then
          ret (Bool.false)
        else
          bif Decidable.decide ((v2.getD v4.toNat ((0 : Int), (0 : Int), (0 : Int))).snd.fst ≥ v1) then
            ret (Bool.false)
          else
            (spec_l1In ((v2.getD v4.toNat ((0 : Int), (0 : Int), (0 : Int))).fst) ((1 : Int)) ((4 : Int))).bind fun (r0 : Bool) =>
            bif !r0 then
              ret (Bool.false)
            else
              bif (v2.getD v4.toNat ((0 : Int), (0 : Int), (0 : Int))).fst == (4 : Int) then
                bif Decidable.decide ((v2.getD v4.toNat ((0 : Int), (0 : Int), (0 : Int))).snd.snd < (0 : Int)) then
                  ret (Bool.false)
                else
                  bif Decidable.decide ((v2.getD v4.toNat ((0 : Int), (0 : Int), (0 : Int))).snd.snd ≥ v1) then
                    ret (Bool.false)
                  else
                    (spec_l1In ((v2.getD v4.toNat ((0 : Int), (0 : Int), (0 : Int))).snd.snd) ((-100000 : Int)) ((100000 : Int))).bind fun (r1 : Bool) =>
                    bif !r1 then
                      ret (Bool.false)
                    else
                      lp2 (v0) (v1) (v2) (v3) (Go.IntKind.i64.wrap (v4 + (1 : Int)))
              else
                (spec_l1In ((v2.getD v4.toNat ((0 : Int), (0 : Int), (0 : Int))).snd.snd) ((-100000 : Int)) ((100000 : Int))).bind fun (r2 : Bool) =>
                bif !r2 then
                  ret (Bool.false)
                else
                  lp2 (v0) (v1) (v2) (v3) (Go.IntKind.i64.wrap (v4 + (1 : Int)))
      else
        none
    else
      none
  else
    ret (Decidable.decide ((↑v0.length : Int) ≤ (8 : Int)))
theorem spec_GoodTests.k (v0 : List (Int × Int × Int)) (v1 : Int) : topL E (callT E tab) 77 Try.f77 (spec_GoodTests.c v0 v1) = spec_GoodTests.t (fun b => some (spec_GoodTests.mk b)) spec_GoodTests.q2 v0 v1 := by kernel_rfl
theorem spec_GoodTests.k2 (v0 : List (Int × Int × Int)) (v1 : Int) (v2 : List (Int × Int × Int)) (v3 : Int) (v4 : Int) : roundL E (callT E tab) 77 Try.f77 2 [.r, .l, .r, .b] (vc (.d .fro (.sl (.pair (.int .i64) (.pair (.int .i64) (.int .i64)))) v0) :: vc (iL v1) :: nn 5 (vc (.d .fro (.sl (.pair (.int .i64) (.pair (.int .i64) (.int .i64)))) v2) :: vc (iL v3) :: vc (iL v4) :: nn 42 ([]))) = spec_GoodTests.t2 (fun b => some (spec_GoodTests.mk b)) spec_GoodTests.q2 v0 v1 v2 v3 v4 := by kernel_rfl
theorem spec_GoodTests.s (v0 : List (Int × Int × Int)) (v1 : Int) : Sub spec_GoodTests.mk (spec_GoodTests.t some spec_GoodTests.l2 v0 v1) (spec_GoodTests.t (fun b => some (spec_GoodTests.mk b)) spec_GoodTests.q2 v0 v1) := by
  unfold spec_GoodTests.t
  repeat' first | exact Sub.ret | exact Sub.none | exact Sub.loop | apply Sub.cond | (apply Sub.bind; intro _)
theorem spec_GoodTests.eq (v0 : List (Int × Int × Int)) (v1 : Int) {b : Bool} (h : spec_GoodTests.t some spec_GoodTests.l2 v0 v1 = some b) : spec_GoodTests v0 v1 = some b := tOf_intro spec_GoodTests.un (fun _ => by kernel_rfl) (vlim_fn (callT_le E tab) rfl rfl rfl ((spec_GoodTests.k v0 v1).trans (spec_GoodTests.s v0 v1 b h)))
theorem spec_GoodTests.s2 (v0 : List (Int × Int × Int)) (v1 : Int) (v2 : List (Int × Int × Int)) (v3 : Int) (v4 : Int) : Sub spec_GoodTests.mk (spec_GoodTests.t2 some spec_GoodTests.l2 v0 v1 v2 v3 v4) (spec_GoodTests.t2 (fun b => some (spec_GoodTests.mk b)) spec_GoodTests.q2 v0 v1 v2 v3 v4) := by
  unfold spec_GoodTests.t2
  repeat' first | exact Sub.ret | exact Sub.none | exact Sub.loop | apply Sub.cond | (apply Sub.bind; intro _)
theorem spec_GoodTests.eq2 (v0 : List (Int × Int × Int)) (v1 : Int) (v2 : List (Int × Int × Int)) (v3 : Int) (v4 : Int) {b : Bool} (h : spec_GoodTests.t2 some spec_GoodTests.l2 v0 v1 v2 v3 v4 = some b) : spec_GoodTests.l2 v0 v1 v2 v3 v4 = some b := tOf_intro spec_GoodTests.un (fun _ => by kernel_rfl) (loopAtL_step ((spec_GoodTests.k2 v0 v1 v2 v3 v4).trans (spec_GoodTests.s2 v0 v1 v2 v3 v4 b h)))
noncomputable def spec_l3Select.q3 (v0 : List (Int × Int × Int)) (v1 : List (List Int × Int)) (v2 : List (List Int × Int)) (v3 : Int) (v4 : Int) : Option R := loopAtL E (callT E tab) 78 Try.f78 2 [.r, .r, .l, .r, .b] (nn 1 (vc (.d .fro (.sl (.pair (.int .i64) (.pair (.int .i64) (.int .i64)))) v0) :: nn 3 (vc (.d .sha (.sl (.pair (.sl (.int .i64)) (.int .i64))) v1) :: nn 2 (vc (.d .fro (.sl (.pair (.sl (.int .i64)) (.int .i64))) v2) :: vc (iL v3) :: vc (iL v4) :: nn 13 ([])))))
noncomputable def spec_l3Select.l3 (v0 : List (Int × Int × Int)) (v1 : List (List Int × Int)) (v2 : List (List Int × Int)) (v3 : Int) (v4 : Int) : Option ((List (List Int × Int))) := tOf spec_l3Select.mk (spec_l3Select.q3 v0 v1 v2 v3 v4)
noncomputable def spec_l3Select.t {γ : Type} (ret : ((List (List Int × Int))) → Option γ) (lp3 : (List (Int × Int × Int)) → (List (List Int × Int)) → (List (List Int × Int)) → Int → Int → Option γ) (v0 : List (List Int × Int)) (v1 : List (Int × Int × Int)) : Option γ :=
  lp3 (v1) ([]) (v0) ((↑v0.length : Int)) ((0 : Int))
noncomputable def spec_l3Select.t3 {γ : Type} (ret : ((List (List Int × Int))) → Option γ) (lp3 : (List (Int × Int × Int)) → (List (List Int × Int)) → (List (List Int × Int)) → Int → Int → Option γ) (v0 : List (Int × Int × Int)) (v1 : List (List Int × Int)) (v2 : List (List Int × Int)) (v3 : Int) (v4 : Int) : Option γ :=
  bif Decidable.decide (v4 < v3) then
    bif Decidable.decide ((0 : Int) ≤ v4) then
      bif Decidable.decide (v4.toNat < v2.length) then
        (spec_l3True (v0) ((v2.getD v4.toNat ([], (0 : Int))).fst)).bind fun (r0 : Bool) =>
        bif r0 then
          bif Decidable.decide   (v1.length + [((v2.getD v4.toNat ([], (0 : Int))).fst, (v2.getD v4.toNat ([], (0 : Int))).snd)].length ≤     (4294967296 : Nat)) then
            lp3 (v0) (v1 ++ [((v2.getD v4.toNat ([], (0 : Int))).fst, (v2.getD v4.toNat ([], (0 : Int))).snd)]) (v2) (v3) (Go.IntKind.i64.wrap (v4 + (1 : Int)))
          else
            none
        else
          lp3 (v0) (v1) (v2) (v3) (Go.IntKind.i64.wrap (v4 + (1 : Int)))
      else
        none
    else
      none
  else
    ret (v1)
theorem spec_l3Select.k (v0 : List (List Int × Int)) (v1 : List (Int × Int × Int)) : topL E (callT E tab) 78 Try.f78 (spec_l3Select.c v0 v1) = spec_l3Select.t (fun b => some (spec_l3Select.mk b)) spec_l3Select.q3 v0 v1 := by kernel_rfl
theorem spec_l3Select.k3 (v0 : List (Int × Int × Int)) (v1 : List (List Int × Int)) (v2 : List (List Int × Int)) (v3 : Int) (v4 : Int) : roundL E (callT E tab) 78 Try.f78 2 [.r, .r, .l, .r, .b] (nn 1 (vc (.d .fro (.sl (.pair (.int .i64) (.pair (.int .i64) (.int .i64)))) v0) :: nn 3 (vc (.d .sha (.sl (.pair (.sl (.int .i64)) (.int .i64))) v1) :: nn 2 (vc (.d .fro (.sl (.pair (.sl (.int .i64)) (.int .i64))) v2) :: vc (iL v3) :: vc (iL v4) :: nn 13 ([]))))) = spec_l3Select.t3 (fun b => some (spec_l3Select.mk b)) spec_l3Select.q3 v0 v1 v2 v3 v4 := by kernel_rfl
theorem spec_l3Select.s (v0 : List (List Int × Int)) (v1 : List (Int × Int × Int)) : Sub spec_l3Select.mk (spec_l3Select.t some spec_l3Select.l3 v0 v1) (spec_l3Select.t (fun b => some (spec_l3Select.mk b)) spec_l3Select.q3 v0 v1) := by
  unfold spec_l3Select.t
  repeat' first | exact Sub.ret | exact Sub.none | exact Sub.loop | apply Sub.cond | (apply Sub.bind; intro _)
theorem spec_l3Select.eq (v0 : List (List Int × Int)) (v1 : List (Int × Int × Int)) {b : (List (List Int × Int))} (h : spec_l3Select.t some spec_l3Select.l3 v0 v1 = some b) : spec_l3Select v0 v1 = some b := tOf_intro spec_l3Select.un (fun _ => by kernel_rfl) (vlim_fn (callT_le E tab) rfl rfl rfl ((spec_l3Select.k v0 v1).trans (spec_l3Select.s v0 v1 b h)))
theorem spec_l3Select.s3 (v0 : List (Int × Int × Int)) (v1 : List (List Int × Int)) (v2 : List (List Int × Int)) (v3 : Int) (v4 : Int) : Sub spec_l3Select.mk (spec_l3Select.t3 some spec_l3Select.l3 v0 v1 v2 v3 v4) (spec_l3Select.t3 (fun b => some (spec_l3Select.mk b)) spec_l3Select.q3 v0 v1 v2 v3 v4) := by
  unfold spec_l3Select.t3
  repeat' first | exact Sub.ret | exact Sub.none | exact Sub.loop | apply Sub.cond | (apply Sub.bind; intro _)
theorem spec_l3Select.eq3 (v0 : List (Int × Int × Int)) (v1 : List (List Int × Int)) (v2 : List (List Int × Int)) (v3 : Int) (v4 : Int) {b : (List (List Int × Int))} (h : spec_l3Select.t3 some spec_l3Select.l3 v0 v1 v2 v3 v4 = some b) : spec_l3Select.l3 v0 v1 v2 v3 v4 = some b := tOf_intro spec_l3Select.un (fun _ => by kernel_rfl) (loopAtL_step ((spec_l3Select.k3 v0 v1 v2 v3 v4).trans (spec_l3Select.s3 v0 v1 v2 v3 v4 b h)))
noncomputable def spec_l3True.q2 (v0 : List Int) (v1 : List (Int × Int × Int)) (v2 : Int) (v3 : Int) : Option R := loopAtL E (callT E tab) 115 Try.f115 2 [.r, .l, .r, .b] (nn 3 (⟨(.box false), [.d .fro (.sl (.int .i64)) v0], false, false, false, 0, 0⟩ :: nn 5 (vc (.d .fro (.sl (.pair (.int .i64) (.pair (.int .i64) (.int .i64)))) v1) :: vc (iL v2) :: vc (iL v3) :: nn 40 ([]))))
noncomputable def spec_l3True.l2 (v0 : List Int) (v1 : List (Int × Int × Int)) (v2 : Int) (v3 : Int) : Option (Bool) := tOf spec_l3True.mk (spec_l3True.q2 v0 v1 v2 v3)
noncomputable def spec_l3True.t {γ : Type} (ret : (Bool) → Option γ) (lp2 : (List Int) → (List (Int × Int × Int)) → Int → Int → Option γ) (v0 : List (Int × Int × Int)) (v1 : List Int) : Option γ :=
  lp2 (v1) (v0) ((↑v0.length : Int)) ((0 : Int))
noncomputable def spec_l3True.t2 {γ : Type} (ret : (Bool) → Option γ) (lp2 : (List Int) → (List (Int × Int × Int)) → Int → Int → Option γ) (v0 : List Int) (v1 : List (Int × Int × Int)) (v2 : Int) (v3 : Int) : Option γ :=
  bif Decidable.decide (v3 < v2) then
    bif Decidable.decide ((0 : Int) ≤ v3) then
      bif Decidable.decide (v3.toNat < v1.length) then
        bif Decidable.decide ((0 : Int) ≤ (v1.getD v3.toNat ((0 : Int), (0 : Int), (0 : Int))).snd.fst) then
          bif Decidable.decide ((v1.getD v3.toNat ((0 : Int), (0 : Int), (0 : Int))).snd.fst.toNat < v0.length) then
            bif (v1.getD v3.toNat ((0 : Int), (0 : Int), (0 : Int))).fst == (1 : Int) then
              bif !v0.getD (v1.getD v3.toNat ((0 : Int), (0 : Int), (0 : Int))).snd.fst.toNat (0 : Int) ==     (v1.getD v3.toNat ((0 : Int), (0 : Int), (0 : Int))).snd.snd then
                ret (Bool.false)
              else
                lp2 (v0) (v1) (v2) (Go.IntKind.i64.wrap (v3 + (1 : Int)))
            else
              bif (v1.getD v3.toNat ((0 : Int), (0 : Int), (0 : Int))).fst == (2 : Int) then
                bif !Decidable.decide     (v0.getD (v1.getD v3.toNat ((0 : Int), (0 : Int), (0 : Int))).snd.fst.toNat (0 : Int) <       (v1.getD v3.toNat ((0 : Int), (0 : Int), (0 : Int))).snd.snd) then
                  ret (Bool.false)
                else
                  lp2 (v0) (v1) (v2) (Go.IntKind.i64.wrap (v3 + (1 : Int)))
              else
                bif (v1.getD v3.toNat ((0 : Int), (0 : Int), (0 : Int))).fst == (3 : Int) then
                  bif !Decidable.decide     (v0.getD (v1.getD v3.toNat ((0 : Int), (0 : Int), (0 : Int))).snd.fst.toNat (0 : Int) >       (v1.getD v3.toNat ((0 : Int), (0 : Int), (0 : Int))).snd.snd) then
                    ret (Bool.false)
                  else
                    lp2 (v0) (v1) (v2) (Go.IntKind.i64.wrap (v3 + (1 : Int)))
                else
                  bif Decidable.decide ((0 : Int) ≤ (v1.getD v3.toNat ((0 : Int), (0 : Int), (0 : Int))).snd.snd) then
                    bif Decidable.decide ((v1.getD v3.toNat ((0 : Int), (0 : Int), (0 : Int))).snd.snd.toNat < v0.length) then
                      bif !v0.getD (v1.getD v3.toNat ((0 : Int), (0 : Int), (0 : Int))).snd.fst.toNat (0 : Int) ==     v0.getD (v1.getD v3.toNat ((0 : Int), (0 : Int), (0 : Int))).snd.snd.toNat (0 : Int) then
                        ret (Bool.false)
                      else
                        lp2 (v0) (v1) (v2) (Go.IntKind.i64.wrap (v3 + (1 : Int)))
                    else
                      none
                  else
                    none
          else
            none
        else
          none
      else
        none
    else
      none
  else
    ret (Bool.true)
theorem spec_l3True.k (v0 : List (Int × Int × Int)) (v1 : List Int) : topL E (callT E tab) 115 Try.f115 (spec_l3True.c v0 v1) = spec_l3True.t (fun b => some (spec_l3True.mk b)) spec_l3True.q2 v0 v1 := by kernel_rfl
theorem spec_l3True.k2 (v0 : List Int) (v1 : List (Int × Int × Int)) (v2 : Int) (v3 : Int) : roundL E (callT E tab) 115 Try.f115 2 [.r, .l, .r, .b] (nn 3 (⟨(.box false), [.d .fro (.sl (.int .i64)) v0], false, false, false, 0, 0⟩ :: nn 5 (vc (.d .fro (.sl (.pair (.int .i64) (.pair (.int .i64) (.int .i64)))) v1) :: vc (iL v2) :: vc (iL v3) :: nn 40 ([])))) = spec_l3True.t2 (fun b => some (spec_l3True.mk b)) spec_l3True.q2 v0 v1 v2 v3 := by kernel_rfl
theorem spec_l3True.s (v0 : List (Int × Int × Int)) (v1 : List Int) : Sub spec_l3True.mk (spec_l3True.t some spec_l3True.l2 v0 v1) (spec_l3True.t (fun b => some (spec_l3True.mk b)) spec_l3True.q2 v0 v1) := by
  unfold spec_l3True.t
  repeat' first | exact Sub.ret | exact Sub.none | exact Sub.loop | apply Sub.cond | (apply Sub.bind; intro _)
theorem spec_l3True.eq (v0 : List (Int × Int × Int)) (v1 : List Int) {b : Bool} (h : spec_l3True.t some spec_l3True.l2 v0 v1 = some b) : spec_l3True v0 v1 = some b := tOf_intro spec_l3True.un (fun _ => by kernel_rfl) (vlim_fn (callT_le E tab) rfl rfl rfl ((spec_l3True.k v0 v1).trans (spec_l3True.s v0 v1 b h)))
theorem spec_l3True.s2 (v0 : List Int) (v1 : List (Int × Int × Int)) (v2 : Int) (v3 : Int) : Sub spec_l3True.mk (spec_l3True.t2 some spec_l3True.l2 v0 v1 v2 v3) (spec_l3True.t2 (fun b => some (spec_l3True.mk b)) spec_l3True.q2 v0 v1 v2 v3) := by
  unfold spec_l3True.t2
  repeat' first | exact Sub.ret | exact Sub.none | exact Sub.loop | apply Sub.cond | (apply Sub.bind; intro _)
theorem spec_l3True.eq2 (v0 : List Int) (v1 : List (Int × Int × Int)) (v2 : Int) (v3 : Int) {b : Bool} (h : spec_l3True.t2 some spec_l3True.l2 v0 v1 v2 v3 = some b) : spec_l3True.l2 v0 v1 v2 v3 = some b := tOf_intro spec_l3True.un (fun _ => by kernel_rfl) (loopAtL_step ((spec_l3True.k2 v0 v1 v2 v3).trans (spec_l3True.s2 v0 v1 v2 v3 b h)))
noncomputable def impl_SelectRows.t {γ : Type} (ret : (Int × (List (List Int × Int)) × Bool) → Option γ) (v0 : Int) (v1 : List (List Int × Int)) (v2 : List (Int × Int × Int)) : Option γ :=
  (impl_GoodTable (v0) (v1)).bind fun (r0 : Bool) =>
  bif !r0 then
    ret ((0 : Int), [], Bool.false)
  else
    (impl_GoodTests (v2) (v0)).bind fun (r1 : Bool) =>
    bif !r1 then
      ret ((0 : Int), [], Bool.false)
    else
      (impl_Table_selected (v0) (v1) (v2)).bind fun (r2 : Int × (List (List Int × Int))) =>
      ret (r2.fst, r2.snd, Bool.true)
theorem impl_SelectRows.k (v0 : Int) (v1 : List (List Int × Int)) (v2 : List (Int × Int × Int)) : topL E (callT E tab) 33 Try.f33 (impl_SelectRows.c v0 v1 v2) = impl_SelectRows.t (fun b => some (impl_SelectRows.mk b)) v0 v1 v2 := by kernel_rfl
theorem impl_SelectRows.s (v0 : Int) (v1 : List (List Int × Int)) (v2 : List (Int × Int × Int)) : Sub impl_SelectRows.mk (impl_SelectRows.t some v0 v1 v2) (impl_SelectRows.t (fun b => some (impl_SelectRows.mk b)) v0 v1 v2) := by
  unfold impl_SelectRows.t
  repeat' first | exact Sub.ret | exact Sub.none | exact Sub.loop | apply Sub.cond | (apply Sub.bind; intro _)
theorem impl_SelectRows.eq (v0 : Int) (v1 : List (List Int × Int)) (v2 : List (Int × Int × Int)) {b : Int × (List (List Int × Int)) × Bool} (h : impl_SelectRows.t some v0 v1 v2 = some b) : impl_SelectRows v0 v1 v2 = some b := tOf_intro impl_SelectRows.un (fun _ => by kernel_rfl) (vlim_fn (callT_le E tab) rfl rfl rfl ((impl_SelectRows.k v0 v1 v2).trans (impl_SelectRows.s v0 v1 v2 b h)))
noncomputable def impl_GoodTests.t {γ : Type} (ret : (Bool) → Option γ) (v0 : List (Int × Int × Int)) (v1 : Int) : Option γ :=
  bif Decidable.decide ((↑v0.length : Int) ≤ (8 : Int)) then
    (impl_areAll_impl_Test_impl_GoodTests_1 (v0) (v1)).bind fun (r0 : Bool) =>
    ret (r0)
  else
    ret (Bool.false)
theorem impl_GoodTests.k (v0 : List (Int × Int × Int)) (v1 : Int) : topL E (callT E tab) 80 Try.f80 (impl_GoodTests.c v0 v1) = impl_GoodTests.t (fun b => some (impl_GoodTests.mk b)) v0 v1 := by kernel_rfl
theorem impl_GoodTests.s (v0 : List (Int × Int × Int)) (v1 : Int) : Sub impl_GoodTests.mk (impl_GoodTests.t some v0 v1) (impl_GoodTests.t (fun b => some (impl_GoodTests.mk b)) v0 v1) := by
  unfold impl_GoodTests.t
  repeat' first | exact Sub.ret | exact Sub.none | exact Sub.loop | apply Sub.cond | (apply Sub.bind; intro _)
theorem impl_GoodTests.eq (v0 : List (Int × Int × Int)) (v1 : Int) {b : Bool} (h : impl_GoodTests.t some v0 v1 = some b) : impl_GoodTests v0 v1 = some b := tOf_intro impl_GoodTests.un (fun _ => by kernel_rfl) (vlim_fn (callT_le E tab) rfl rfl rfl ((impl_GoodTests.k v0 v1).trans (impl_GoodTests.s v0 v1 b h)))
noncomputable def impl_areAll_impl_Test_impl_GoodTests_1.t {γ : Type} (ret : (Bool) → Option γ) (v0 : List (Int × Int × Int)) (v1 : Int) : Option γ :=
  (slices_ContainsFunc_impl_Test_impl_Test_impl_areAll_impl_Test_1_impl_GoodTests_1 (v0) (v1)).bind fun (r0 : Bool) =>
  ret (!r0)
theorem impl_areAll_impl_Test_impl_GoodTests_1.k (v0 : List (Int × Int × Int)) (v1 : Int) : topL E (callT E tab) 116 Try.f116 (impl_areAll_impl_Test_impl_GoodTests_1.c v0 v1) = impl_areAll_impl_Test_impl_GoodTests_1.t (fun b => some (impl_areAll_impl_Test_impl_GoodTests_1.mk b)) v0 v1 := by kernel_rfl
theorem impl_areAll_impl_Test_impl_GoodTests_1.s (v0 : List (Int × Int × Int)) (v1 : Int) : Sub impl_areAll_impl_Test_impl_GoodTests_1.mk (impl_areAll_impl_Test_impl_GoodTests_1.t some v0 v1) (impl_areAll_impl_Test_impl_GoodTests_1.t (fun b => some (impl_areAll_impl_Test_impl_GoodTests_1.mk b)) v0 v1) := by
  unfold impl_areAll_impl_Test_impl_GoodTests_1.t
  repeat' first | exact Sub.ret | exact Sub.none | exact Sub.loop | apply Sub.cond | (apply Sub.bind; intro _)
theorem impl_areAll_impl_Test_impl_GoodTests_1.eq (v0 : List (Int × Int × Int)) (v1 : Int) {b : Bool} (h : impl_areAll_impl_Test_impl_GoodTests_1.t some v0 v1 = some b) : impl_areAll_impl_Test_impl_GoodTests_1 v0 v1 = some b := tOf_intro impl_areAll_impl_Test_impl_GoodTests_1.un (fun _ => by kernel_rfl) (vlim_fn (callT_le E tab) rfl rfl rfl ((impl_areAll_impl_Test_impl_GoodTests_1.k v0 v1).trans (impl_areAll_impl_Test_impl_GoodTests_1.s v0 v1 b h)))
noncomputable def slices_ContainsFunc_impl_Test_impl_Test_impl_areAll_impl_Test_1_impl_GoodTests_1.t {γ : Type} (ret : (Bool) → Option γ) (v0 : List (Int × Int × Int)) (v1 : Int) : Option γ :=
  (slices_IndexFunc_impl_Test_impl_Test_impl_areAll_impl_Test_1_impl_GoodTests_1 (v0) (v1)).bind fun (r0 : Int) =>
  ret (Decidable.decide (r0 ≥ (0 : Int)))
theorem slices_ContainsFunc_impl_Test_impl_Test_impl_areAll_impl_Test_1_impl_GoodTests_1.k (v0 : List (Int × Int × Int)) (v1 : Int) : topL E (callT E tab) 143 Try.f143 (slices_ContainsFunc_impl_Test_impl_Test_impl_areAll_impl_Test_1_impl_GoodTests_1.c v0 v1) = slices_ContainsFunc_impl_Test_impl_Test_impl_areAll_impl_Test_1_impl_GoodTests_1.t (fun b => some (slices_ContainsFunc_impl_Test_impl_Test_impl_areAll_impl_Test_1_impl_GoodTests_1.mk b)) v0 v1 := by kernel_rfl
theorem slices_ContainsFunc_impl_Test_impl_Test_impl_areAll_impl_Test_1_impl_GoodTests_1.s (v0 : List (Int × Int × Int)) (v1 : Int) : Sub slices_ContainsFunc_impl_Test_impl_Test_impl_areAll_impl_Test_1_impl_GoodTests_1.mk (slices_ContainsFunc_impl_Test_impl_Test_impl_areAll_impl_Test_1_impl_GoodTests_1.t some v0 v1) (slices_ContainsFunc_impl_Test_impl_Test_impl_areAll_impl_Test_1_impl_GoodTests_1.t (fun b => some (slices_ContainsFunc_impl_Test_impl_Test_impl_areAll_impl_Test_1_impl_GoodTests_1.mk b)) v0 v1) := by
  unfold slices_ContainsFunc_impl_Test_impl_Test_impl_areAll_impl_Test_1_impl_GoodTests_1.t
  repeat' first | exact Sub.ret | exact Sub.none | exact Sub.loop | apply Sub.cond | (apply Sub.bind; intro _)
theorem slices_ContainsFunc_impl_Test_impl_Test_impl_areAll_impl_Test_1_impl_GoodTests_1.eq (v0 : List (Int × Int × Int)) (v1 : Int) {b : Bool} (h : slices_ContainsFunc_impl_Test_impl_Test_impl_areAll_impl_Test_1_impl_GoodTests_1.t some v0 v1 = some b) : slices_ContainsFunc_impl_Test_impl_Test_impl_areAll_impl_Test_1_impl_GoodTests_1 v0 v1 = some b := tOf_intro slices_ContainsFunc_impl_Test_impl_Test_impl_areAll_impl_Test_1_impl_GoodTests_1.un (fun _ => by kernel_rfl) (vlim_fn (callT_le E tab) rfl rfl rfl ((slices_ContainsFunc_impl_Test_impl_Test_impl_areAll_impl_Test_1_impl_GoodTests_1.k v0 v1).trans (slices_ContainsFunc_impl_Test_impl_Test_impl_areAll_impl_Test_1_impl_GoodTests_1.s v0 v1 b h)))
noncomputable def slices_IndexFunc_impl_Test_impl_Test_impl_areAll_impl_Test_1_impl_GoodTests_1.q2 (v0 : List (Int × Int × Int)) (v1 : Int) (v2 : Int) (v3 : Int) : Option R := loopAtL E (callT E tab) 156 Try.f156 2 [.r, .l, .r, .b] (vc (.d .fro (.sl (.pair (.int .i64) (.pair (.int .i64) (.int .i64)))) v0) :: vc (.fn 144 [.rp [.fn 117 [.rp [iL v1] 0]] 0]) :: nn 5 (vc (iL v2) :: vc (iL v3) :: nn 10 ([])))
noncomputable def slices_IndexFunc_impl_Test_impl_Test_impl_areAll_impl_Test_1_impl_GoodTests_1.l2 (v0 : List (Int × Int × Int)) (v1 : Int) (v2 : Int) (v3 : Int) : Option (Int) := tOf slices_IndexFunc_impl_Test_impl_Test_impl_areAll_impl_Test_1_impl_GoodTests_1.mk (slices_IndexFunc_impl_Test_impl_Test_impl_areAll_impl_Test_1_impl_GoodTests_1.q2 v0 v1 v2 v3)
noncomputable def slices_IndexFunc_impl_Test_impl_Test_impl_areAll_impl_Test_1_impl_GoodTests_1.t {γ : Type} (ret : (Int) → Option γ) (lp2 : (List (Int × Int × Int)) → Int → Int → Int → Option γ) (v0 : List (Int × Int × Int)) (v1 : Int) : Option γ :=
  lp2 (v0) (v1) ((↑v0.length : Int)) ((0 : Int))
noncomputable def slices_IndexFunc_impl_Test_impl_Test_impl_areAll_impl_Test_1_impl_GoodTests_1.t2 {γ : Type} (ret : (Int) → Option γ) (lp2 : (List (Int × Int × Int)) → Int → Int → Int → Option γ) (v0 : List (Int × Int × Int)) (v1 : Int) (v2 : Int) (v3 : Int) : Option γ :=
  bif Decidable.decide (v3 < v2) then
    bif Decidable.decide ((0 : Int) ≤ v3) then
      bif Decidable.decide (v3.toNat < v0.length) then
        (impl_areAll_impl_Test_1_impl_GoodTests_1 ((v0.getD v3.toNat ((0 : Int), (0 : Int), (0 : Int))).fst) ((v0.getD v3.toNat ((0 : Int), (0 : Int), (0 : Int))).snd.fst) ((v0.getD v3.toNat ((0 : Int), (0 : Int), (0 : Int))).snd.snd) (v1)).bind fun (r0 : Bool) =>
        bif r0 then
          ret (v3)
        else
          lp2 (v0) (v1) (v2) (Go.IntKind.i64.wrap (v3 + (1 : Int)))
      else
        none
    else
      none
  else
    ret ((-1 : Int))
theorem slices_IndexFunc_impl_Test_impl_Test_impl_areAll_impl_Test_1_impl_GoodTests_1.k (v0 : List (Int × Int × Int)) (v1 : Int) : topL E (callT E tab) 156 Try.f156 (slices_IndexFunc_impl_Test_impl_Test_impl_areAll_impl_Test_1_impl_GoodTests_1.c v0 v1) = slices_IndexFunc_impl_Test_impl_Test_impl_areAll_impl_Test_1_impl_GoodTests_1.t (fun b => some (slices_IndexFunc_impl_Test_impl_Test_impl_areAll_impl_Test_1_impl_GoodTests_1.mk b)) slices_IndexFunc_impl_Test_impl_Test_impl_areAll_impl_Test_1_impl_GoodTests_1.q2 v0 v1 := by kernel_rfl
theorem slices_IndexFunc_impl_Test_impl_Test_impl_areAll_impl_Test_1_impl_GoodTests_1.k2 (v0 : List (Int × Int × Int)) (v1 : Int) (v2 : Int) (v3 : Int) : roundL E (callT E tab) 156 Try.f156 2 [.r, .l, .r, .b] (vc (.d .fro (.sl (.pair (.int .i64) (.pair (.int .i64) (.int .i64)))) v0) :: vc (.fn 144 [.rp [.fn 117 [.rp [iL v1] 0]] 0]) :: nn 5 (vc (iL v2) :: vc (iL v3) :: nn 10 ([]))) = slices_IndexFunc_impl_Test_impl_Test_impl_areAll_impl_Test_1_impl_GoodTests_1.t2 (fun b => some (slices_IndexFunc_impl_Test_impl_Test_impl_areAll_impl_Test_1_impl_GoodTests_1.mk b)) slices_IndexFunc_impl_Test_impl_Test_impl_areAll_impl_Test_1_impl_GoodTests_1.q2 v0 v1 v2 v3 := by kernel_rfl
theorem slices_IndexFunc_impl_Test_impl_Test_impl_areAll_impl_Test_1_impl_GoodTests_1.s (v0 : List (Int × Int × Int)) (v1 : Int) : Sub slices_IndexFunc_impl_Test_impl_Test_impl_areAll_impl_Test_1_impl_GoodTests_1.mk (slices_IndexFunc_impl_Test_impl_Test_impl_areAll_impl_Test_1_impl_GoodTests_1.t some slices_IndexFunc_impl_Test_impl_Test_impl_areAll_impl_Test_1_impl_GoodTests_1.l2 v0 v1) (slices_IndexFunc_impl_Test_impl_Test_impl_areAll_impl_Test_1_impl_GoodTests_1.t (fun b => some (slices_IndexFunc_impl_Test_impl_Test_impl_areAll_impl_Test_1_impl_GoodTests_1.mk b)) slices_IndexFunc_impl_Test_impl_Test_impl_areAll_impl_Test_1_impl_GoodTests_1.q2 v0 v1) := by
  unfold slices_IndexFunc_impl_Test_impl_Test_impl_areAll_impl_Test_1_impl_GoodTests_1.t
  repeat' first | exact Sub.ret | exact Sub.none | exact Sub.loop | apply Sub.cond | (apply Sub.bind; intro _)
theorem slices_IndexFunc_impl_Test_impl_Test_impl_areAll_impl_Test_1_impl_GoodTests_1.eq (v0 : List (Int × Int × Int)) (v1 : Int) {b : Int} (h : slices_IndexFunc_impl_Test_impl_Test_impl_areAll_impl_Test_1_impl_GoodTests_1.t some slices_IndexFunc_impl_Test_impl_Test_impl_areAll_impl_Test_1_impl_GoodTests_1.l2 v0 v1 = some b) : slices_IndexFunc_impl_Test_impl_Test_impl_areAll_impl_Test_1_impl_GoodTests_1 v0 v1 = some b := tOf_intro slices_IndexFunc_impl_Test_impl_Test_impl_areAll_impl_Test_1_impl_GoodTests_1.un (fun _ => by kernel_rfl) (vlim_fn (callT_le E tab) rfl rfl rfl ((slices_IndexFunc_impl_Test_impl_Test_impl_areAll_impl_Test_1_impl_GoodTests_1.k v0 v1).trans (slices_IndexFunc_impl_Test_impl_Test_impl_areAll_impl_Test_1_impl_GoodTests_1.s v0 v1 b h)))
theorem slices_IndexFunc_impl_Test_impl_Test_impl_areAll_impl_Test_1_impl_GoodTests_1.s2 (v0 : List (Int × Int × Int)) (v1 : Int) (v2 : Int) (v3 : Int) : Sub slices_IndexFunc_impl_Test_impl_Test_impl_areAll_impl_Test_1_impl_GoodTests_1.mk (slices_IndexFunc_impl_Test_impl_Test_impl_areAll_impl_Test_1_impl_GoodTests_1.t2 some slices_IndexFunc_impl_Test_impl_Test_impl_areAll_impl_Test_1_impl_GoodTests_1.l2 v0 v1 v2 v3) (slices_IndexFunc_impl_Test_impl_Test_impl_areAll_impl_Test_1_impl_GoodTests_1.t2 (fun b => some (slices_IndexFunc_impl_Test_impl_Test_impl_areAll_impl_Test_1_impl_GoodTests_1.mk b)) slices_IndexFunc_impl_Test_impl_Test_impl_areAll_impl_Test_1_impl_GoodTests_1.q2 v0 v1 v2 v3) := by
  unfold slices_IndexFunc_impl_Test_impl_Test_impl_areAll_impl_Test_1_impl_GoodTests_1.t2
  repeat' first | exact Sub.ret | exact Sub.none | exact Sub.loop | apply Sub.cond | (apply Sub.bind; intro _)
theorem slices_IndexFunc_impl_Test_impl_Test_impl_areAll_impl_Test_1_impl_GoodTests_1.eq2 (v0 : List (Int × Int × Int)) (v1 : Int) (v2 : Int) (v3 : Int) {b : Int} (h : slices_IndexFunc_impl_Test_impl_Test_impl_areAll_impl_Test_1_impl_GoodTests_1.t2 some slices_IndexFunc_impl_Test_impl_Test_impl_areAll_impl_Test_1_impl_GoodTests_1.l2 v0 v1 v2 v3 = some b) : slices_IndexFunc_impl_Test_impl_Test_impl_areAll_impl_Test_1_impl_GoodTests_1.l2 v0 v1 v2 v3 = some b := tOf_intro slices_IndexFunc_impl_Test_impl_Test_impl_areAll_impl_Test_1_impl_GoodTests_1.un (fun _ => by kernel_rfl) (loopAtL_step ((slices_IndexFunc_impl_Test_impl_Test_impl_areAll_impl_Test_1_impl_GoodTests_1.k2 v0 v1 v2 v3).trans (slices_IndexFunc_impl_Test_impl_Test_impl_areAll_impl_Test_1_impl_GoodTests_1.s2 v0 v1 v2 v3 b h)))
noncomputable def impl_areAll_impl_Test_1_impl_GoodTests_1.t {γ : Type} (ret : (Bool) → Option γ) (v0 : Int) (v1 : Int) (v2 : Int) (v3 : Int) : Option γ :=
  (impl_GoodTests_1 (v0) (v1) (v2) (v3)).bind fun (r0 : Bool) =>
  ret (!r0)
theorem impl_areAll_impl_Test_1_impl_GoodTests_1.k (v0 : Int) (v1 : Int) (v2 : Int) (v3 : Int) : topL E (callT E tab) 144 Try.f144 (impl_areAll_impl_Test_1_impl_GoodTests_1.c v0 v1 v2 v3) = impl_areAll_impl_Test_1_impl_GoodTests_1.t (fun b => some (impl_areAll_impl_Test_1_impl_GoodTests_1.mk b)) v0 v1 v2 v3 := by kernel_rfl
theorem impl_areAll_impl_Test_1_impl_GoodTests_1.s (v0 : Int) (v1 : Int) (v2 : Int) (v3 : Int) : Sub impl_areAll_impl_Test_1_impl_GoodTests_1.mk (impl_areAll_impl_Test_1_impl_GoodTests_1.t some v0 v1 v2 v3) (impl_areAll_impl_Test_1_impl_GoodTests_1.t (fun b => some (impl_areAll_impl_Test_1_impl_GoodTests_1.mk b)) v0 v1 v2 v3) := by
  unfold impl_areAll_impl_Test_1_impl_GoodTests_1.t
  repeat' first | exact Sub.ret | exact Sub.none | exact Sub.loop | apply Sub.cond | (apply Sub.bind; intro _)
theorem impl_areAll_impl_Test_1_impl_GoodTests_1.eq (v0 : Int) (v1 : Int) (v2 : Int) (v3 : Int) {b : Bool} (h : impl_areAll_impl_Test_1_impl_GoodTests_1.t some v0 v1 v2 v3 = some b) : impl_areAll_impl_Test_1_impl_GoodTests_1 v0 v1 v2 v3 = some b := tOf_intro impl_areAll_impl_Test_1_impl_GoodTests_1.un (fun _ => by kernel_rfl) (vlim_fn (callT_le E tab) rfl rfl rfl ((impl_areAll_impl_Test_1_impl_GoodTests_1.k v0 v1 v2 v3).trans (impl_areAll_impl_Test_1_impl_GoodTests_1.s v0 v1 v2 v3 b h)))
noncomputable def impl_GoodTests_1.t {γ : Type} (ret : (Bool) → Option γ) (v0 : Int) (v1 : Int) (v2 : Int) (v3 : Int) : Option γ :=
  (impl_isPlace (v1) (v3)).bind fun (r0 : Bool) =>
  bif !r0 then
    ret (Bool.false)
  else
    bif v0 == (4 : Int) then
      (impl_isPlace (v2) (v3)).bind fun (r1 : Bool) =>
      ret (r1)
    else
      (impl_within (v0) ((1 : Int)) ((3 : Int))).bind fun (r2 : Bool) =>
      bif r2 then
        (impl_isCell (v2)).bind fun (r3 : Bool) =>
        ret (r3)
      else
        ret (Bool.false)
theorem impl_GoodTests_1.k (v0 : Int) (v1 : Int) (v2 : Int) (v3 : Int) : topL E (callT E tab) 117 Try.f117 (impl_GoodTests_1.c v0 v1 v2 v3) = impl_GoodTests_1.t (fun b => some (impl_GoodTests_1.mk b)) v0 v1 v2 v3 := by kernel_rfl
theorem impl_GoodTests_1.s (v0 : Int) (v1 : Int) (v2 : Int) (v3 : Int) : Sub impl_GoodTests_1.mk (impl_GoodTests_1.t some v0 v1 v2 v3) (impl_GoodTests_1.t (fun b => some (impl_GoodTests_1.mk b)) v0 v1 v2 v3) := by
  unfold impl_GoodTests_1.t
  repeat' first | exact Sub.ret | exact Sub.none | exact Sub.loop | apply Sub.cond | (apply Sub.bind; intro _)
theorem impl_GoodTests_1.eq (v0 : Int) (v1 : Int) (v2 : Int) (v3 : Int) {b : Bool} (h : impl_GoodTests_1.t some v0 v1 v2 v3 = some b) : impl_GoodTests_1 v0 v1 v2 v3 = some b := tOf_intro impl_GoodTests_1.un (fun _ => by kernel_rfl) (vlim_fn (callT_le E tab) rfl rfl rfl ((impl_GoodTests_1.k v0 v1 v2 v3).trans (impl_GoodTests_1.s v0 v1 v2 v3 b h)))
end GoV

/- Equations of the program's functions (printed by wip/tools/emit.py). -/
namespace GoV
open Go Go.Proofs
set_option maxRecDepth 100000

noncomputable def impl_isPlace.t {γ : Type} (ret : (Bool) → Option γ) (v0 : Int) (v1 : Int) : Option γ :=
  bif Decidable.decide (v0 ≥ (0 : Int)) then
    ret (Decidable.decide (v0 < v1))
  else
    ret (Bool.false)
theorem impl_isPlace.k (v0 : Int) (v1 : Int) : topL E (callT E tab) 118 Try.f118 (impl_isPlace.c v0 v1) = impl_isPlace.t (fun b => some (impl_isPlace.mk b)) v0 v1 := by kernel_rfl
theorem impl_isPlace.s (v0 : Int) (v1 : Int) : Sub impl_isPlace.mk (impl_isPlace.t some v0 v1) (impl_isPlace.t (fun b => some (impl_isPlace.mk b)) v0 v1) := by
  unfold impl_isPlace.t
  repeat' first | exact Sub.ret | exact Sub.none | exact Sub.loop | apply Sub.cond | (apply Sub.bind; intro _)
theorem impl_isPlace.eq (v0 : Int) (v1 : Int) {b : Bool} (h : impl_isPlace.t some v0 v1 = some b) : impl_isPlace v0 v1 = some b := tOf_intro impl_isPlace.un (fun _ => by kernel_rfl) (vlim_fn (callT_le E tab) rfl rfl rfl ((impl_isPlace.k v0 v1).trans (impl_isPlace.s v0 v1 b h)))
noncomputable def impl_Table_selected.t {γ : Type} (ret : (Int × (List (List Int × Int))) → Option γ) (v0 : Int) (v1 : List (List Int × Int)) (v2 : List (Int × Int × Int)) : Option γ :=
  (impl_Table_kept_impl_Table_selected_1 (v0) (v1) (v2)).bind fun (r0 : Int × (List (List Int × Int))) =>
  ret (r0.fst, r0.snd)
theorem impl_Table_selected.k (v0 : Int) (v1 : List (List Int × Int)) (v2 : List (Int × Int × Int)) : topL E (callT E tab) 81 Try.f81 (impl_Table_selected.c v0 v1 v2) = impl_Table_selected.t (fun b => some (impl_Table_selected.mk b)) v0 v1 v2 := by kernel_rfl
theorem impl_Table_selected.s (v0 : Int) (v1 : List (List Int × Int)) (v2 : List (Int × Int × Int)) : Sub impl_Table_selected.mk (impl_Table_selected.t some v0 v1 v2) (impl_Table_selected.t (fun b => some (impl_Table_selected.mk b)) v0 v1 v2) := by
  unfold impl_Table_selected.t
  repeat' first | exact Sub.ret | exact Sub.none | exact Sub.loop | apply Sub.cond | (apply Sub.bind; intro _)
theorem impl_Table_selected.eq (v0 : Int) (v1 : List (List Int × Int)) (v2 : List (Int × Int × Int)) {b : Int × (List (List Int × Int))} (h : impl_Table_selected.t some v0 v1 v2 = some b) : impl_Table_selected v0 v1 v2 = some b := tOf_intro impl_Table_selected.un (fun _ => by kernel_rfl) (vlim_fn (callT_le E tab) rfl rfl rfl ((impl_Table_selected.k v0 v1 v2).trans (impl_Table_selected.s v0 v1 v2 b h)))
noncomputable def impl_Table_kept_impl_Table_selected_1.q3 (v0 : List (Int × Int × Int)) (v1 : Int) (v2 : List (List Int × Int)) (v3 : Int) (v4 : List (List Int × Int)) (v5 : List (List Int × Int)) (v6 : Int) (v7 : Int) : Option R := loopAtL E (callT E tab) 72 Try.f72 2 [.r, .r, .l, .r, .b] (nn 1 (vc (.fn 120 [.rp [.d .fro (.sl (.pair (.int .i64) (.pair (.int .i64) (.int .i64)))) v0] 0]) :: nn 2 (⟨(.box false), [iL v1, .d .deep (.sl (.pair (.sl (.int .i64)) (.int .i64))) v2], false, false, false, 0, 0⟩ :: ⟨(.box false), [iL v3, .d .deep (.sl (.pair (.sl (.int .i64)) (.int .i64))) v4], false, false, false, 0, 0⟩ :: nn 7 (vc (.d .fro (.sl (.pair (.sl (.int .i64)) (.int .i64))) v5) :: vc (iL v6) :: vc (iL v7) :: nn 20 ([])))))
noncomputable def impl_Table_kept_impl_Table_selected_1.l3 (v0 : List (Int × Int × Int)) (v1 : Int) (v2 : List (List Int × Int)) (v3 : Int) (v4 : List (List Int × Int)) (v5 : List (List Int × Int)) (v6 : Int) (v7 : Int) : Option (Int × (List (List Int × Int))) := tOf impl_Table_kept_impl_Table_selected_1.mk (impl_Table_kept_impl_Table_selected_1.q3 v0 v1 v2 v3 v4 v5 v6 v7)
noncomputable def impl_Table_kept_impl_Table_selected_1.t {γ : Type} (ret : (Int × (List (List Int × Int))) → Option γ) (lp3 : (List (Int × Int × Int)) → Int → (List (List Int × Int)) → Int → (List (List Int × Int)) → (List (List Int × Int)) → Int → Int → Option γ) (v0 : Int) (v1 : List (List Int × Int)) (v2 : List (Int × Int × Int)) : Option γ :=
  lp3 (v2) ((0 : Int)) ([]) (v0) ([]) (v1) ((↑v1.length : Int)) ((0 : Int))
noncomputable def impl_Table_kept_impl_Table_selected_1.t3 {γ : Type} (ret : (Int × (List (List Int × Int))) → Option γ) (lp3 : (List (Int × Int × Int)) → Int → (List (List Int × Int)) → Int → (List (List Int × Int)) → (List (List Int × Int)) → Int → Int → Option γ) (v0 : List (Int × Int × Int)) (v1 : Int) (v2 : List (List Int × Int)) (v3 : Int) (v4 : List (List Int × Int)) (v5 : List (List Int × Int)) (v6 : Int) (v7 : Int) : Option γ :=
  bif Decidable.decide (v7 < v6) then
    bif Decidable.decide ((0 : Int) ≤ v7) then
      bif Decidable.decide (v7.toNat < v5.length) then
        (impl_Table_selected_1 ((v5.getD v7.toNat ([], (0 : Int))).fst) ((v5.getD v7.toNat ([], (0 : Int))).snd) (v0)).bind fun (r0 : Int) =>
        bif r0 != (0 : Int) then
          (impl_Row_own ((v5.getD v7.toNat ([], (0 : Int))).fst)).bind fun (r1 : (List Int)) =>
          bif Decidable.decide (v4.length + [(r1, r0)].length ≤ (4294967296 : Nat)) then
            lp3 (v0) (v1) (v2) (v3) (v4 ++ [(r1, r0)]) (v5) (v6) (Go.IntKind.i64.wrap (v7 + (1 : Int)))
          else
            none
        else
          lp3 (v0) (v1) (v2) (v3) (v4) (v5) (v6) (Go.IntKind.i64.wrap (v7 + (1 : Int)))
      else
        none
    else
      none
  else
    ret (v3, v4)
theorem impl_Table_kept_impl_Table_selected_1.k (v0 : Int) (v1 : List (List Int × Int)) (v2 : List (Int × Int × Int)) : topL E (callT E tab) 72 Try.f72 (impl_Table_kept_impl_Table_selected_1.c v0 v1 v2) = impl_Table_kept_impl_Table_selected_1.t (fun b => some (impl_Table_kept_impl_Table_selected_1.mk b)) impl_Table_kept_impl_Table_selected_1.q3 v0 v1 v2 := by kernel_rfl
theorem impl_Table_kept_impl_Table_selected_1.k3 (v0 : List (Int × Int × Int)) (v1 : Int) (v2 : List (List Int × Int)) (v3 : Int) (v4 : List (List Int × Int)) (v5 : List (List Int × Int)) (v6 : Int) (v7 : Int) : roundL E (callT E tab) 72 Try.f72 2 [.r, .r, .l, .r, .b] (nn 1 (vc (.fn 120 [.rp [.d .fro (.sl (.pair (.int .i64) (.pair (.int .i64) (.int .i64)))) v0] 0]) :: nn 2 (⟨(.box false), [iL v1, .d .deep (.sl (.pair (.sl (.int .i64)) (.int .i64))) v2], false, false, false, 0, 0⟩ :: ⟨(.box false), [iL v3, .d .deep (.sl (.pair (.sl (.int .i64)) (.int .i64))) v4], false, false, false, 0, 0⟩ :: nn 7 (vc (.d .fro (.sl (.pair (.sl (.int .i64)) (.int .i64))) v5) :: vc (iL v6) :: vc (iL v7) :: nn 20 ([]))))) = impl_Table_kept_impl_Table_selected_1.t3 (fun b => some (impl_Table_kept_impl_Table_selected_1.mk b)) impl_Table_kept_impl_Table_selected_1.q3 v0 v1 v2 v3 v4 v5 v6 v7 := by kernel_rfl
theorem impl_Table_kept_impl_Table_selected_1.s (v0 : Int) (v1 : List (List Int × Int)) (v2 : List (Int × Int × Int)) : Sub impl_Table_kept_impl_Table_selected_1.mk (impl_Table_kept_impl_Table_selected_1.t some impl_Table_kept_impl_Table_selected_1.l3 v0 v1 v2) (impl_Table_kept_impl_Table_selected_1.t (fun b => some (impl_Table_kept_impl_Table_selected_1.mk b)) impl_Table_kept_impl_Table_selected_1.q3 v0 v1 v2) := by
  unfold impl_Table_kept_impl_Table_selected_1.t
  repeat' first | exact Sub.ret | exact Sub.none | exact Sub.loop | apply Sub.cond | (apply Sub.bind; intro _)
theorem impl_Table_kept_impl_Table_selected_1.eq (v0 : Int) (v1 : List (List Int × Int)) (v2 : List (Int × Int × Int)) {b : Int × (List (List Int × Int))} (h : impl_Table_kept_impl_Table_selected_1.t some impl_Table_kept_impl_Table_selected_1.l3 v0 v1 v2 = some b) : impl_Table_kept_impl_Table_selected_1 v0 v1 v2 = some b := tOf_intro impl_Table_kept_impl_Table_selected_1.un (fun _ => by kernel_rfl) (vlim_fn (callT_le E tab) rfl rfl rfl ((impl_Table_kept_impl_Table_selected_1.k v0 v1 v2).trans (impl_Table_kept_impl_Table_selected_1.s v0 v1 v2 b h)))
theorem impl_Table_kept_impl_Table_selected_1.s3 (v0 : List (Int × Int × Int)) (v1 : Int) (v2 : List (List Int × Int)) (v3 : Int) (v4 : List (List Int × Int)) (v5 : List (List Int × Int)) (v6 : Int) (v7 : Int) : Sub impl_Table_kept_impl_Table_selected_1.mk (impl_Table_kept_impl_Table_selected_1.t3 some impl_Table_kept_impl_Table_selected_1.l3 v0 v1 v2 v3 v4 v5 v6 v7) (impl_Table_kept_impl_Table_selected_1.t3 (fun b => some (impl_Table_kept_impl_Table_selected_1.mk b)) impl_Table_kept_impl_Table_selected_1.q3 v0 v1 v2 v3 v4 v5 v6 v7) := by
  unfold impl_Table_kept_impl_Table_selected_1.t3
  repeat' first | exact Sub.ret | exact Sub.none | exact Sub.loop | apply Sub.cond | (apply Sub.bind; intro _)
theorem impl_Table_kept_impl_Table_selected_1.eq3 (v0 : List (Int × Int × Int)) (v1 : Int) (v2 : List (List Int × Int)) (v3 : Int) (v4 : List (List Int × Int)) (v5 : List (List Int × Int)) (v6 : Int) (v7 : Int) {b : Int × (List (List Int × Int))} (h : impl_Table_kept_impl_Table_selected_1.t3 some impl_Table_kept_impl_Table_selected_1.l3 v0 v1 v2 v3 v4 v5 v6 v7 = some b) : impl_Table_kept_impl_Table_selected_1.l3 v0 v1 v2 v3 v4 v5 v6 v7 = some b := tOf_intro impl_Table_kept_impl_Table_selected_1.un (fun _ => by kernel_rfl) (loopAtL_step ((impl_Table_kept_impl_Table_selected_1.k3 v0 v1 v2 v3 v4 v5 v6 v7).trans (impl_Table_kept_impl_Table_selected_1.s3 v0 v1 v2 v3 v4 v5 v6 v7 b h)))
noncomputable def impl_Table_selected_1.t {γ : Type} (ret : (Int) → Option γ) (v0 : List Int) (v1 : Int) (v2 : List (Int × Int × Int)) : Option γ :=
  (impl_areAll_impl_Test_impl_Table_selected_1_1 (v2) (v0) (v1)).bind fun (r0 : Bool) =>
  bif !r0 then
    ret ((0 : Int))
  else
    ret (v1)
theorem impl_Table_selected_1.k (v0 : List Int) (v1 : Int) (v2 : List (Int × Int × Int)) : topL E (callT E tab) 120 Try.f120 (impl_Table_selected_1.c v0 v1 v2) = impl_Table_selected_1.t (fun b => some (impl_Table_selected_1.mk b)) v0 v1 v2 := by kernel_rfl
theorem impl_Table_selected_1.s (v0 : List Int) (v1 : Int) (v2 : List (Int × Int × Int)) : Sub impl_Table_selected_1.mk (impl_Table_selected_1.t some v0 v1 v2) (impl_Table_selected_1.t (fun b => some (impl_Table_selected_1.mk b)) v0 v1 v2) := by
  unfold impl_Table_selected_1.t
  repeat' first | exact Sub.ret | exact Sub.none | exact Sub.loop | apply Sub.cond | (apply Sub.bind; intro _)
theorem impl_Table_selected_1.eq (v0 : List Int) (v1 : Int) (v2 : List (Int × Int × Int)) {b : Int} (h : impl_Table_selected_1.t some v0 v1 v2 = some b) : impl_Table_selected_1 v0 v1 v2 = some b := tOf_intro impl_Table_selected_1.un (fun _ => by kernel_rfl) (vlim_fn (callT_le E tab) rfl rfl rfl ((impl_Table_selected_1.k v0 v1 v2).trans (impl_Table_selected_1.s v0 v1 v2 b h)))
noncomputable def impl_areAll_impl_Test_impl_Table_selected_1_1.t {γ : Type} (ret : (Bool) → Option γ) (v0 : List (Int × Int × Int)) (v1 : List Int) (v2 : Int) : Option γ :=
  (slices_ContainsFunc_impl_Test_impl_Test_impl_areAll_impl_Test_1_impl_Table_selected_1_1 (v0) (v1) (v2)).bind fun (r0 : Bool) =>
  ret (!r0)
theorem impl_areAll_impl_Test_impl_Table_selected_1_1.k (v0 : List (Int × Int × Int)) (v1 : List Int) (v2 : Int) : topL E (callT E tab) 116 Try.f116 (impl_areAll_impl_Test_impl_Table_selected_1_1.c v0 v1 v2) = impl_areAll_impl_Test_impl_Table_selected_1_1.t (fun b => some (impl_areAll_impl_Test_impl_Table_selected_1_1.mk b)) v0 v1 v2 := by kernel_rfl
theorem impl_areAll_impl_Test_impl_Table_selected_1_1.s (v0 : List (Int × Int × Int)) (v1 : List Int) (v2 : Int) : Sub impl_areAll_impl_Test_impl_Table_selected_1_1.mk (impl_areAll_impl_Test_impl_Table_selected_1_1.t some v0 v1 v2) (impl_areAll_impl_Test_impl_Table_selected_1_1.t (fun b => some (impl_areAll_impl_Test_impl_Table_selected_1_1.mk b)) v0 v1 v2) := by
  unfold impl_areAll_impl_Test_impl_Table_selected_1_1.t
  repeat' first | exact Sub.ret | exact Sub.none | exact Sub.loop | apply Sub.cond | (apply Sub.bind; intro _)
theorem impl_areAll_impl_Test_impl_Table_selected_1_1.eq (v0 : List (Int × Int × Int)) (v1 : List Int) (v2 : Int) {b : Bool} (h : impl_areAll_impl_Test_impl_Table_selected_1_1.t some v0 v1 v2 = some b) : impl_areAll_impl_Test_impl_Table_selected_1_1 v0 v1 v2 = some b := tOf_intro impl_areAll_impl_Test_impl_Table_selected_1_1.un (fun _ => by kernel_rfl) (vlim_fn (callT_le E tab) rfl rfl rfl ((impl_areAll_impl_Test_impl_Table_selected_1_1.k v0 v1 v2).trans (impl_areAll_impl_Test_impl_Table_selected_1_1.s v0 v1 v2 b h)))
noncomputable def slices_ContainsFunc_impl_Test_impl_Test_impl_areAll_impl_Test_1_impl_Table_selected_1_1.t {γ : Type} (ret : (Bool) → Option γ) (v0 : List (Int × Int × Int)) (v1 : List Int) (v2 : Int) : Option γ :=
  (slices_IndexFunc_impl_Test_impl_Test_impl_areAll_impl_Test_1_impl_Table_selected_1_1 (v0) (v1) (v2)).bind fun (r0 : Int) =>
  ret (Decidable.decide (r0 ≥ (0 : Int)))
theorem slices_ContainsFunc_impl_Test_impl_Test_impl_areAll_impl_Test_1_impl_Table_selected_1_1.k (v0 : List (Int × Int × Int)) (v1 : List Int) (v2 : Int) : topL E (callT E tab) 143 Try.f143 (slices_ContainsFunc_impl_Test_impl_Test_impl_areAll_impl_Test_1_impl_Table_selected_1_1.c v0 v1 v2) = slices_ContainsFunc_impl_Test_impl_Test_impl_areAll_impl_Test_1_impl_Table_selected_1_1.t (fun b => some (slices_ContainsFunc_impl_Test_impl_Test_impl_areAll_impl_Test_1_impl_Table_selected_1_1.mk b)) v0 v1 v2 := by kernel_rfl
theorem slices_ContainsFunc_impl_Test_impl_Test_impl_areAll_impl_Test_1_impl_Table_selected_1_1.s (v0 : List (Int × Int × Int)) (v1 : List Int) (v2 : Int) : Sub slices_ContainsFunc_impl_Test_impl_Test_impl_areAll_impl_Test_1_impl_Table_selected_1_1.mk (slices_ContainsFunc_impl_Test_impl_Test_impl_areAll_impl_Test_1_impl_Table_selected_1_1.t some v0 v1 v2) (slices_ContainsFunc_impl_Test_impl_Test_impl_areAll_impl_Test_1_impl_Table_selected_1_1.t (fun b => some (slices_ContainsFunc_impl_Test_impl_Test_impl_areAll_impl_Test_1_impl_Table_selected_1_1.mk b)) v0 v1 v2) := by
  unfold slices_ContainsFunc_impl_Test_impl_Test_impl_areAll_impl_Test_1_impl_Table_selected_1_1.t
  repeat' first | exact Sub.ret | exact Sub.none | exact Sub.loop | apply Sub.cond | (apply Sub.bind; intro _)
theorem slices_ContainsFunc_impl_Test_impl_Test_impl_areAll_impl_Test_1_impl_Table_selected_1_1.eq (v0 : List (Int × Int × Int)) (v1 : List Int) (v2 : Int) {b : Bool} (h : slices_ContainsFunc_impl_Test_impl_Test_impl_areAll_impl_Test_1_impl_Table_selected_1_1.t some v0 v1 v2 = some b) : slices_ContainsFunc_impl_Test_impl_Test_impl_areAll_impl_Test_1_impl_Table_selected_1_1 v0 v1 v2 = some b := tOf_intro slices_ContainsFunc_impl_Test_impl_Test_impl_areAll_impl_Test_1_impl_Table_selected_1_1.un (fun _ => by kernel_rfl) (vlim_fn (callT_le E tab) rfl rfl rfl ((slices_ContainsFunc_impl_Test_impl_Test_impl_areAll_impl_Test_1_impl_Table_selected_1_1.k v0 v1 v2).trans (slices_ContainsFunc_impl_Test_impl_Test_impl_areAll_impl_Test_1_impl_Table_selected_1_1.s v0 v1 v2 b h)))
noncomputable def slices_IndexFunc_impl_Test_impl_Test_impl_areAll_impl_Test_1_impl_Table_selected_1_1.q2 (v0 : List (Int × Int × Int)) (v1 : List Int) (v2 : Int) (v3 : Int) (v4 : Int) : Option R := loopAtL E (callT E tab) 156 Try.f156 2 [.r, .l, .r, .b] (vc (.d .fro (.sl (.pair (.int .i64) (.pair (.int .i64) (.int .i64)))) v0) :: vc (.fn 144 [.rp [.fn 121 [.rp [.d .fro (.sl (.int .i64)) v1, iL v2] 0]] 0]) :: nn 5 (vc (iL v3) :: vc (iL v4) :: nn 10 ([])))
noncomputable def slices_IndexFunc_impl_Test_impl_Test_impl_areAll_impl_Test_1_impl_Table_selected_1_1.l2 (v0 : List (Int × Int × Int)) (v1 : List Int) (v2 : Int) (v3 : Int) (v4 : Int) : Option (Int) := tOf slices_IndexFunc_impl_Test_impl_Test_impl_areAll_impl_Test_1_impl_Table_selected_1_1.mk (slices_IndexFunc_impl_Test_impl_Test_impl_areAll_impl_Test_1_impl_Table_selected_1_1.q2 v0 v1 v2 v3 v4)
noncomputable def slices_IndexFunc_impl_Test_impl_Test_impl_areAll_impl_Test_1_impl_Table_selected_1_1.t {γ : Type} (ret : (Int) → Option γ) (lp2 : (List (Int × Int × Int)) → (List Int) → Int → Int → Int → Option γ) (v0 : List (Int × Int × Int)) (v1 : List Int) (v2 : Int) : Option γ :=
  lp2 (v0) (v1) (v2) ((↑v0.length : Int)) ((0 : Int))
noncomputable def slices_IndexFunc_impl_Test_impl_Test_impl_areAll_impl_Test_1_impl_Table_selected_1_1.t2 {γ : Type} (ret : (Int) → Option γ) (lp2 : (List (Int × Int × Int)) → (List Int) → Int → Int → Int → Option γ) (v0 : List (Int × Int × Int)) (v1 : List Int) (v2 : Int) (v3 : Int) (v4 : Int) : Option γ :=
  bif Decidable.decide (v4 < v3) then
    bif Decidable.decide ((0 : Int) ≤ v4) then
      bif Decidable.decide (v4.toNat < v0.length) then
        (impl_areAll_impl_Test_1_impl_Table_selected_1_1 ((v0.getD v4.toNat ((0 : Int), (0 : Int), (0 : Int))).fst) ((v0.getD v4.toNat ((0 : Int), (0 : Int), (0 : Int))).snd.fst) ((v0.getD v4.toNat ((0 : Int), (0 : Int), (0 : Int))).snd.snd) (v1) (v2)).bind fun (r0 : Bool) =>
        bif r0 then
          ret (v4)
        else
          lp2 (v0) (v1) (v2) (v3) (Go.IntKind.i64.wrap (v4 + (1 : Int)))
      else
        none
    else
      none
  else
    ret ((-1 : Int))
theorem slices_IndexFunc_impl_Test_impl_Test_impl_areAll_impl_Test_1_impl_Table_selected_1_1.k (v0 : List (Int × Int × Int)) (v1 : List Int) (v2 : Int) : topL E (callT E tab) 156 Try.f156 (slices_IndexFunc_impl_Test_impl_Test_impl_areAll_impl_Test_1_impl_Table_selected_1_1.c v0 v1 v2) = slices_IndexFunc_impl_Test_impl_Test_impl_areAll_impl_Test_1_impl_Table_selected_1_1.t (fun b => some (slices_IndexFunc_impl_Test_impl_Test_impl_areAll_impl_Test_1_impl_Table_selected_1_1.mk b)) slices_IndexFunc_impl_Test_impl_Test_impl_areAll_impl_Test_1_impl_Table_selected_1_1.q2 v0 v1 v2 := by kernel_rfl
theorem slices_IndexFunc_impl_Test_impl_Test_impl_areAll_impl_Test_1_impl_Table_selected_1_1.k2 (v0 : List (Int × Int × Int)) (v1 : List Int) (v2 : Int) (v3 : Int) (v4 : Int) : roundL E (callT E tab) 156 Try.f156 2 [.r, .l, .r, .b] (vc (.d .fro (.sl (.pair (.int .i64) (.pair (.int .i64) (.int .i64)))) v0) :: vc (.fn 144 [.rp [.fn 121 [.rp [.d .fro (.sl (.int .i64)) v1, iL v2] 0]] 0]) :: nn 5 (vc (iL v3) :: vc (iL v4) :: nn 10 ([]))) = slices_IndexFunc_impl_Test_impl_Test_impl_areAll_impl_Test_1_impl_Table_selected_1_1.t2 (fun b => some (slices_IndexFunc_impl_Test_impl_Test_impl_areAll_impl_Test_1_impl_Table_selected_1_1.mk b)) slices_IndexFunc_impl_Test_impl_Test_impl_areAll_impl_Test_1_impl_Table_selected_1_1.q2 v0 v1 v2 v3 v4 := by kernel_rfl
theorem slices_IndexFunc_impl_Test_impl_Test_impl_areAll_impl_Test_1_impl_Table_selected_1_1.s (v0 : List (Int × Int × Int)) (v1 : List Int) (v2 : Int) : Sub slices_IndexFunc_impl_Test_impl_Test_impl_areAll_impl_Test_1_impl_Table_selected_1_1.mk (slices_IndexFunc_impl_Test_impl_Test_impl_areAll_impl_Test_1_impl_Table_selected_1_1.t some slices_IndexFunc_impl_Test_impl_Test_impl_areAll_impl_Test_1_impl_Table_selected_1_1.l2 v0 v1 v2) (slices_IndexFunc_impl_Test_impl_Test_impl_areAll_impl_Test_1_impl_Table_selected_1_1.t (fun b => some (slices_IndexFunc_impl_Test_impl_Test_impl_areAll_impl_Test_1_impl_Table_selected_1_1.mk b)) slices_IndexFunc_impl_Test_impl_Test_impl_areAll_impl_Test_1_impl_Table_selected_1_1.q2 v0 v1 v2) := by
  unfold slices_IndexFunc_impl_Test_impl_Test_impl_areAll_impl_Test_1_impl_Table_selected_1_1.t
  repeat' first | exact Sub.ret | exact Sub.none | exact Sub.loop | apply Sub.cond | (apply Sub.bind; intro _)
theorem slices_IndexFunc_impl_Test_impl_Test_impl_areAll_impl_Test_1_impl_Table_selected_1_1.eq (v0 : List (Int × Int × Int)) (v1 : List Int) (v2 : Int) {b : Int} (h : slices_IndexFunc_impl_Test_impl_Test_impl_areAll_impl_Test_1_impl_Table_selected_1_1.t some slices_IndexFunc_impl_Test_impl_Test_impl_areAll_impl_Test_1_impl_Table_selected_1_1.l2 v0 v1 v2 = some b) : slices_IndexFunc_impl_Test_impl_Test_impl_areAll_impl_Test_1_impl_Table_selected_1_1 v0 v1 v2 = some b := tOf_intro slices_IndexFunc_impl_Test_impl_Test_impl_areAll_impl_Test_1_impl_Table_selected_1_1.un (fun _ => by kernel_rfl) (vlim_fn (callT_le E tab) rfl rfl rfl ((slices_IndexFunc_impl_Test_impl_Test_impl_areAll_impl_Test_1_impl_Table_selected_1_1.k v0 v1 v2).trans (slices_IndexFunc_impl_Test_impl_Test_impl_areAll_impl_Test_1_impl_Table_selected_1_1.s v0 v1 v2 b h)))
theorem slices_IndexFunc_impl_Test_impl_Test_impl_areAll_impl_Test_1_impl_Table_selected_1_1.s2 (v0 : List (Int × Int × Int)) (v1 : List Int) (v2 : Int) (v3 : Int) (v4 : Int) : Sub slices_IndexFunc_impl_Test_impl_Test_impl_areAll_impl_Test_1_impl_Table_selected_1_1.mk (slices_IndexFunc_impl_Test_impl_Test_impl_areAll_impl_Test_1_impl_Table_selected_1_1.t2 some slices_IndexFunc_impl_Test_impl_Test_impl_areAll_impl_Test_1_impl_Table_selected_1_1.l2 v0 v1 v2 v3 v4) (slices_IndexFunc_impl_Test_impl_Test_impl_areAll_impl_Test_1_impl_Table_selected_1_1.t2 (fun b => some (slices_IndexFunc_impl_Test_impl_Test_impl_areAll_impl_Test_1_impl_Table_selected_1_1.mk b)) slices_IndexFunc_impl_Test_impl_Test_impl_areAll_impl_Test_1_impl_Table_selected_1_1.q2 v0 v1 v2 v3 v4) := by
  unfold slices_IndexFunc_impl_Test_impl_Test_impl_areAll_impl_Test_1_impl_Table_selected_1_1.t2
  repeat' first | exact Sub.ret | exact Sub.none | exact Sub.loop | apply Sub.cond | (apply Sub.bind; intro _)
theorem slices_IndexFunc_impl_Test_impl_Test_impl_areAll_impl_Test_1_impl_Table_selected_1_1.eq2 (v0 : List (Int × Int × Int)) (v1 : List Int) (v2 : Int) (v3 : Int) (v4 : Int) {b : Int} (h : slices_IndexFunc_impl_Test_impl_Test_impl_areAll_impl_Test_1_impl_Table_selected_1_1.t2 some slices_IndexFunc_impl_Test_impl_Test_impl_areAll_impl_Test_1_impl_Table_selected_1_1.l2 v0 v1 v2 v3 v4 = some b) : slices_IndexFunc_impl_Test_impl_Test_impl_areAll_impl_Test_1_impl_Table_selected_1_1.l2 v0 v1 v2 v3 v4 = some b := tOf_intro slices_IndexFunc_impl_Test_impl_Test_impl_areAll_impl_Test_1_impl_Table_selected_1_1.un (fun _ => by kernel_rfl) (loopAtL_step ((slices_IndexFunc_impl_Test_impl_Test_impl_areAll_impl_Test_1_impl_Table_selected_1_1.k2 v0 v1 v2 v3 v4).trans (slices_IndexFunc_impl_Test_impl_Test_impl_areAll_impl_Test_1_impl_Table_selected_1_1.s2 v0 v1 v2 v3 v4 b h)))
noncomputable def impl_areAll_impl_Test_1_impl_Table_selected_1_1.t {γ : Type} (ret : (Bool) → Option γ) (v0 : Int) (v1 : Int) (v2 : Int) (v3 : List Int) (v4 : Int) : Option γ :=
  (impl_Table_selected_1_1 (v0) (v1) (v2) (v3) (v4)).bind fun (r0 : Bool) =>
  ret (!r0)
theorem impl_areAll_impl_Test_1_impl_Table_selected_1_1.k (v0 : Int) (v1 : Int) (v2 : Int) (v3 : List Int) (v4 : Int) : topL E (callT E tab) 144 Try.f144 (impl_areAll_impl_Test_1_impl_Table_selected_1_1.c v0 v1 v2 v3 v4) = impl_areAll_impl_Test_1_impl_Table_selected_1_1.t (fun b => some (impl_areAll_impl_Test_1_impl_Table_selected_1_1.mk b)) v0 v1 v2 v3 v4 := by kernel_rfl
theorem impl_areAll_impl_Test_1_impl_Table_selected_1_1.s (v0 : Int) (v1 : Int) (v2 : Int) (v3 : List Int) (v4 : Int) : Sub impl_areAll_impl_Test_1_impl_Table_selected_1_1.mk (impl_areAll_impl_Test_1_impl_Table_selected_1_1.t some v0 v1 v2 v3 v4) (impl_areAll_impl_Test_1_impl_Table_selected_1_1.t (fun b => some (impl_areAll_impl_Test_1_impl_Table_selected_1_1.mk b)) v0 v1 v2 v3 v4) := by
  unfold impl_areAll_impl_Test_1_impl_Table_selected_1_1.t
  repeat' first | exact Sub.ret | exact Sub.none | exact Sub.loop | apply Sub.cond | (apply Sub.bind; intro _)
theorem impl_areAll_impl_Test_1_impl_Table_selected_1_1.eq (v0 : Int) (v1 : Int) (v2 : Int) (v3 : List Int) (v4 : Int) {b : Bool} (h : impl_areAll_impl_Test_1_impl_Table_selected_1_1.t some v0 v1 v2 v3 v4 = some b) : impl_areAll_impl_Test_1_impl_Table_selected_1_1 v0 v1 v2 v3 v4 = some b := tOf_intro impl_areAll_impl_Test_1_impl_Table_selected_1_1.un (fun _ => by kernel_rfl) (vlim_fn (callT_le E tab) rfl rfl rfl ((impl_areAll_impl_Test_1_impl_Table_selected_1_1.k v0 v1 v2 v3 v4).trans (impl_areAll_impl_Test_1_impl_Table_selected_1_1.s v0 v1 v2 v3 v4 b h)))
noncomputable def impl_Table_selected_1_1.t {γ : Type} (ret : (Bool) → Option γ) (v0 : Int) (v1 : Int) (v2 : Int) (v3 : List Int) (v4 : Int) : Option γ :=
  (impl_Test_isTrue (v0) (v1) (v2) (v3)).bind fun (r0 : Bool) =>
  ret (r0)
theorem impl_Table_selected_1_1.k (v0 : Int) (v1 : Int) (v2 : Int) (v3 : List Int) (v4 : Int) : topL E (callT E tab) 121 Try.f121 (impl_Table_selected_1_1.c v0 v1 v2 v3 v4) = impl_Table_selected_1_1.t (fun b => some (impl_Table_selected_1_1.mk b)) v0 v1 v2 v3 v4 := by kernel_rfl
theorem impl_Table_selected_1_1.s (v0 : Int) (v1 : Int) (v2 : Int) (v3 : List Int) (v4 : Int) : Sub impl_Table_selected_1_1.mk (impl_Table_selected_1_1.t some v0 v1 v2 v3 v4) (impl_Table_selected_1_1.t (fun b => some (impl_Table_selected_1_1.mk b)) v0 v1 v2 v3 v4) := by
  unfold impl_Table_selected_1_1.t
  repeat' first | exact Sub.ret | exact Sub.none | exact Sub.loop | apply Sub.cond | (apply Sub.bind; intro _)
theorem impl_Table_selected_1_1.eq (v0 : Int) (v1 : Int) (v2 : Int) (v3 : List Int) (v4 : Int) {b : Bool} (h : impl_Table_selected_1_1.t some v0 v1 v2 v3 v4 = some b) : impl_Table_selected_1_1 v0 v1 v2 v3 v4 = some b := tOf_intro impl_Table_selected_1_1.un (fun _ => by kernel_rfl) (vlim_fn (callT_le E tab) rfl rfl rfl ((impl_Table_selected_1_1.k v0 v1 v2 v3 v4).trans (impl_Table_selected_1_1.s v0 v1 v2 v3 v4 b h)))
noncomputable def impl_Test_isTrue.t {γ : Type} (ret : (Bool) → Option γ) (v0 : Int) (v1 : Int) (v2 : Int) (v3 : List Int) : Option γ :=
  bif Decidable.decide ((0 : Int) ≤ v1) then
    bif Decidable.decide (v1.toNat < v3.length) then
      bif v0 == (1 : Int) then
        ret (v3.getD v1.toNat (0 : Int) == v2)
      else
        bif v0 == (2 : Int) then
          ret (Decidable.decide (v3.getD v1.toNat (0 : Int) < v2))
        else
          bif v0 == (3 : Int) then
            ret (Decidable.decide (v3.getD v1.toNat (0 : Int) > v2))
          else
            bif Decidable.decide ((0 : Int) ≤ v2) then
              bif Decidable.decide (v2.toNat < v3.length) then
                ret (v3.getD v1.toNat (0 : Int) == v3.getD v2.toNat (0 : Int))
              else
                none
            else
              none
    else
      none
  else
    none
theorem impl_Test_isTrue.k (v0 : Int) (v1 : Int) (v2 : Int) (v3 : List Int) : topL E (callT E tab) 122 Try.f122 (impl_Test_isTrue.c v0 v1 v2 v3) = impl_Test_isTrue.t (fun b => some (impl_Test_isTrue.mk b)) v0 v1 v2 v3 := by kernel_rfl
theorem impl_Test_isTrue.s (v0 : Int) (v1 : Int) (v2 : Int) (v3 : List Int) : Sub impl_Test_isTrue.mk (impl_Test_isTrue.t some v0 v1 v2 v3) (impl_Test_isTrue.t (fun b => some (impl_Test_isTrue.mk b)) v0 v1 v2 v3) := by
  unfold impl_Test_isTrue.t
  repeat' first | exact Sub.ret | exact Sub.none | exact Sub.loop | apply Sub.cond | (apply Sub.bind; intro _)
theorem impl_Test_isTrue.eq (v0 : Int) (v1 : Int) (v2 : Int) (v3 : List Int) {b : Bool} (h : impl_Test_isTrue.t some v0 v1 v2 v3 = some b) : impl_Test_isTrue v0 v1 v2 v3 = some b := tOf_intro impl_Test_isTrue.un (fun _ => by kernel_rfl) (vlim_fn (callT_le E tab) rfl rfl rfl ((impl_Test_isTrue.k v0 v1 v2 v3).trans (impl_Test_isTrue.s v0 v1 v2 v3 b h)))
noncomputable def laws_eqTestS.q4 (v0 : List (Int × Int × Int)) (v1 : List (Int × Int × Int)) (v2 : Int) : Option R := loopAtL E (callT E tab) 34 Try.f34 2 [.r, .r, .l, .r, .b] (vc (.d .fro (.sl (.pair (.int .i64) (.pair (.int .i64) (.int .i64)))) v0) :: vc (.d .fro (.sl (.pair (.int .i64) (.pair (.int .i64) (.int .i64)))) v1) :: nn 3 (vc (iL v2) :: nn 21 ([])))
noncomputable def laws_eqTestS.l4 (v0 : List (Int × Int × Int)) (v1 : List (Int × Int × Int)) (v2 : Int) : Option (Bool) := tOf laws_eqTestS.mk (laws_eqTestS.q4 v0 v1 v2)
noncomputable def laws_eqTestS.t {γ : Type} (ret : (Bool) → Option γ) (lp4 : (List (Int × Int × Int)) → (List (Int × Int × Int)) → Int → Option γ) (v0 : List (Int × Int × Int)) (v1 : List (Int × Int × Int)) : Option γ :=
  bif (↑v0.length : Int) != (↑v1.length : Int) then
    ret (Bool.false)
  else
    lp4 (v0) (v1) ((0 : Int))
noncomputable def laws_eqTestS.t4 {γ : Type} (ret : (Bool) → Option γ) (lp4 : (List (Int × Int × Int)) → (List (Int × Int × Int)) → Int → Option γ) (v0 : List (Int × Int × Int)) (v1 : List (Int × Int × Int)) (v2 : Int) : Option γ :=
  bif Decidable.decide (v2 < (↑v0.length : Int)) then
    bif Decidable.decide ((0 : Int) ≤ v2) then
      bif Decidable.decide (v2.toNat < v0.length) then
        bif Decidable.decide ((0 : Int) ≤ v2) then
          bif Decidable.decide (v2.toNat < v1.length) then
            (laws_eqTest ((v0.getD v2.toNat ((0 : Int), (0 : Int), (0 : Int))).fst) ((v0.getD v2.toNat ((0 : Int), (0 : Int), (0 : Int))).snd.fst) ((v0.getD v2.toNat ((0 : Int), (0 : Int), (0 : Int))).snd.snd) ((v1.getD v2.toNat ((0 : Int), (0 : Int), (0 : Int))).fst) ((v1.getD v2.toNat ((0 : Int), (0 : Int), (0 : Int))).snd.fst) ((v1.getD v2.toNat ((0 : Int), (0 : Int), (0 : Int))).snd.snd)).bind fun (r0 : Bool) =>
            bif !r0 then
              ret (Bool.false)
            else
              lp4 (v0) (v1) (Go.IntKind.i64.wrap (v2 + (1 : Int)))
          else
            none
        else
          none
      else
        none
    else
      none
  else
    ret (Bool.true)
theorem laws_eqTestS.k (v0 : List (Int × Int × Int)) (v1 : List (Int × Int × Int)) : topL E (callT E tab) 34 Try.f34 (laws_eqTestS.c v0 v1) = laws_eqTestS.t (fun b => some (laws_eqTestS.mk b)) laws_eqTestS.q4 v0 v1 := by kernel_rfl
theorem laws_eqTestS.k4 (v0 : List (Int × Int × Int)) (v1 : List (Int × Int × Int)) (v2 : Int) : roundL E (callT E tab) 34 Try.f34 2 [.r, .r, .l, .r, .b] (vc (.d .fro (.sl (.pair (.int .i64) (.pair (.int .i64) (.int .i64)))) v0) :: vc (.d .fro (.sl (.pair (.int .i64) (.pair (.int .i64) (.int .i64)))) v1) :: nn 3 (vc (iL v2) :: nn 21 ([]))) = laws_eqTestS.t4 (fun b => some (laws_eqTestS.mk b)) laws_eqTestS.q4 v0 v1 v2 := by kernel_rfl
theorem laws_eqTestS.s (v0 : List (Int × Int × Int)) (v1 : List (Int × Int × Int)) : Sub laws_eqTestS.mk (laws_eqTestS.t some laws_eqTestS.l4 v0 v1) (laws_eqTestS.t (fun b => some (laws_eqTestS.mk b)) laws_eqTestS.q4 v0 v1) := by
  unfold laws_eqTestS.t
  repeat' first | exact Sub.ret | exact Sub.none | exact Sub.loop | apply Sub.cond | (apply Sub.bind; intro _)
theorem laws_eqTestS.eq (v0 : List (Int × Int × Int)) (v1 : List (Int × Int × Int)) {b : Bool} (h : laws_eqTestS.t some laws_eqTestS.l4 v0 v1 = some b) : laws_eqTestS v0 v1 = some b := tOf_intro laws_eqTestS.un (fun _ => by kernel_rfl) (vlim_fn (callT_le E tab) rfl rfl rfl ((laws_eqTestS.k v0 v1).trans (laws_eqTestS.s v0 v1 b h)))
theorem laws_eqTestS.s4 (v0 : List (Int × Int × Int)) (v1 : List (Int × Int × Int)) (v2 : Int) : Sub laws_eqTestS.mk (laws_eqTestS.t4 some laws_eqTestS.l4 v0 v1 v2) (laws_eqTestS.t4 (fun b => some (laws_eqTestS.mk b)) laws_eqTestS.q4 v0 v1 v2) := by
  unfold laws_eqTestS.t4
  repeat' first | exact Sub.ret | exact Sub.none | exact Sub.loop | apply Sub.cond | (apply Sub.bind; intro _)
theorem laws_eqTestS.eq4 (v0 : List (Int × Int × Int)) (v1 : List (Int × Int × Int)) (v2 : Int) {b : Bool} (h : laws_eqTestS.t4 some laws_eqTestS.l4 v0 v1 v2 = some b) : laws_eqTestS.l4 v0 v1 v2 = some b := tOf_intro laws_eqTestS.un (fun _ => by kernel_rfl) (loopAtL_step ((laws_eqTestS.k4 v0 v1 v2).trans (laws_eqTestS.s4 v0 v1 v2 b h)))
noncomputable def laws_eqTest.t {γ : Type} (ret : (Bool) → Option γ) (v0 : Int) (v1 : Int) (v2 : Int) (v3 : Int) (v4 : Int) (v5 : Int) : Option γ :=
  bif v0 != v3 then
    ret (Bool.false)
  else
    bif v1 != v4 then
      ret (Bool.false)
    else
      bif v2 != v5 then
        ret (Bool.false)
      else
        ret (Bool.true)
theorem laws_eqTest.k (v0 : Int) (v1 : Int) (v2 : Int) (v3 : Int) (v4 : Int) (v5 : Int) : topL E (callT E tab) 82 Try.f82 (laws_eqTest.c v0 v1 v2 v3 v4 v5) = laws_eqTest.t (fun b => some (laws_eqTest.mk b)) v0 v1 v2 v3 v4 v5 := by kernel_rfl
theorem laws_eqTest.s (v0 : Int) (v1 : Int) (v2 : Int) (v3 : Int) (v4 : Int) (v5 : Int) : Sub laws_eqTest.mk (laws_eqTest.t some v0 v1 v2 v3 v4 v5) (laws_eqTest.t (fun b => some (laws_eqTest.mk b)) v0 v1 v2 v3 v4 v5) := by
  unfold laws_eqTest.t
  repeat' first | exact Sub.ret | exact Sub.none | exact Sub.loop | apply Sub.cond | (apply Sub.bind; intro _)
theorem laws_eqTest.eq (v0 : Int) (v1 : Int) (v2 : Int) (v3 : Int) (v4 : Int) (v5 : Int) {b : Bool} (h : laws_eqTest.t some v0 v1 v2 v3 v4 v5 = some b) : laws_eqTest v0 v1 v2 v3 v4 v5 = some b := tOf_intro laws_eqTest.un (fun _ => by kernel_rfl) (vlim_fn (callT_le E tab) rfl rfl rfl ((laws_eqTest.k v0 v1 v2 v3 v4 v5).trans (laws_eqTest.s v0 v1 v2 v3 v4 v5 b h)))
noncomputable def laws_markTestS_5b1.q2 (v0 : List (Int × Int × Int)) (v1 : Int) (v2 : Int) : Option R := loopAtL E (callT E tab) 35 Try.f35 2 [.r, .l, .r, .b] (⟨(.val .one), [.d .deep (.sl (.pair (.int .i64) (.pair (.int .i64) (.int .i64)))) v0], true, false, false, 0, 0⟩ :: vc (iL v1) :: nn 3 (vc (iL v2) :: nn 28 ([])))
noncomputable def laws_markTestS_5b1.l2 (v0 : List (Int × Int × Int)) (v1 : Int) (v2 : Int) : Option (Int × (List (Int × Int × Int))) := tOf laws_markTestS_5b1.mk (laws_markTestS_5b1.q2 v0 v1 v2)
noncomputable def laws_markTestS_5b1.t {γ : Type} (ret : (Int × (List (Int × Int × Int))) → Option γ) (lp2 : (List (Int × Int × Int)) → Int → Int → Option γ) (v0 : List (Int × Int × Int)) (v1 : Int) : Option γ :=
  lp2 (v0) (v1) ((0 : Int))
noncomputable def laws_markTestS_5b1.t2 {γ : Type} (ret : (Int × (List (Int × Int × Int))) → Option γ) (lp2 : (List (Int × Int × Int)) → Int → Int → Option γ) (v0 : List (Int × Int × Int)) (v1 : Int) (v2 : Int) : Option γ :=
  bif Decidable.decide (v2 < (↑v0.length : Int)) then
    bif Decidable.decide ((0 : Int) ≤ v2) then
      bif Decidable.decide (v2.toNat < v0.length) then
        bif Decidable.decide (v2.toNat < v0.length) then
          bif Decidable.decide ((0 : Int) ≤ v2) then
            bif Decidable.decide (v2.toNat < (v0.set v2.toNat (v1, (v0.getD v2.toNat ((0 : Int), (0 : Int), (0 : Int))).snd)).length) then
              bif Decidable.decide (v2.toNat < (v0.set v2.toNat (v1, (v0.getD v2.toNat ((0 : Int), (0 : Int), (0 : Int))).snd)).length) then
                bif Decidable.decide ((0 : Int) ≤ v2) then
                  bif Decidable.decide   (v2.toNat <     ((v0.set v2.toNat (v1, (v0.getD v2.toNat ((0 : Int), (0 : Int), (0 : Int))).snd)).set v2.toNat         (((v0.set v2.toNat (v1, (v0.getD v2.toNat ((0 : Int), (0 : Int), (0 : Int))).snd)).getD v2.toNat               ((0 : Int), (0 : Int), (0 : Int))).fst,           Go.IntKind.i64.wrap (v1 + (1 : Int)),           ((v0.set v2.toNat (v1, (v0.getD v2.toNat ((0 : Int), (0 : Int), (0 : Int))).snd)).getD v2.toNat                 ((0 : Int), (0 : Int), (0 : Int))).snd.snd)).length) then
                    bif Decidable.decide   (v2.toNat <     ((v0.set v2.toNat (v1, (v0.getD v2.toNat ((0 : Int), (0 : Int), (0 : Int))).snd)).set v2.toNat         (((v0.set v2.toNat (v1, (v0.getD v2.toNat ((0 : Int), (0 : Int), (0 : Int))).snd)).getD v2.toNat               ((0 : Int), (0 : Int), (0 : Int))).fst,           Go.IntKind.i64.wrap (v1 + (1 : Int)),           ((v0.set v2.toNat (v1, (v0.getD v2.toNat ((0 : Int), (0 : Int), (0 : Int))).snd)).getD v2.toNat                 ((0 : Int), (0 : Int), (0 : Int))).snd.snd)).length) then
                      lp2 (((v0.set v2.toNat (v1, (v0.getD v2.toNat ((0 : Int), (0 : Int), (0 : Int))).snd)).set v2.toNat       (((v0.set v2.toNat (v1, (v0.getD v2.toNat ((0 : Int), (0 : Int), (0 : Int))).snd)).getD v2.toNat             ((0 : Int), (0 : Int), (0 : Int))).fst,         Go.IntKind.i64.wrap (v1 + (1 : Int)),         ((v0.set v2.toNat (v1, (v0.getD v2.toNat ((0 : Int), (0 : Int), (0 : Int))).snd)).getD v2.toNat               ((0 : Int), (0 : Int), (0 : Int))).snd.snd)).set   v2.toNat   ((((v0.set v2.toNat (v1, (v0.getD v2.toNat ((0 : Int), (0 : Int), (0 : Int))).snd)).set v2.toNat             (((v0.set v2.toNat (v1, (v0.getD v2.toNat ((0 : Int), (0 : Int), (0 : Int))).snd)).getD v2.toNat                   ((0 : Int), (0 : Int), (0 : Int))).fst,               Go.IntKind.i64.wrap (v1 + (1 : Int)),               ((v0.set v2.toNat (v1, (v0.getD v2.toNat ((0 : Int), (0 : Int), (0 : Int))).snd)).getD v2.toNat                     ((0 : Int), (0 : Int), (0 : Int))).snd.snd)).getD         v2.toNat ((0 : Int), (0 : Int), (0 : Int))).fst,     (((v0.set v2.toNat (v1, (v0.getD v2.toNat ((0 : Int), (0 : Int), (0 : Int))).snd)).set v2.toNat               (((v0.set v2.toNat (v1, (v0.getD v2.toNat ((0 : Int), (0 : Int), (0 : Int))).snd)).getD v2.toNat                     ((0 : Int), (0 : Int), (0 : Int))).fst,                 Go.IntKind.i64.wrap (v1 + (1 : Int)),                 ((v0.set v2.toNat (v1, (v0.getD v2.toNat ((0 : Int), (0 : Int), (0 : Int))).snd)).getD v2.toNat                       ((0 : Int), (0 : Int), (0 : Int))).snd.snd)).getD           v2.toNat ((0 : Int), (0 : Int), (0 : Int))).snd.fst,     Go.IntKind.i64.wrap (Go.IntKind.i64.wrap (v1 + (1 : Int)) + (1 : Int)))) (Go.IntKind.i64.wrap (Go.IntKind.i64.wrap (Go.IntKind.i64.wrap (v1 + (1 : Int)) + (1 : Int)) + (1 : Int))) (Go.IntKind.i64.wrap (v2 + (1 : Int)))
                    else
                      none
                  else
                    none
                else
                  none
              else
                none
            else
              none
          else
            none
        else
          none
      else
        none
    else
      none
  else
    ret (v1, v0)
theorem laws_markTestS_5b1.k (v0 : List (Int × Int × Int)) (v1 : Int) : topL E (callT E tab) 35 Try.f35 (laws_markTestS_5b1.c v0 v1) = laws_markTestS_5b1.t (fun b => some (laws_markTestS_5b1.mk b)) laws_markTestS_5b1.q2 v0 v1 := by kernel_rfl
theorem laws_markTestS_5b1.k2 (v0 : List (Int × Int × Int)) (v1 : Int) (v2 : Int) : roundL E (callT E tab) 35 Try.f35 2 [.r, .l, .r, .b] (⟨(.val .one), [.d .deep (.sl (.pair (.int .i64) (.pair (.int .i64) (.int .i64)))) v0], true, false, false, 0, 0⟩ :: vc (iL v1) :: nn 3 (vc (iL v2) :: nn 28 ([]))) = laws_markTestS_5b1.t2 (fun b => some (laws_markTestS_5b1.mk b)) laws_markTestS_5b1.q2 v0 v1 v2 := by kernel_rfl
theorem laws_markTestS_5b1.s (v0 : List (Int × Int × Int)) (v1 : Int) : Sub laws_markTestS_5b1.mk (laws_markTestS_5b1.t some laws_markTestS_5b1.l2 v0 v1) (laws_markTestS_5b1.t (fun b => some (laws_markTestS_5b1.mk b)) laws_markTestS_5b1.q2 v0 v1) := by
  unfold laws_markTestS_5b1.t
  repeat' first | exact Sub.ret | exact Sub.none | exact Sub.loop | apply Sub.cond | (apply Sub.bind; intro _)
theorem laws_markTestS_5b1.eq (v0 : List (Int × Int × Int)) (v1 : Int) {b : Int × (List (Int × Int × Int))} (h : laws_markTestS_5b1.t some laws_markTestS_5b1.l2 v0 v1 = some b) : laws_markTestS_5b1 v0 v1 = some b := tOf_intro laws_markTestS_5b1.un (fun _ => by kernel_rfl) (vlim_fn (callT_le E tab) rfl rfl rfl ((laws_markTestS_5b1.k v0 v1).trans (laws_markTestS_5b1.s v0 v1 b h)))
theorem laws_markTestS_5b1.s2 (v0 : List (Int × Int × Int)) (v1 : Int) (v2 : Int) : Sub laws_markTestS_5b1.mk (laws_markTestS_5b1.t2 some laws_markTestS_5b1.l2 v0 v1 v2) (laws_markTestS_5b1.t2 (fun b => some (laws_markTestS_5b1.mk b)) laws_markTestS_5b1.q2 v0 v1 v2) := by
  unfold laws_markTestS_5b1.t2
  repeat' first | exact Sub.ret | exact Sub.none | exact Sub.loop | apply Sub.cond | (apply Sub.bind; intro _)
theorem laws_markTestS_5b1.eq2 (v0 : List (Int × Int × Int)) (v1 : Int) (v2 : Int) {b : Int × (List (Int × Int × Int))} (h : laws_markTestS_5b1.t2 some laws_markTestS_5b1.l2 v0 v1 v2 = some b) : laws_markTestS_5b1.l2 v0 v1 v2 = some b := tOf_intro laws_markTestS_5b1.un (fun _ => by kernel_rfl) (loopAtL_step ((laws_markTestS_5b1.k2 v0 v1 v2).trans (laws_markTestS_5b1.s2 v0 v1 v2 b h)))
end GoV
