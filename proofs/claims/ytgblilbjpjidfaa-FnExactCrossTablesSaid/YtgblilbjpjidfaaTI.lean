/- A part of the proof of FnExactCrossTables: an interpreter of the model over plain data, its soundness, and what it makes of the functions that the statement reaches. Conditions: none beyond what the given statement itself says. -/
import Derived.Test.YtgblilbjpjidfaaTH
set_option linter.unusedVariables false
set_option linter.unusedSimpArgs false
set_option linter.unnecessarySimpa false
set_option linter.unusedSectionVars false
/- The functions of the program, each told by what it answers in the end (printed by wip/tools/emit.py). -/
namespace GoV
open Go Go.Proofs
set_option maxRecDepth 100000

def laws_szWeightedS.c (v0 : List (List Int × Int)) (v1 : Int) : List Cell := vc (.d .fro (.sl (.pair (.sl (.int .i64)) (.int .i64))) v0) :: vc (iL v1) :: []
def laws_szWeightedS.mk (b : Int) : R := (⟨.one, [iL b]⟩, nn 2 ([]))
def laws_szWeightedS.un (r : R) : Int := ((leafR r 0).dat (.int .i64))
noncomputable def laws_szWeightedS (v0 : List (List Int × Int)) (v1 : Int) : Option (Int) := tOf laws_szWeightedS.mk (vlim E 36 (laws_szWeightedS.c v0 v1))
def laws_szWeighted.c (v0 : List Int) (v1 : Int) (v2 : Int) : List Cell := ac [.d .fro (.sl (.int .i64)) v0, iL v1] :: vc (iL v2) :: []
def laws_szWeighted.mk (b : Int) : R := (⟨.one, [iL b]⟩, nn 2 ([]))
def laws_szWeighted.un (r : R) : Int := ((leafR r 0).dat (.int .i64))
noncomputable def laws_szWeighted (v0 : List Int) (v1 : Int) (v2 : Int) : Option (Int) := tOf laws_szWeighted.mk (vlim E 83 (laws_szWeighted.c v0 v1 v2))
def laws_szRow.c (v0 : List Int) (v1 : Int) : List Cell := ac [.d .fro (.sl (.int .i64)) v0] :: vc (iL v1) :: []
def laws_szRow.mk (b : Int) : R := (⟨.one, [iL b]⟩, nn 2 ([]))
def laws_szRow.un (r : R) : Int := ((leafR r 0).dat (.int .i64))
noncomputable def laws_szRow (v0 : List Int) (v1 : Int) : Option (Int) := tOf laws_szRow.mk (vlim E 123 (laws_szRow.c v0 v1))
def laws_szIntS.c (v0 : List Int) (v1 : Int) : List Cell := vc (.d .fro (.sl (.int .i64)) v0) :: vc (iL v1) :: []
def laws_szIntS.mk (b : Int) : R := (⟨.one, [iL b]⟩, nn 2 ([]))
def laws_szIntS.un (r : R) : Int := ((leafR r 0).dat (.int .i64))
noncomputable def laws_szIntS (v0 : List Int) (v1 : Int) : Option (Int) := tOf laws_szIntS.mk (vlim E 100 (laws_szIntS.c v0 v1))
def laws_toWeightedS.c (v0 : List (List Int × Int)) : List Cell := vc (.d .fro (.sl (.pair (.sl (.int .i64)) (.int .i64))) v0) :: []
def laws_toWeightedS.mk (b : (List (List Int × Int))) : R := (⟨.one, [.d .deep (.sl (.pair (.sl (.int .i64)) (.int .i64))) b]⟩, nn 1 ([]))
def laws_toWeightedS.un (r : R) : (List (List Int × Int)) := ((leafR r 0).dat (.sl (.pair (.sl (.int .i64)) (.int .i64))))
noncomputable def laws_toWeightedS (v0 : List (List Int × Int)) : Option ((List (List Int × Int))) := tOf laws_toWeightedS.mk (vlim E 38 (laws_toWeightedS.c v0))
def laws_toWeighted.c (v0 : List Int) (v1 : Int) : List Cell := ac [.d .fro (.sl (.int .i64)) v0, iL v1] :: []
def laws_toWeighted.mk (b : (List Int) × Int) : R := (⟨.agg, [.d .deep (.sl (.int .i64)) b.1, iL b.2]⟩, nn 1 ([]))
def laws_toWeighted.un (r : R) : (List Int) × Int := ((leafR r 0).dat (.sl (.int .i64)), (leafR r 1).dat (.int .i64))
noncomputable def laws_toWeighted (v0 : List Int) (v1 : Int) : Option ((List Int) × Int) := tOf laws_toWeighted.mk (vlim E 87 (laws_toWeighted.c v0 v1))
def laws_toRow.c (v0 : List Int) : List Cell := ac [.d .fro (.sl (.int .i64)) v0] :: []
def laws_toRow.mk (b : (List Int)) : R := (⟨.agg, [.d .deep (.sl (.int .i64)) b]⟩, nn 1 ([]))
def laws_toRow.un (r : R) : (List Int) := ((leafR r 0).dat (.sl (.int .i64)))
noncomputable def laws_toRow (v0 : List Int) : Option ((List Int)) := tOf laws_toRow.mk (vlim E 124 (laws_toRow.c v0))
def laws_toIntS.c (v0 : List Int) : List Cell := vc (.d .fro (.sl (.int .i64)) v0) :: []
def laws_toIntS.mk (b : (List Int)) : R := (⟨.one, [.d .deep (.sl (.int .i64)) b]⟩, nn 1 ([]))
def laws_toIntS.un (r : R) : (List Int) := ((leafR r 0).dat (.sl (.int .i64)))
noncomputable def laws_toIntS (v0 : List Int) : Option ((List Int)) := tOf laws_toIntS.mk (vlim E 45 (laws_toIntS.c v0))
def spec_l1In.c (v0 : Int) (v1 : Int) (v2 : Int) : List Cell := vc (iL v0) :: vc (iL v1) :: vc (iL v2) :: []
def spec_l1In.mk (b : Bool) : R := (⟨.one, [bL b]⟩, nn 3 ([]))
def spec_l1In.un (r : R) : Bool := ((leafR r 0).dat .bool)
noncomputable def spec_l1In (v0 : Int) (v1 : Int) (v2 : Int) : Option (Bool) := tOf spec_l1In.mk (vlim E 65 (spec_l1In.c v0 v1 v2))
def spec_GoodRow.c (v0 : List Int) : List Cell := ac [.d .fro (.sl (.int .i64)) v0] :: []
def spec_GoodRow.mk (b : Bool) : R := (⟨.one, [bL b]⟩, nn 1 ([]))
def spec_GoodRow.un (r : R) : Bool := ((leafR r 0).dat .bool)
noncomputable def spec_GoodRow (v0 : List Int) : Option (Bool) := tOf spec_GoodRow.mk (vlim E 84 (spec_GoodRow.c v0))
def spec_l2Weight.c (v0 : Int) : List Cell := vc (iL v0) :: []
def spec_l2Weight.mk (b : Bool) : R := (⟨.one, [bL b]⟩, nn 1 ([]))
def spec_l2Weight.un (r : R) : Bool := ((leafR r 0).dat .bool)
noncomputable def spec_l2Weight (v0 : Int) : Option (Bool) := tOf spec_l2Weight.mk (vlim E 85 (spec_l2Weight.c v0))
def spec_l2Put.c (v0 : List (List Int × Int)) (v1 : List Int) (v2 : Int) : List Cell := vc (.d .fro (.sl (.pair (.sl (.int .i64)) (.int .i64))) v0) :: ac [.d .fro (.sl (.int .i64)) v1] :: vc (iL v2) :: []
def spec_l2Put.mk (b : (List (List Int × Int))) : R := (⟨.one, [.d .sha (.sl (.pair (.sl (.int .i64)) (.int .i64))) b]⟩, nn 3 ([]))
def spec_l2Put.un (r : R) : (List (List Int × Int)) := ((leafR r 0).dat (.sl (.pair (.sl (.int .i64)) (.int .i64))))
noncomputable def spec_l2Put (v0 : List (List Int × Int)) (v1 : List Int) (v2 : Int) : Option ((List (List Int × Int))) := tOf spec_l2Put.mk (vlim E 86 (spec_l2Put.c v0 v1 v2))
def spec_l1Compare.c (v0 : List Int) (v1 : List Int) : List Cell := ac [.d .fro (.sl (.int .i64)) v0] :: ac [.d .fro (.sl (.int .i64)) v1] :: []
def spec_l1Compare.mk (b : Int) : R := (⟨.one, [iL b]⟩, nn 2 ([]))
def spec_l1Compare.un (r : R) : Int := ((leafR r 0).dat (.int .i64))
noncomputable def spec_l1Compare (v0 : List Int) (v1 : List Int) : Option (Int) := tOf spec_l1Compare.mk (vlim E 106 (spec_l1Compare.c v0 v1))
def spec_l2OwnRow.c (v0 : List Int) : List Cell := ac [.d .fro (.sl (.int .i64)) v0] :: []
def spec_l2OwnRow.mk (b : (List Int)) : R := (⟨.agg, [.d .deep (.sl (.int .i64)) b]⟩, nn 1 ([]))
def spec_l2OwnRow.un (r : R) : (List Int) := ((leafR r 0).dat (.sl (.int .i64)))
noncomputable def spec_l2OwnRow (v0 : List Int) : Option ((List Int)) := tOf spec_l2OwnRow.mk (vlim E 107 (spec_l2OwnRow.c v0))
def spec_l2Tell.c (v0 : Int) (v1 : List (List Int × Int)) : List Cell := vc (iL v0) :: vc (.d .fro (.sl (.pair (.sl (.int .i64)) (.int .i64))) v1) :: []
def spec_l2Tell.mk (b : Int × (List (List Int × Int)) × Bool) : R := (⟨(.tup [some 2, none]), [iL b.1, .d .deep (.sl (.pair (.sl (.int .i64)) (.int .i64))) b.2.1, bL b.2.2]⟩, nn 2 ([]))
def spec_l2Tell.un (r : R) : Int × (List (List Int × Int)) × Bool := ((leafR r 0).dat (.int .i64), (leafR r 1).dat (.sl (.pair (.sl (.int .i64)) (.int .i64))), (leafR r 2).dat .bool)
noncomputable def spec_l2Tell (v0 : Int) (v1 : List (List Int × Int)) : Option (Int × (List (List Int × Int)) × Bool) := tOf spec_l2Tell.mk (vlim E 60 (spec_l2Tell.c v0 v1))
def spec_GoodTable.c (v0 : Int) (v1 : List (List Int × Int)) : List Cell := ac [iL v0, .d .fro (.sl (.pair (.sl (.int .i64)) (.int .i64))) v1] :: []
def spec_GoodTable.mk (b : Bool) : R := (⟨.one, [bL b]⟩, nn 1 ([]))
def spec_GoodTable.un (r : R) : Bool := ((leafR r 0).dat .bool)
noncomputable def spec_GoodTable (v0 : Int) (v1 : List (List Int × Int)) : Option (Bool) := tOf spec_GoodTable.mk (vlim E 59 (spec_GoodTable.c v0 v1))
def impl_isColumns.c (v0 : Int) : List Cell := vc (iL v0) :: []
def impl_isColumns.mk (b : Bool) : R := (⟨.one, [bL b]⟩, nn 1 ([]))
def impl_isColumns.un (r : R) : Bool := ((leafR r 0).dat .bool)
noncomputable def impl_isColumns (v0 : Int) : Option (Bool) := tOf impl_isColumns.mk (vlim E 88 (impl_isColumns.c v0))
def impl_within.c (v0 : Int) (v1 : Int) (v2 : Int) : List Cell := vc (iL v0) :: vc (iL v1) :: vc (iL v2) :: []
def impl_within.mk (b : Bool) : R := (⟨.one, [bL b]⟩, nn 3 ([]))
def impl_within.un (r : R) : Bool := ((leafR r 0).dat .bool)
noncomputable def impl_within (v0 : Int) (v1 : Int) (v2 : Int) : Option (Bool) := tOf impl_within.mk (vlim E 66 (impl_within.c v0 v1 v2))
def impl_isRowOf.c (v0 : List Int) (v1 : Int) : List Cell := ac [.d .fro (.sl (.int .i64)) v0] :: vc (iL v1) :: []
def impl_isRowOf.mk (b : Bool) : R := (⟨.one, [bL b]⟩, nn 2 ([]))
def impl_isRowOf.un (r : R) : Bool := ((leafR r 0).dat .bool)
noncomputable def impl_isRowOf (v0 : List Int) (v1 : Int) : Option (Bool) := tOf impl_isRowOf.mk (vlim E 91 (impl_isRowOf.c v0 v1))
def impl_GoodRow.c (v0 : List Int) : List Cell := ac [.d .fro (.sl (.int .i64)) v0] :: []
def impl_GoodRow.mk (b : Bool) : R := (⟨.one, [bL b]⟩, nn 1 ([]))
def impl_GoodRow.un (r : R) : Bool := ((leafR r 0).dat .bool)
noncomputable def impl_GoodRow (v0 : List Int) : Option (Bool) := tOf impl_GoodRow.mk (vlim E 127 (impl_GoodRow.c v0))
def impl_areAll_int_impl_isCell.c (v0 : List Int) : List Cell := vc (.d .fro (.sl (.int .i64)) v0) :: vc (.fn 119 []) :: []
def impl_areAll_int_impl_isCell.mk (b : Bool) : R := (⟨.one, [bL b]⟩, nn 2 ([]))
def impl_areAll_int_impl_isCell.un (r : R) : Bool := ((leafR r 0).dat .bool)
noncomputable def impl_areAll_int_impl_isCell (v0 : List Int) : Option (Bool) := tOf impl_areAll_int_impl_isCell.mk (vlim E 133 (impl_areAll_int_impl_isCell.c v0))
def slices_ContainsFunc_int_int_impl_areAll_int_1_impl_isCell.c (v0 : List Int) : List Cell := vc (.d .fro (.sl (.int .i64)) v0) :: vc (.fn 149 [.rp [.fn 119 []] 0]) :: []
def slices_ContainsFunc_int_int_impl_areAll_int_1_impl_isCell.mk (b : Bool) : R := (⟨.one, [bL b]⟩, nn 2 ([]))
def slices_ContainsFunc_int_int_impl_areAll_int_1_impl_isCell.un (r : R) : Bool := ((leafR r 0).dat .bool)
noncomputable def slices_ContainsFunc_int_int_impl_areAll_int_1_impl_isCell (v0 : List Int) : Option (Bool) := tOf slices_ContainsFunc_int_int_impl_areAll_int_1_impl_isCell.mk (vlim E 148 (slices_ContainsFunc_int_int_impl_areAll_int_1_impl_isCell.c v0))
def slices_IndexFunc_int_int_impl_areAll_int_1_impl_isCell.c (v0 : List Int) : List Cell := vc (.d .fro (.sl (.int .i64)) v0) :: vc (.fn 149 [.rp [.fn 119 []] 0]) :: []
def slices_IndexFunc_int_int_impl_areAll_int_1_impl_isCell.mk (b : Int) : R := (⟨.one, [iL b]⟩, nn 2 ([]))
def slices_IndexFunc_int_int_impl_areAll_int_1_impl_isCell.un (r : R) : Int := ((leafR r 0).dat (.int .i64))
noncomputable def slices_IndexFunc_int_int_impl_areAll_int_1_impl_isCell (v0 : List Int) : Option (Int) := tOf slices_IndexFunc_int_int_impl_areAll_int_1_impl_isCell.mk (vlim E 159 (slices_IndexFunc_int_int_impl_areAll_int_1_impl_isCell.c v0))
def impl_areAll_int_1_impl_isCell.c (v0 : Int) : List Cell := vc (iL v0) :: vc (.rp [.fn 119 []] 0) :: []
def impl_areAll_int_1_impl_isCell.mk (b : Bool) : R := (⟨.one, [bL b]⟩, nn 2 ([]))
def impl_areAll_int_1_impl_isCell.un (r : R) : Bool := ((leafR r 0).dat .bool)
noncomputable def impl_areAll_int_1_impl_isCell (v0 : Int) : Option (Bool) := tOf impl_areAll_int_1_impl_isCell.mk (vlim E 149 (impl_areAll_int_1_impl_isCell.c v0))
def impl_isCell.c (v0 : Int) : List Cell := vc (iL v0) :: []
def impl_isCell.mk (b : Bool) : R := (⟨.one, [bL b]⟩, nn 1 ([]))
def impl_isCell.un (r : R) : Bool := ((leafR r 0).dat .bool)
noncomputable def impl_isCell (v0 : Int) : Option (Bool) := tOf impl_isCell.mk (vlim E 119 (impl_isCell.c v0))
def impl_isWeight.c (v0 : Int) : List Cell := vc (iL v0) :: []
def impl_isWeight.mk (b : Bool) : R := (⟨.one, [bL b]⟩, nn 1 ([]))
def impl_isWeight.un (r : R) : Bool := ((leafR r 0).dat .bool)
noncomputable def impl_isWeight (v0 : Int) : Option (Bool) := tOf impl_isWeight.mk (vlim E 92 (impl_isWeight.c v0))
def impl_summed.c (v0 : Int) (v1 : List (List (List Int × Int))) : List Cell := vc (iL v0) :: vc (.d .fro (.sl (.sl (.pair (.sl (.int .i64)) (.int .i64)))) v1) :: []
def impl_summed.mk (b : Int × (List (List Int × Int))) : R := (⟨.agg, [iL b.1, .d .deep (.sl (.pair (.sl (.int .i64)) (.int .i64))) b.2]⟩, nn 2 ([]))
def impl_summed.un (r : R) : Int × (List (List Int × Int)) := ((leafR r 0).dat (.int .i64), (leafR r 1).dat (.sl (.pair (.sl (.int .i64)) (.int .i64))))
noncomputable def impl_summed (v0 : Int) (v1 : List (List (List Int × Int))) : Option (Int × (List (List Int × Int))) := tOf impl_summed.mk (vlim E 93 (impl_summed.c v0 v1))
def slices_Concat_impl_Weighted_impl_Weighted.c (v0 : List (List (List Int × Int))) : List Cell := vc (.d .fro (.sl (.sl (.pair (.sl (.int .i64)) (.int .i64)))) v0) :: []
def slices_Concat_impl_Weighted_impl_Weighted.mk (b : (List (List Int × Int))) : R := (⟨.one, [.d .sha (.sl (.pair (.sl (.int .i64)) (.int .i64))) b]⟩, nn 1 ([]))
def slices_Concat_impl_Weighted_impl_Weighted.un (r : R) : (List (List Int × Int)) := ((leafR r 0).dat (.sl (.pair (.sl (.int .i64)) (.int .i64))))
noncomputable def slices_Concat_impl_Weighted_impl_Weighted (v0 : List (List (List Int × Int))) : Option ((List (List Int × Int))) := tOf slices_Concat_impl_Weighted_impl_Weighted.mk (vlim E 128 (slices_Concat_impl_Weighted_impl_Weighted.c v0))
def slices_Grow_impl_Weighted_impl_Weighted_1b9.c (v0 : Int) : List Cell := vc (.nil (.pair (.sl (.int .i64)) (.int .i64))) :: vc (iL v0) :: []
def slices_Grow_impl_Weighted_impl_Weighted_1b9.mk (b : (List (List Int × Int))) : R := (⟨.one, [.d .deep (.sl (.pair (.sl (.int .i64)) (.int .i64))) b]⟩, nn 2 ([]))
def slices_Grow_impl_Weighted_impl_Weighted_1b9.un (r : R) : (List (List Int × Int)) := ((leafR r 0).dat (.sl (.pair (.sl (.int .i64)) (.int .i64))))
noncomputable def slices_Grow_impl_Weighted_impl_Weighted_1b9 (v0 : Int) : Option ((List (List Int × Int))) := tOf slices_Grow_impl_Weighted_impl_Weighted_1b9.mk (vlim E 146 (slices_Grow_impl_Weighted_impl_Weighted_1b9.c v0))
def slices_SortStableFunc_impl_Weighted_impl_Weighted_impl_summed_1_056.c (v0 : List (List Int × Int)) : List Cell := ⟨(.val .one), [.d .sha (.sl (.pair (.sl (.int .i64)) (.int .i64))) v0], true, false, false, 0, 0⟩ :: vc (.fn 130 []) :: []
def slices_SortStableFunc_impl_Weighted_impl_Weighted_impl_summed_1_056.mk (b : (List (List Int × Int))) : R := (⟨(.tup []), []⟩, ⟨(.val .one), [.d .sha (.sl (.pair (.sl (.int .i64)) (.int .i64))) b], true, false, false, 0, 0⟩ :: nn 1 ([]))
def slices_SortStableFunc_impl_Weighted_impl_Weighted_impl_summed_1_056.un (r : R) : (List (List Int × Int)) := ((leafF r 0 0).dat (.sl (.pair (.sl (.int .i64)) (.int .i64))))
noncomputable def slices_SortStableFunc_impl_Weighted_impl_Weighted_impl_summed_1_056 (v0 : List (List Int × Int)) : Option ((List (List Int × Int))) := tOf slices_SortStableFunc_impl_Weighted_impl_Weighted_impl_summed_1_056.mk (vlim E 129 (slices_SortStableFunc_impl_Weighted_impl_Weighted_impl_summed_1_056.c v0))
def slices_stableCmpFunc_impl_Weighted_impl_summed_1_6af.c (v0 : List (List Int × Int)) (v1 : Int) : List Cell := ⟨(.val .one), [.d .sha (.sl (.pair (.sl (.int .i64)) (.int .i64))) v0], true, false, false, 0, 0⟩ :: vc (iL v1) :: vc (.fn 130 []) :: []
def slices_stableCmpFunc_impl_Weighted_impl_summed_1_6af.mk (b : (List (List Int × Int))) : R := (⟨(.tup []), []⟩, ⟨(.val .one), [.d .sha (.sl (.pair (.sl (.int .i64)) (.int .i64))) b], true, false, false, 0, 0⟩ :: nn 2 ([]))
def slices_stableCmpFunc_impl_Weighted_impl_summed_1_6af.un (r : R) : (List (List Int × Int)) := ((leafF r 0 0).dat (.sl (.pair (.sl (.int .i64)) (.int .i64))))
noncomputable def slices_stableCmpFunc_impl_Weighted_impl_summed_1_6af (v0 : List (List Int × Int)) (v1 : Int) : Option ((List (List Int × Int))) := tOf slices_stableCmpFunc_impl_Weighted_impl_summed_1_6af.mk (vlim E 147 (slices_stableCmpFunc_impl_Weighted_impl_summed_1_6af.c v0 v1))
def slices_insertionSortCmpFunc_impl_Weighted_impl_summed_1_c6e.c (v0 : List (List Int × Int)) (v1 : Int) (v2 : Int) : List Cell := ⟨(.val .one), [.d .sha (.sl (.pair (.sl (.int .i64)) (.int .i64))) v0], true, false, false, 0, 0⟩ :: vc (iL v1) :: vc (iL v2) :: vc (.fn 130 []) :: []
def slices_insertionSortCmpFunc_impl_Weighted_impl_summed_1_c6e.mk (b : (List (List Int × Int))) : R := (⟨(.tup []), []⟩, ⟨(.val .one), [.d .sha (.sl (.pair (.sl (.int .i64)) (.int .i64))) b], true, false, false, 0, 0⟩ :: nn 3 ([]))
def slices_insertionSortCmpFunc_impl_Weighted_impl_summed_1_c6e.un (r : R) : (List (List Int × Int)) := ((leafF r 0 0).dat (.sl (.pair (.sl (.int .i64)) (.int .i64))))
noncomputable def slices_insertionSortCmpFunc_impl_Weighted_impl_summed_1_c6e (v0 : List (List Int × Int)) (v1 : Int) (v2 : Int) : Option ((List (List Int × Int))) := tOf slices_insertionSortCmpFunc_impl_Weighted_impl_summed_1_c6e.mk (vlim E 157 (slices_insertionSortCmpFunc_impl_Weighted_impl_summed_1_c6e.c v0 v1 v2))
def impl_summed_1.c (v0 : List Int) (v1 : Int) (v2 : List Int) (v3 : Int) : List Cell := ac [.d .fro (.sl (.int .i64)) v0, iL v1] :: ac [.d .fro (.sl (.int .i64)) v2, iL v3] :: []
def impl_summed_1.mk (b : Int) : R := (⟨.one, [iL b]⟩, nn 2 ([]))
def impl_summed_1.un (r : R) : Int := ((leafR r 0).dat (.int .i64))
noncomputable def impl_summed_1 (v0 : List Int) (v1 : Int) (v2 : List Int) (v3 : Int) : Option (Int) := tOf impl_summed_1.mk (vlim E 130 (impl_summed_1.c v0 v1 v2 v3))
def impl_compareRows.c (v0 : List Int) (v1 : List Int) : List Cell := ac [.d .fro (.sl (.int .i64)) v0] :: ac [.d .fro (.sl (.int .i64)) v1] :: []
def impl_compareRows.mk (b : Int) : R := (⟨.one, [iL b]⟩, nn 2 ([]))
def impl_compareRows.un (r : R) : Int := ((leafR r 0).dat (.int .i64))
noncomputable def impl_compareRows (v0 : List Int) (v1 : List Int) : Option (Int) := tOf impl_compareRows.mk (vlim E 108 (impl_compareRows.c v0 v1))
def slices_Compare_int_int.c (v0 : List Int) (v1 : List Int) : List Cell := vc (.d .fro (.sl (.int .i64)) v0) :: vc (.d .fro (.sl (.int .i64)) v1) :: []
def slices_Compare_int_int.mk (b : Int) : R := (⟨.one, [iL b]⟩, nn 2 ([]))
def slices_Compare_int_int.un (r : R) : Int := ((leafR r 0).dat (.int .i64))
noncomputable def slices_Compare_int_int (v0 : List Int) (v1 : List Int) : Option (Int) := tOf slices_Compare_int_int.mk (vlim E 141 (slices_Compare_int_int.c v0 v1))
def cmp_Compare_int.c (v0 : Int) (v1 : Int) : List Cell := vc (iL v0) :: vc (iL v1) :: []
def cmp_Compare_int.mk (b : Int) : R := (⟨.one, [iL b]⟩, nn 2 ([]))
def cmp_Compare_int.un (r : R) : Int := ((leafR r 0).dat (.int .i64))
noncomputable def cmp_Compare_int (v0 : Int) (v1 : Int) : Option (Int) := tOf cmp_Compare_int.mk (vlim E 155 (cmp_Compare_int.c v0 v1))
def cmp_isNaN_int.c (v0 : Int) : List Cell := vc (iL v0) :: []
def cmp_isNaN_int.mk (b : Bool) : R := (⟨.one, [bL b]⟩, nn 1 ([]))
def cmp_isNaN_int.un (r : R) : Bool := ((leafR r 0).dat .bool)
noncomputable def cmp_isNaN_int (v0 : Int) : Option (Bool) := tOf cmp_isNaN_int.mk (vlim E 163 (cmp_isNaN_int.c v0))
def slices_symMergeCmpFunc_impl_Weighted_impl_summed_1_70b.c (v0 : List (List Int × Int)) (v1 : Int) (v2 : Int) (v3 : Int) : List Cell := ⟨(.val .one), [.d .sha (.sl (.pair (.sl (.int .i64)) (.int .i64))) v0], true, false, false, 0, 0⟩ :: vc (iL v1) :: vc (iL v2) :: vc (iL v3) :: vc (.fn 130 []) :: []
def slices_symMergeCmpFunc_impl_Weighted_impl_summed_1_70b.mk (b : (List (List Int × Int))) : R := (⟨(.tup []), []⟩, ⟨(.val .one), [.d .sha (.sl (.pair (.sl (.int .i64)) (.int .i64))) b], true, false, false, 0, 0⟩ :: nn 4 ([]))
def slices_symMergeCmpFunc_impl_Weighted_impl_summed_1_70b.un (r : R) : (List (List Int × Int)) := ((leafF r 0 0).dat (.sl (.pair (.sl (.int .i64)) (.int .i64))))
noncomputable def slices_symMergeCmpFunc_impl_Weighted_impl_summed_1_70b (v0 : List (List Int × Int)) (v1 : Int) (v2 : Int) (v3 : Int) : Option ((List (List Int × Int))) := tOf slices_symMergeCmpFunc_impl_Weighted_impl_summed_1_70b.mk (vlim E 158 (slices_symMergeCmpFunc_impl_Weighted_impl_summed_1_70b.c v0 v1 v2 v3))
def slices_rotateCmpFunc_impl_Weighted_impl_summed_1_70b.c (v0 : List (List Int × Int)) (v1 : Int) (v2 : Int) (v3 : Int) : List Cell := ⟨(.val .one), [.d .sha (.sl (.pair (.sl (.int .i64)) (.int .i64))) v0], true, false, false, 0, 0⟩ :: vc (iL v1) :: vc (iL v2) :: vc (iL v3) :: vc (.fn 130 []) :: []
def slices_rotateCmpFunc_impl_Weighted_impl_summed_1_70b.mk (b : (List (List Int × Int))) : R := (⟨(.tup []), []⟩, ⟨(.val .one), [.d .sha (.sl (.pair (.sl (.int .i64)) (.int .i64))) b], true, false, false, 0, 0⟩ :: nn 4 ([]))
def slices_rotateCmpFunc_impl_Weighted_impl_summed_1_70b.un (r : R) : (List (List Int × Int)) := ((leafF r 0 0).dat (.sl (.pair (.sl (.int .i64)) (.int .i64))))
noncomputable def slices_rotateCmpFunc_impl_Weighted_impl_summed_1_70b (v0 : List (List Int × Int)) (v1 : Int) (v2 : Int) (v3 : Int) : Option ((List (List Int × Int))) := tOf slices_rotateCmpFunc_impl_Weighted_impl_summed_1_70b.mk (vlim E 164 (slices_rotateCmpFunc_impl_Weighted_impl_summed_1_70b.c v0 v1 v2 v3))
def slices_swapRangeCmpFunc_impl_Weighted_impl_summed_1_70b.c (v0 : List (List Int × Int)) (v1 : Int) (v2 : Int) (v3 : Int) : List Cell := ⟨(.val .one), [.d .sha (.sl (.pair (.sl (.int .i64)) (.int .i64))) v0], true, false, false, 0, 0⟩ :: vc (iL v1) :: vc (iL v2) :: vc (iL v3) :: vc (.fn 130 []) :: []
def slices_swapRangeCmpFunc_impl_Weighted_impl_summed_1_70b.mk (b : (List (List Int × Int))) : R := (⟨(.tup []), []⟩, ⟨(.val .one), [.d .sha (.sl (.pair (.sl (.int .i64)) (.int .i64))) b], true, false, false, 0, 0⟩ :: nn 4 ([]))
def slices_swapRangeCmpFunc_impl_Weighted_impl_summed_1_70b.un (r : R) : (List (List Int × Int)) := ((leafF r 0 0).dat (.sl (.pair (.sl (.int .i64)) (.int .i64))))
noncomputable def slices_swapRangeCmpFunc_impl_Weighted_impl_summed_1_70b (v0 : List (List Int × Int)) (v1 : Int) (v2 : Int) (v3 : Int) : Option ((List (List Int × Int))) := tOf slices_swapRangeCmpFunc_impl_Weighted_impl_summed_1_70b.mk (vlim E 165 (slices_swapRangeCmpFunc_impl_Weighted_impl_summed_1_70b.c v0 v1 v2 v3))
def impl_Row_own.c (v0 : List Int) : List Cell := ac [.d .fro (.sl (.int .i64)) v0] :: []
def impl_Row_own.mk (b : (List Int)) : R := (⟨.agg, [.d .deep (.sl (.int .i64)) b]⟩, nn 1 ([]))
def impl_Row_own.un (r : R) : (List Int) := ((leafR r 0).dat (.sl (.int .i64)))
noncomputable def impl_Row_own (v0 : List Int) : Option ((List Int)) := tOf impl_Row_own.mk (vlim E 109 (impl_Row_own.c v0))
def slices_Clone_int_int.c (v0 : List Int) : List Cell := vc (.d .fro (.sl (.int .i64)) v0) :: []
def slices_Clone_int_int.mk (b : (List Int)) : R := (⟨.one, [.d .deep (.sl (.int .i64)) b]⟩, nn 1 ([]))
def slices_Clone_int_int.un (r : R) : (List Int) := ((leafR r 0).dat (.sl (.int .i64)))
noncomputable def slices_Clone_int_int (v0 : List Int) : Option ((List Int)) := tOf slices_Clone_int_int.mk (vlim E 142 (slices_Clone_int_int.c v0))
def impl_goodOrNone_467.c (v0 : Int) (v1 : List (List Int × Int)) : List Cell := ac [iL v0, .d .deep (.sl (.pair (.sl (.int .i64)) (.int .i64))) v1] :: []
def impl_goodOrNone_467.mk (b : Int × (List (List Int × Int)) × Bool) : R := (⟨(.tup [some 2, none]), [iL b.1, .d .deep (.sl (.pair (.sl (.int .i64)) (.int .i64))) b.2.1, bL b.2.2]⟩, nn 1 ([]))
def impl_goodOrNone_467.un (r : R) : Int × (List (List Int × Int)) × Bool := ((leafR r 0).dat (.int .i64), (leafR r 1).dat (.sl (.pair (.sl (.int .i64)) (.int .i64))), (leafR r 2).dat .bool)
noncomputable def impl_goodOrNone_467 (v0 : Int) (v1 : List (List Int × Int)) : Option (Int × (List (List Int × Int)) × Bool) := tOf impl_goodOrNone_467.mk (vlim E 67 (impl_goodOrNone_467.c v0 v1))
def impl_GoodTable.c (v0 : Int) (v1 : List (List Int × Int)) : List Cell := ac [iL v0, .d .fro (.sl (.pair (.sl (.int .i64)) (.int .i64))) v1] :: []
def impl_GoodTable.mk (b : Bool) : R := (⟨.one, [bL b]⟩, nn 1 ([]))
def impl_GoodTable.un (r : R) : Bool := ((leafR r 0).dat .bool)
noncomputable def impl_GoodTable (v0 : Int) (v1 : List (List Int × Int)) : Option (Bool) := tOf impl_GoodTable.mk (vlim E 62 (impl_GoodTable.c v0 v1))
def laws_eqTable.c (v0 : Int) (v1 : List (List Int × Int)) (v2 : Int) (v3 : List (List Int × Int)) : List Cell := ac [iL v0, .d .fro (.sl (.pair (.sl (.int .i64)) (.int .i64))) v1] :: ac [iL v2, .d .fro (.sl (.pair (.sl (.int .i64)) (.int .i64))) v3] :: []
def laws_eqTable.mk (b : Bool) : R := (⟨.one, [bL b]⟩, nn 2 ([]))
def laws_eqTable.un (r : R) : Bool := ((leafR r 0).dat .bool)
noncomputable def laws_eqTable (v0 : Int) (v1 : List (List Int × Int)) (v2 : Int) (v3 : List (List Int × Int)) : Option (Bool) := tOf laws_eqTable.mk (vlim E 19 (laws_eqTable.c v0 v1 v2 v3))
def laws_eqWeightedS.c (v0 : List (List Int × Int)) (v1 : List (List Int × Int)) : List Cell := vc (.d .fro (.sl (.pair (.sl (.int .i64)) (.int .i64))) v0) :: vc (.d .fro (.sl (.pair (.sl (.int .i64)) (.int .i64))) v1) :: []
def laws_eqWeightedS.mk (b : Bool) : R := (⟨.one, [bL b]⟩, nn 2 ([]))
def laws_eqWeightedS.un (r : R) : Bool := ((leafR r 0).dat .bool)
noncomputable def laws_eqWeightedS (v0 : List (List Int × Int)) (v1 : List (List Int × Int)) : Option (Bool) := tOf laws_eqWeightedS.mk (vlim E 40 (laws_eqWeightedS.c v0 v1))
def laws_eqWeighted.c (v0 : List Int) (v1 : Int) (v2 : List Int) (v3 : Int) : List Cell := ac [.d .fro (.sl (.int .i64)) v0, iL v1] :: ac [.d .fro (.sl (.int .i64)) v2, iL v3] :: []
def laws_eqWeighted.mk (b : Bool) : R := (⟨.one, [bL b]⟩, nn 2 ([]))
def laws_eqWeighted.un (r : R) : Bool := ((leafR r 0).dat .bool)
noncomputable def laws_eqWeighted (v0 : List Int) (v1 : Int) (v2 : List Int) (v3 : Int) : Option (Bool) := tOf laws_eqWeighted.mk (vlim E 94 (laws_eqWeighted.c v0 v1 v2 v3))
def laws_eqRow.c (v0 : List Int) (v1 : List Int) : List Cell := ac [.d .fro (.sl (.int .i64)) v0] :: ac [.d .fro (.sl (.int .i64)) v1] :: []
def laws_eqRow.mk (b : Bool) : R := (⟨.one, [bL b]⟩, nn 2 ([]))
def laws_eqRow.un (r : R) : Bool := ((leafR r 0).dat .bool)
noncomputable def laws_eqRow (v0 : List Int) (v1 : List Int) : Option (Bool) := tOf laws_eqRow.mk (vlim E 131 (laws_eqRow.c v0 v1))
def laws_eqIntS.c (v0 : List Int) (v1 : List Int) : List Cell := vc (.d .fro (.sl (.int .i64)) v0) :: vc (.d .fro (.sl (.int .i64)) v1) :: []
def laws_eqIntS.mk (b : Bool) : R := (⟨.one, [bL b]⟩, nn 2 ([]))
def laws_eqIntS.un (r : R) : Bool := ((leafR r 0).dat .bool)
noncomputable def laws_eqIntS (v0 : List Int) (v1 : List Int) : Option (Bool) := tOf laws_eqIntS.mk (vlim E 47 (laws_eqIntS.c v0 v1))
def laws_markWeightedS_d97.c (v0 : List (List Int × Int)) (v1 : Int) : List Cell := ⟨(.val .one), [.d .deep (.sl (.pair (.sl (.int .i64)) (.int .i64))) v0], true, false, false, 0, 0⟩ :: vc (iL v1) :: []
def laws_markWeightedS_d97.mk (b : Int × (List (List Int × Int))) : R := (⟨.one, [iL b.1]⟩, ⟨(.val .one), [.d .deep (.sl (.pair (.sl (.int .i64)) (.int .i64))) b.2], true, false, false, 0, 0⟩ :: nn 1 ([]))
def laws_markWeightedS_d97.un (r : R) : Int × (List (List Int × Int)) := ((leafR r 0).dat (.int .i64), (leafF r 0 0).dat (.sl (.pair (.sl (.int .i64)) (.int .i64))))
noncomputable def laws_markWeightedS_d97 (v0 : List (List Int × Int)) (v1 : Int) : Option (Int × (List (List Int × Int))) := tOf laws_markWeightedS_d97.mk (vlim E 41 (laws_markWeightedS_d97.c v0 v1))
def laws_markIntS_83f.c (v0 : List Int) (v1 : Int) : List Cell := ⟨(.val .one), [.d .deep (.sl (.int .i64)) v0], true, false, false, 0, 0⟩ :: vc (iL v1) :: []
def laws_markIntS_83f.mk (b : Int × (List Int)) : R := (⟨.one, [iL b.1]⟩, ⟨(.val .one), [.d .deep (.sl (.int .i64)) b.2], true, false, false, 0, 0⟩ :: nn 1 ([]))
def laws_markIntS_83f.un (r : R) : Int × (List Int) := ((leafR r 0).dat (.int .i64), (leafF r 0 0).dat (.sl (.int .i64)))
noncomputable def laws_markIntS_83f (v0 : List Int) (v1 : Int) : Option (Int × (List Int)) := tOf laws_markIntS_83f.mk (vlim E 48 (laws_markIntS_83f.c v0 v1))
def laws_markTable_d7a.c (v0 : Int) (v1 : List (List Int × Int)) (v2 : Int) : List Cell := ⟨(.val .agg), [iL v0, .d .deep (.sl (.pair (.sl (.int .i64)) (.int .i64))) v1], true, false, false, 0, 0⟩ :: vc (iL v2) :: []
def laws_markTable_d7a.mk (b : Int × Int × (List (List Int × Int))) : R := (⟨.one, [iL b.1]⟩, ⟨(.val .agg), [iL b.2.1, .d .deep (.sl (.pair (.sl (.int .i64)) (.int .i64))) b.2.2], true, false, false, 0, 0⟩ :: nn 1 ([]))
def laws_markTable_d7a.un (r : R) : Int × Int × (List (List Int × Int)) := ((leafR r 0).dat (.int .i64), (leafF r 0 0).dat (.int .i64), (leafF r 0 1).dat (.sl (.pair (.sl (.int .i64)) (.int .i64))))
noncomputable def laws_markTable_d7a (v0 : Int) (v1 : List (List Int × Int)) (v2 : Int) : Option (Int × Int × (List (List Int × Int))) := tOf laws_markTable_d7a.mk (vlim E 20 (laws_markTable_d7a.c v0 v1 v2))
def laws_heldTable.c (v0 : Int) (v1 : List (List Int × Int)) (v2 : Int) : List Cell := ac [iL v0, .d .fro (.sl (.pair (.sl (.int .i64)) (.int .i64))) v1] :: vc (iL v2) :: []
def laws_heldTable.mk (b : Int) : R := (⟨.one, [iL b]⟩, nn 2 ([]))
def laws_heldTable.un (r : R) : Int := ((leafR r 0).dat (.int .i64))
noncomputable def laws_heldTable (v0 : Int) (v1 : List (List Int × Int)) (v2 : Int) : Option (Int) := tOf laws_heldTable.mk (vlim E 21 (laws_heldTable.c v0 v1 v2))
def laws_heldWeightedS.c (v0 : List (List Int × Int)) (v1 : Int) : List Cell := vc (.d .fro (.sl (.pair (.sl (.int .i64)) (.int .i64))) v0) :: vc (iL v1) :: []
def laws_heldWeightedS.mk (b : Int) : R := (⟨.one, [iL b]⟩, nn 2 ([]))
def laws_heldWeightedS.un (r : R) : Int := ((leafR r 0).dat (.int .i64))
noncomputable def laws_heldWeightedS (v0 : List (List Int × Int)) (v1 : Int) : Option (Int) := tOf laws_heldWeightedS.mk (vlim E 64 (laws_heldWeightedS.c v0 v1))
def laws_heldIntS.c (v0 : List Int) (v1 : Int) : List Cell := vc (.d .fro (.sl (.int .i64)) v0) :: vc (iL v1) :: []
def laws_heldIntS.mk (b : Int) : R := (⟨.one, [iL b]⟩, nn 2 ([]))
def laws_heldIntS.un (r : R) : Int := ((leafR r 0).dat (.int .i64))
noncomputable def laws_heldIntS (v0 : List Int) (v1 : Int) : Option (Int) := tOf laws_heldIntS.mk (vlim E 110 (laws_heldIntS.c v0 v1))
def laws_szTable.c (v0 : Int) (v1 : List (List Int × Int)) (v2 : Int) : List Cell := ac [iL v0, .d .fro (.sl (.pair (.sl (.int .i64)) (.int .i64))) v1] :: vc (iL v2) :: []
def laws_szTable.mk (b : Int) : R := (⟨.one, [iL b]⟩, nn 2 ([]))
def laws_szTable.un (r : R) : Int := ((leafR r 0).dat (.int .i64))
noncomputable def laws_szTable (v0 : Int) (v1 : List (List Int × Int)) (v2 : Int) : Option (Int) := tOf laws_szTable.mk (vlim E 15 (laws_szTable.c v0 v1 v2))
def laws_toTable.c (v0 : Int) (v1 : List (List Int × Int)) : List Cell := ac [iL v0, .d .fro (.sl (.pair (.sl (.int .i64)) (.int .i64))) v1] :: []
def laws_toTable.mk (b : Int × (List (List Int × Int))) : R := (⟨.agg, [iL b.1, .d .deep (.sl (.pair (.sl (.int .i64)) (.int .i64))) b.2]⟩, nn 1 ([]))
def laws_toTable.un (r : R) : Int × (List (List Int × Int)) := ((leafR r 0).dat (.int .i64), (leafR r 1).dat (.sl (.pair (.sl (.int .i64)) (.int .i64))))
noncomputable def laws_toTable (v0 : Int) (v1 : List (List Int × Int)) : Option (Int × (List (List Int × Int))) := tOf laws_toTable.mk (vlim E 17 (laws_toTable.c v0 v1))
def impl_isPlace.c (v0 : Int) (v1 : Int) : List Cell := vc (iL v0) :: vc (iL v1) :: []
def impl_isPlace.mk (b : Bool) : R := (⟨.one, [bL b]⟩, nn 2 ([]))
def impl_isPlace.un (r : R) : Bool := ((leafR r 0).dat .bool)
noncomputable def impl_isPlace (v0 : Int) (v1 : Int) : Option (Bool) := tOf impl_isPlace.mk (vlim E 118 (impl_isPlace.c v0 v1))
def impl_Row_picked.c (v0 : List Int) (v1 : List Int) : List Cell := ac [.d .fro (.sl (.int .i64)) v0] :: vc (.d .fro (.sl (.int .i64)) v1) :: []
def impl_Row_picked.mk (b : (List Int)) : R := (⟨.agg, [.d .deep (.sl (.int .i64)) b]⟩, nn 2 ([]))
def impl_Row_picked.un (r : R) : (List Int) := ((leafR r 0).dat (.sl (.int .i64)))
noncomputable def impl_Row_picked (v0 : List Int) (v1 : List Int) : Option ((List Int)) := tOf impl_Row_picked.mk (vlim E 135 (impl_Row_picked.c v0 v1))
def laws_FnExactCrossTables.c (v0 : Int) (v1 : List (List Int × Int)) (v2 : Int) (v3 : List (List Int × Int)) : List Cell := ac [iL v0, .d .fro (.sl (.pair (.sl (.int .i64)) (.int .i64))) v1] :: ac [iL v2, .d .fro (.sl (.pair (.sl (.int .i64)) (.int .i64))) v3] :: []
def laws_FnExactCrossTables.mk (b : Bool) : R := (⟨.one, [bL b]⟩, nn 2 ([]))
def laws_FnExactCrossTables.un (r : R) : Bool := ((leafR r 0).dat .bool)
noncomputable def laws_FnExactCrossTables (v0 : Int) (v1 : List (List Int × Int)) (v2 : Int) (v3 : List (List Int × Int)) : Option (Bool) := tOf laws_FnExactCrossTables.mk (vlim E 13 (laws_FnExactCrossTables.c v0 v1 v2 v3))
def spec_CrossTables.c (v0 : Int) (v1 : List (List Int × Int)) (v2 : Int) (v3 : List (List Int × Int)) : List Cell := ac [iL v0, .d .fro (.sl (.pair (.sl (.int .i64)) (.int .i64))) v1] :: ac [iL v2, .d .fro (.sl (.pair (.sl (.int .i64)) (.int .i64))) v3] :: []
def spec_CrossTables.mk (b : Int × (List (List Int × Int)) × Bool) : R := (⟨(.tup [some 2, none]), [iL b.1, .d .deep (.sl (.pair (.sl (.int .i64)) (.int .i64))) b.2.1, bL b.2.2]⟩, nn 2 ([]))
def spec_CrossTables.un (r : R) : Int × (List (List Int × Int)) × Bool := ((leafR r 0).dat (.int .i64), (leafR r 1).dat (.sl (.pair (.sl (.int .i64)) (.int .i64))), (leafR r 2).dat .bool)
noncomputable def spec_CrossTables (v0 : Int) (v1 : List (List Int × Int)) (v2 : Int) (v3 : List (List Int × Int)) : Option (Int × (List (List Int × Int)) × Bool) := tOf spec_CrossTables.mk (vlim E 51 (spec_CrossTables.c v0 v1 v2 v3))
def spec_JoinTables.c (v0 : Int) (v1 : List (List Int × Int)) (v2 : Int) (v3 : List (List Int × Int)) (v4 : List (List Int)) : List Cell := ac [iL v0, .d .fro (.sl (.pair (.sl (.int .i64)) (.int .i64))) v1] :: ac [iL v2, .d .fro (.sl (.pair (.sl (.int .i64)) (.int .i64))) v3] :: vc (.d .fro (.sl (.sl (.int .i64))) v4) :: []
def spec_JoinTables.mk (b : Int × (List (List Int × Int)) × Bool) : R := (⟨(.tup [some 2, none]), [iL b.1, .d .deep (.sl (.pair (.sl (.int .i64)) (.int .i64))) b.2.1, bL b.2.2]⟩, nn 3 ([]))
def spec_JoinTables.un (r : R) : Int × (List (List Int × Int)) × Bool := ((leafR r 0).dat (.int .i64), (leafR r 1).dat (.sl (.pair (.sl (.int .i64)) (.int .i64))), (leafR r 2).dat .bool)
noncomputable def spec_JoinTables (v0 : Int) (v1 : List (List Int × Int)) (v2 : Int) (v3 : List (List Int × Int)) (v4 : List (List Int)) : Option (Int × (List (List Int × Int)) × Bool) := tOf spec_JoinTables.mk (vlim E 54 (spec_JoinTables.c v0 v1 v2 v3 v4))
def spec_l1Pairs.c (v0 : List (List Int)) (v1 : Int) (v2 : Int) : List Cell := vc (.d .fro (.sl (.sl (.int .i64))) v0) :: vc (iL v1) :: vc (iL v2) :: []
def spec_l1Pairs.mk (b : Bool) : R := (⟨.one, [bL b]⟩, nn 3 ([]))
def spec_l1Pairs.un (r : R) : Bool := ((leafR r 0).dat .bool)
noncomputable def spec_l1Pairs (v0 : List (List Int)) (v1 : Int) (v2 : Int) : Option (Bool) := tOf spec_l1Pairs.mk (vlim E 101 (spec_l1Pairs.c v0 v1 v2))
def spec_l3Left.c (v0 : List (List Int)) (v1 : Int) : List Cell := vc (.d .fro (.sl (.sl (.int .i64))) v0) :: vc (iL v1) :: []
def spec_l3Left.mk (b : Int) : R := (⟨.one, [iL b]⟩, nn 2 ([]))
def spec_l3Left.un (r : R) : Int := ((leafR r 0).dat (.int .i64))
noncomputable def spec_l3Left (v0 : List (List Int)) (v1 : Int) : Option (Int) := tOf spec_l3Left.mk (vlim E 102 (spec_l3Left.c v0 v1))
def spec_l3Join.c (v0 : List (List Int × Int)) (v1 : List (List Int × Int)) (v2 : List (List Int)) : List Cell := vc (.d .fro (.sl (.pair (.sl (.int .i64)) (.int .i64))) v0) :: vc (.d .fro (.sl (.pair (.sl (.int .i64)) (.int .i64))) v1) :: vc (.d .fro (.sl (.sl (.int .i64))) v2) :: []
def spec_l3Join.mk (b : (List (List Int × Int))) : R := (⟨.one, [.d .sha (.sl (.pair (.sl (.int .i64)) (.int .i64))) b]⟩, nn 3 ([]))
def spec_l3Join.un (r : R) : (List (List Int × Int)) := ((leafR r 0).dat (.sl (.pair (.sl (.int .i64)) (.int .i64))))
noncomputable def spec_l3Join (v0 : List (List Int × Int)) (v1 : List (List Int × Int)) (v2 : List (List Int)) : Option ((List (List Int × Int))) := tOf spec_l3Join.mk (vlim E 103 (spec_l3Join.c v0 v1 v2))
def spec_l1Join.c (v0 : List Int) (v1 : List Int) (v2 : List (List Int)) : List Cell := ac [.d .fro (.sl (.int .i64)) v0] :: ac [.d .fro (.sl (.int .i64)) v1] :: vc (.d .fro (.sl (.sl (.int .i64))) v2) :: []
def spec_l1Join.mk (b : (List Int) × Bool) : R := (⟨(.tup [some 1, none]), [.d .fro (.sl (.int .i64)) b.1, bL b.2]⟩, nn 3 ([]))
def spec_l1Join.un (r : R) : (List Int) × Bool := ((leafR r 0).dat (.sl (.int .i64)), (leafR r 1).dat .bool)
noncomputable def spec_l1Join (v0 : List Int) (v1 : List Int) (v2 : List (List Int)) : Option ((List Int) × Bool) := tOf spec_l1Join.mk (vlim E 136 (spec_l1Join.c v0 v1 v2))
def impl_CrossTables.c (v0 : Int) (v1 : List (List Int × Int)) (v2 : Int) (v3 : List (List Int × Int)) : List Cell := ac [iL v0, .d .fro (.sl (.pair (.sl (.int .i64)) (.int .i64))) v1] :: ac [iL v2, .d .fro (.sl (.pair (.sl (.int .i64)) (.int .i64))) v3] :: []
def impl_CrossTables.mk (b : Int × (List (List Int × Int)) × Bool) : R := (⟨(.tup [some 2, none]), [iL b.1, .d .deep (.sl (.pair (.sl (.int .i64)) (.int .i64))) b.2.1, bL b.2.2]⟩, nn 2 ([]))
def impl_CrossTables.un (r : R) : Int × (List (List Int × Int)) × Bool := ((leafR r 0).dat (.int .i64), (leafR r 1).dat (.sl (.pair (.sl (.int .i64)) (.int .i64))), (leafR r 2).dat .bool)
noncomputable def impl_CrossTables (v0 : Int) (v1 : List (List Int × Int)) (v2 : Int) (v3 : List (List Int × Int)) : Option (Int × (List (List Int × Int)) × Bool) := tOf impl_CrossTables.mk (vlim E 52 (impl_CrossTables.c v0 v1 v2 v3))
def impl_JoinTables.c (v0 : Int) (v1 : List (List Int × Int)) (v2 : Int) (v3 : List (List Int × Int)) (v4 : List (List Int)) : List Cell := ac [iL v0, .d .fro (.sl (.pair (.sl (.int .i64)) (.int .i64))) v1] :: ac [iL v2, .d .fro (.sl (.pair (.sl (.int .i64)) (.int .i64))) v3] :: vc (.d .fro (.sl (.sl (.int .i64))) v4) :: []
def impl_JoinTables.mk (b : Int × (List (List Int × Int)) × Bool) : R := (⟨(.tup [some 2, none]), [iL b.1, .d .deep (.sl (.pair (.sl (.int .i64)) (.int .i64))) b.2.1, bL b.2.2]⟩, nn 3 ([]))
def impl_JoinTables.un (r : R) : Int × (List (List Int × Int)) × Bool := ((leafR r 0).dat (.int .i64), (leafR r 1).dat (.sl (.pair (.sl (.int .i64)) (.int .i64))), (leafR r 2).dat .bool)
noncomputable def impl_JoinTables (v0 : Int) (v1 : List (List Int × Int)) (v2 : Int) (v3 : List (List Int × Int)) (v4 : List (List Int)) : Option (Int × (List (List Int × Int)) × Bool) := tOf impl_JoinTables.mk (vlim E 56 (impl_JoinTables.c v0 v1 v2 v3 v4))
def impl_arePairs.c (v0 : List (List Int)) (v1 : Int) (v2 : Int) : List Cell := vc (.d .fro (.sl (.sl (.int .i64))) v0) :: vc (iL v1) :: vc (iL v2) :: []
def impl_arePairs.mk (b : Bool) : R := (⟨.one, [bL b]⟩, nn 3 ([]))
def impl_arePairs.un (r : R) : Bool := ((leafR r 0).dat .bool)
noncomputable def impl_arePairs (v0 : List (List Int)) (v1 : Int) (v2 : Int) : Option (Bool) := tOf impl_arePairs.mk (vlim E 104 (impl_arePairs.c v0 v1 v2))
def impl_areAll_int_impl_arePairs_1.c (v0 : List (List Int)) (v1 : Int) (v2 : Int) : List Cell := vc (.d .fro (.sl (.sl (.int .i64))) v0) :: vc (.fn 138 [.rp [iL v1] 0, .rp [iL v2] 0]) :: []
def impl_areAll_int_impl_arePairs_1.mk (b : Bool) : R := (⟨.one, [bL b]⟩, nn 2 ([]))
def impl_areAll_int_impl_arePairs_1.un (r : R) : Bool := ((leafR r 0).dat .bool)
noncomputable def impl_areAll_int_impl_arePairs_1 (v0 : List (List Int)) (v1 : Int) (v2 : Int) : Option (Bool) := tOf impl_areAll_int_impl_arePairs_1.mk (vlim E 137 (impl_areAll_int_impl_arePairs_1.c v0 v1 v2))
def slices_ContainsFunc_int_int_impl_areAll_int_1_impl_arePairs_1.c (v0 : List (List Int)) (v1 : Int) (v2 : Int) : List Cell := vc (.d .fro (.sl (.sl (.int .i64))) v0) :: vc (.fn 151 [.rp [.fn 138 [.rp [iL v1] 0, .rp [iL v2] 0]] 0]) :: []
def slices_ContainsFunc_int_int_impl_areAll_int_1_impl_arePairs_1.mk (b : Bool) : R := (⟨.one, [bL b]⟩, nn 2 ([]))
def slices_ContainsFunc_int_int_impl_areAll_int_1_impl_arePairs_1.un (r : R) : Bool := ((leafR r 0).dat .bool)
noncomputable def slices_ContainsFunc_int_int_impl_areAll_int_1_impl_arePairs_1 (v0 : List (List Int)) (v1 : Int) (v2 : Int) : Option (Bool) := tOf slices_ContainsFunc_int_int_impl_areAll_int_1_impl_arePairs_1.mk (vlim E 150 (slices_ContainsFunc_int_int_impl_areAll_int_1_impl_arePairs_1.c v0 v1 v2))
def slices_IndexFunc_int_int_impl_areAll_int_1_impl_arePairs_1.c (v0 : List (List Int)) (v1 : Int) (v2 : Int) : List Cell := vc (.d .fro (.sl (.sl (.int .i64))) v0) :: vc (.fn 151 [.rp [.fn 138 [.rp [iL v1] 0, .rp [iL v2] 0]] 0]) :: []
def slices_IndexFunc_int_int_impl_areAll_int_1_impl_arePairs_1.mk (b : Int) : R := (⟨.one, [iL b]⟩, nn 2 ([]))
def slices_IndexFunc_int_int_impl_areAll_int_1_impl_arePairs_1.un (r : R) : Int := ((leafR r 0).dat (.int .i64))
noncomputable def slices_IndexFunc_int_int_impl_areAll_int_1_impl_arePairs_1 (v0 : List (List Int)) (v1 : Int) (v2 : Int) : Option (Int) := tOf slices_IndexFunc_int_int_impl_areAll_int_1_impl_arePairs_1.mk (vlim E 160 (slices_IndexFunc_int_int_impl_areAll_int_1_impl_arePairs_1.c v0 v1 v2))
def impl_areAll_int_1_impl_arePairs_1.c (v0 : List Int) (v1 : Int) (v2 : Int) : List Cell := vc (.d .fro (.sl (.int .i64)) v0) :: vc (.rp [.fn 138 [.rp [iL v1] 0, .rp [iL v2] 0]] 0) :: []
def impl_areAll_int_1_impl_arePairs_1.mk (b : Bool) : R := (⟨.one, [bL b]⟩, nn 2 ([]))
def impl_areAll_int_1_impl_arePairs_1.un (r : R) : Bool := ((leafR r 0).dat .bool)
noncomputable def impl_areAll_int_1_impl_arePairs_1 (v0 : List Int) (v1 : Int) (v2 : Int) : Option (Bool) := tOf impl_areAll_int_1_impl_arePairs_1.mk (vlim E 151 (impl_areAll_int_1_impl_arePairs_1.c v0 v1 v2))
def impl_arePairs_1.c (v0 : List Int) (v1 : Int) (v2 : Int) : List Cell := vc (.d .fro (.sl (.int .i64)) v0) :: vc (.rp [iL v1] 0) :: vc (.rp [iL v2] 0) :: []
def impl_arePairs_1.mk (b : Bool) : R := (⟨.one, [bL b]⟩, nn 3 ([]))
def impl_arePairs_1.un (r : R) : Bool := ((leafR r 0).dat .bool)
noncomputable def impl_arePairs_1 (v0 : List Int) (v1 : Int) (v2 : Int) : Option (Bool) := tOf impl_arePairs_1.mk (vlim E 138 (impl_arePairs_1.c v0 v1 v2))
def impl_Table_join.c (v0 : Int) (v1 : List (List Int × Int)) (v2 : Int) (v3 : List (List Int × Int)) (v4 : List (List Int)) : List Cell := ac [iL v0, .d .fro (.sl (.pair (.sl (.int .i64)) (.int .i64))) v1] :: ac [iL v2, .d .fro (.sl (.pair (.sl (.int .i64)) (.int .i64))) v3] :: vc (.d .fro (.sl (.sl (.int .i64))) v4) :: []
def impl_Table_join.mk (b : Int × (List (List Int × Int))) : R := (⟨.agg, [iL b.1, .d .deep (.sl (.pair (.sl (.int .i64)) (.int .i64))) b.2]⟩, nn 3 ([]))
def impl_Table_join.un (r : R) : Int × (List (List Int × Int)) := ((leafR r 0).dat (.int .i64), (leafR r 1).dat (.sl (.pair (.sl (.int .i64)) (.int .i64))))
noncomputable def impl_Table_join (v0 : Int) (v1 : List (List Int × Int)) (v2 : Int) (v3 : List (List Int × Int)) (v4 : List (List Int)) : Option (Int × (List (List Int × Int))) := tOf impl_Table_join.mk (vlim E 105 (impl_Table_join.c v0 v1 v2 v3 v4))
def impl_joined.c (v0 : List Int) (v1 : List Int) (v2 : List (List Int)) : List Cell := ac [.d .fro (.sl (.int .i64)) v0] :: ac [.d .fro (.sl (.int .i64)) v1] :: vc (.d .fro (.sl (.sl (.int .i64))) v2) :: []
def impl_joined.mk (b : (List Int) × Bool) : R := (⟨(.tup [some 1, none]), [.d .deep (.sl (.int .i64)) b.1, bL b.2]⟩, nn 3 ([]))
def impl_joined.un (r : R) : (List Int) × Bool := ((leafR r 0).dat (.sl (.int .i64)), (leafR r 1).dat .bool)
noncomputable def impl_joined (v0 : List Int) (v1 : List Int) (v2 : List (List Int)) : Option ((List Int) × Bool) := tOf impl_joined.mk (vlim E 139 (impl_joined.c v0 v1 v2))
def impl_areAll_int_impl_joined_1.c (v0 : List (List Int)) (v1 : List Int) (v2 : List Int) : List Cell := vc (.d .fro (.sl (.sl (.int .i64))) v0) :: vc (.fn 152 [.rp [.d .fro (.sl (.int .i64)) v1] 0, .rp [.d .fro (.sl (.int .i64)) v2] 0]) :: []
def impl_areAll_int_impl_joined_1.mk (b : Bool) : R := (⟨.one, [bL b]⟩, nn 2 ([]))
def impl_areAll_int_impl_joined_1.un (r : R) : Bool := ((leafR r 0).dat .bool)
noncomputable def impl_areAll_int_impl_joined_1 (v0 : List (List Int)) (v1 : List Int) (v2 : List Int) : Option (Bool) := tOf impl_areAll_int_impl_joined_1.mk (vlim E 137 (impl_areAll_int_impl_joined_1.c v0 v1 v2))
def slices_ContainsFunc_int_int_impl_areAll_int_1_impl_joined_1.c (v0 : List (List Int)) (v1 : List Int) (v2 : List Int) : List Cell := vc (.d .fro (.sl (.sl (.int .i64))) v0) :: vc (.fn 151 [.rp [.fn 152 [.rp [.d .fro (.sl (.int .i64)) v1] 0, .rp [.d .fro (.sl (.int .i64)) v2] 0]] 0]) :: []
def slices_ContainsFunc_int_int_impl_areAll_int_1_impl_joined_1.mk (b : Bool) : R := (⟨.one, [bL b]⟩, nn 2 ([]))
def slices_ContainsFunc_int_int_impl_areAll_int_1_impl_joined_1.un (r : R) : Bool := ((leafR r 0).dat .bool)
noncomputable def slices_ContainsFunc_int_int_impl_areAll_int_1_impl_joined_1 (v0 : List (List Int)) (v1 : List Int) (v2 : List Int) : Option (Bool) := tOf slices_ContainsFunc_int_int_impl_areAll_int_1_impl_joined_1.mk (vlim E 150 (slices_ContainsFunc_int_int_impl_areAll_int_1_impl_joined_1.c v0 v1 v2))
def slices_IndexFunc_int_int_impl_areAll_int_1_impl_joined_1.c (v0 : List (List Int)) (v1 : List Int) (v2 : List Int) : List Cell := vc (.d .fro (.sl (.sl (.int .i64))) v0) :: vc (.fn 151 [.rp [.fn 152 [.rp [.d .fro (.sl (.int .i64)) v1] 0, .rp [.d .fro (.sl (.int .i64)) v2] 0]] 0]) :: []
def slices_IndexFunc_int_int_impl_areAll_int_1_impl_joined_1.mk (b : Int) : R := (⟨.one, [iL b]⟩, nn 2 ([]))
def slices_IndexFunc_int_int_impl_areAll_int_1_impl_joined_1.un (r : R) : Int := ((leafR r 0).dat (.int .i64))
noncomputable def slices_IndexFunc_int_int_impl_areAll_int_1_impl_joined_1 (v0 : List (List Int)) (v1 : List Int) (v2 : List Int) : Option (Int) := tOf slices_IndexFunc_int_int_impl_areAll_int_1_impl_joined_1.mk (vlim E 160 (slices_IndexFunc_int_int_impl_areAll_int_1_impl_joined_1.c v0 v1 v2))
def impl_areAll_int_1_impl_joined_1.c (v0 : List Int) (v1 : List Int) (v2 : List Int) : List Cell := vc (.d .fro (.sl (.int .i64)) v0) :: vc (.rp [.fn 152 [.rp [.d .fro (.sl (.int .i64)) v1] 0, .rp [.d .fro (.sl (.int .i64)) v2] 0]] 0) :: []
def impl_areAll_int_1_impl_joined_1.mk (b : Bool) : R := (⟨.one, [bL b]⟩, nn 2 ([]))
def impl_areAll_int_1_impl_joined_1.un (r : R) : Bool := ((leafR r 0).dat .bool)
noncomputable def impl_areAll_int_1_impl_joined_1 (v0 : List Int) (v1 : List Int) (v2 : List Int) : Option (Bool) := tOf impl_areAll_int_1_impl_joined_1.mk (vlim E 151 (impl_areAll_int_1_impl_joined_1.c v0 v1 v2))
def impl_joined_1.c (v0 : List Int) (v1 : List Int) (v2 : List Int) : List Cell := vc (.d .fro (.sl (.int .i64)) v0) :: vc (.rp [.d .fro (.sl (.int .i64)) v1] 0) :: vc (.rp [.d .fro (.sl (.int .i64)) v2] 0) :: []
def impl_joined_1.mk (b : Bool) : R := (⟨.one, [bL b]⟩, nn 3 ([]))
def impl_joined_1.un (r : R) : Bool := ((leafR r 0).dat .bool)
noncomputable def impl_joined_1 (v0 : List Int) (v1 : List Int) (v2 : List Int) : Option (Bool) := tOf impl_joined_1.mk (vlim E 152 (impl_joined_1.c v0 v1 v2))
def impl_unpaired.c (v0 : Int) (v1 : List (List Int)) : List Cell := vc (iL v0) :: vc (.d .fro (.sl (.sl (.int .i64))) v1) :: []
def impl_unpaired.mk (b : (List Int)) : R := (⟨.one, [.d .deep (.sl (.int .i64)) b]⟩, nn 2 ([]))
def impl_unpaired.un (r : R) : (List Int) := ((leafR r 0).dat (.sl (.int .i64)))
noncomputable def impl_unpaired (v0 : Int) (v1 : List (List Int)) : Option ((List Int)) := tOf impl_unpaired.mk (vlim E 154 (impl_unpaired.c v0 v1))
def slices_ContainsFunc_int_int_impl_unpaired_1.c (v0 : List (List Int)) (v1 : Int) : List Cell := vc (.d .fro (.sl (.sl (.int .i64))) v0) :: vc (.fn 162 [.rp [iL v1] 0]) :: []
def slices_ContainsFunc_int_int_impl_unpaired_1.mk (b : Bool) : R := (⟨.one, [bL b]⟩, nn 2 ([]))
def slices_ContainsFunc_int_int_impl_unpaired_1.un (r : R) : Bool := ((leafR r 0).dat .bool)
noncomputable def slices_ContainsFunc_int_int_impl_unpaired_1 (v0 : List (List Int)) (v1 : Int) : Option (Bool) := tOf slices_ContainsFunc_int_int_impl_unpaired_1.mk (vlim E 150 (slices_ContainsFunc_int_int_impl_unpaired_1.c v0 v1))
def slices_IndexFunc_int_int_impl_unpaired_1.c (v0 : List (List Int)) (v1 : Int) : List Cell := vc (.d .fro (.sl (.sl (.int .i64))) v0) :: vc (.fn 162 [.rp [iL v1] 0]) :: []
def slices_IndexFunc_int_int_impl_unpaired_1.mk (b : Int) : R := (⟨.one, [iL b]⟩, nn 2 ([]))
def slices_IndexFunc_int_int_impl_unpaired_1.un (r : R) : Int := ((leafR r 0).dat (.int .i64))
noncomputable def slices_IndexFunc_int_int_impl_unpaired_1 (v0 : List (List Int)) (v1 : Int) : Option (Int) := tOf slices_IndexFunc_int_int_impl_unpaired_1.mk (vlim E 160 (slices_IndexFunc_int_int_impl_unpaired_1.c v0 v1))
def impl_unpaired_1.c (v0 : List Int) (v1 : Int) : List Cell := vc (.d .fro (.sl (.int .i64)) v0) :: vc (.rp [iL v1] 0) :: []
def impl_unpaired_1.mk (b : Bool) : R := (⟨.one, [bL b]⟩, nn 2 ([]))
def impl_unpaired_1.un (r : R) : Bool := ((leafR r 0).dat .bool)
noncomputable def impl_unpaired_1 (v0 : List Int) (v1 : Int) : Option (Bool) := tOf impl_unpaired_1.mk (vlim E 162 (impl_unpaired_1.c v0 v1))
def slices_Concat_int_int.c (v0 : List (List Int)) : List Cell := vc (.d .fro (.sl (.sl (.int .i64))) v0) :: []
def slices_Concat_int_int.mk (b : (List Int)) : R := (⟨.one, [.d .deep (.sl (.int .i64)) b]⟩, nn 1 ([]))
def slices_Concat_int_int.un (r : R) : (List Int) := ((leafR r 0).dat (.sl (.int .i64)))
noncomputable def slices_Concat_int_int (v0 : List (List Int)) : Option ((List Int)) := tOf slices_Concat_int_int.mk (vlim E 153 (slices_Concat_int_int.c v0))
def slices_Grow_int_int_c0f.c (v0 : Int) : List Cell := vc (.nil (.int .i64)) :: vc (iL v0) :: []
def slices_Grow_int_int_c0f.mk (b : (List Int)) : R := (⟨.one, [.d .deep (.sl (.int .i64)) b]⟩, nn 2 ([]))
def slices_Grow_int_int_c0f.un (r : R) : (List Int) := ((leafR r 0).dat (.sl (.int .i64)))
noncomputable def slices_Grow_int_int_c0f (v0 : Int) : Option ((List Int)) := tOf slices_Grow_int_int_c0f.mk (vlim E 161 (slices_Grow_int_int_c0f.c v0))
def impl_joinedColumns.c (v0 : Int) (v1 : Int) (v2 : List (List Int)) : List Cell := vc (iL v0) :: vc (iL v1) :: vc (.d .fro (.sl (.sl (.int .i64))) v2) :: []
def impl_joinedColumns.mk (b : Int) : R := (⟨.one, [iL b]⟩, nn 3 ([]))
def impl_joinedColumns.un (r : R) : Int := ((leafR r 0).dat (.int .i64))
noncomputable def impl_joinedColumns (v0 : Int) (v1 : Int) (v2 : List (List Int)) : Option (Int) := tOf impl_joinedColumns.mk (vlim E 140 (impl_joinedColumns.c v0 v1 v2))
def tabT : List (Nat × List (List Cell × Tb)) := [
  (13, [(laws_FnExactCrossTables.c 0 [] 0 [], ⟨Bool, laws_FnExactCrossTables.mk⟩)]),
  (15, [(laws_szTable.c 0 [] 0, ⟨Int, laws_szTable.mk⟩)]),
  (17, [(laws_toTable.c 0 [], ⟨Int × (List (List Int × Int)), laws_toTable.mk⟩)]),
  (19, [(laws_eqTable.c 0 [] 0 [], ⟨Bool, laws_eqTable.mk⟩)]),
  (20, [(laws_markTable_d7a.c 0 [] 0, ⟨Int × Int × (List (List Int × Int)), laws_markTable_d7a.mk⟩)]),
  (21, [(laws_heldTable.c 0 [] 0, ⟨Int, laws_heldTable.mk⟩)]),
  (36, [(laws_szWeightedS.c [] 0, ⟨Int, laws_szWeightedS.mk⟩)]),
  (38, [(laws_toWeightedS.c [], ⟨(List (List Int × Int)), laws_toWeightedS.mk⟩)]),
  (40, [(laws_eqWeightedS.c [] [], ⟨Bool, laws_eqWeightedS.mk⟩)]),
  (41, [(laws_markWeightedS_d97.c [] 0, ⟨Int × (List (List Int × Int)), laws_markWeightedS_d97.mk⟩)]),
  (45, [(laws_toIntS.c [], ⟨(List Int), laws_toIntS.mk⟩)]),
  (47, [(laws_eqIntS.c [] [], ⟨Bool, laws_eqIntS.mk⟩)]),
  (48, [(laws_markIntS_83f.c [] 0, ⟨Int × (List Int), laws_markIntS_83f.mk⟩)]),
  (51, [(spec_CrossTables.c 0 [] 0 [], ⟨Int × (List (List Int × Int)) × Bool, spec_CrossTables.mk⟩)]),
  (52, [(impl_CrossTables.c 0 [] 0 [], ⟨Int × (List (List Int × Int)) × Bool, impl_CrossTables.mk⟩)]),
  (54, [(spec_JoinTables.c 0 [] 0 [] [], ⟨Int × (List (List Int × Int)) × Bool, spec_JoinTables.mk⟩)]),
  (56, [(impl_JoinTables.c 0 [] 0 [] [], ⟨Int × (List (List Int × Int)) × Bool, impl_JoinTables.mk⟩)]),
  (59, [(spec_GoodTable.c 0 [], ⟨Bool, spec_GoodTable.mk⟩)]),
  (60, [(spec_l2Tell.c 0 [], ⟨Int × (List (List Int × Int)) × Bool, spec_l2Tell.mk⟩)]),
  (62, [(impl_GoodTable.c 0 [], ⟨Bool, impl_GoodTable.mk⟩)]),
  (64, [(laws_heldWeightedS.c [] 0, ⟨Int, laws_heldWeightedS.mk⟩)]),
  (65, [(spec_l1In.c 0 0 0, ⟨Bool, spec_l1In.mk⟩)]),
  (66, [(impl_within.c 0 0 0, ⟨Bool, impl_within.mk⟩)]),
  (67, [(impl_goodOrNone_467.c 0 [], ⟨Int × (List (List Int × Int)) × Bool, impl_goodOrNone_467.mk⟩)]),
  (83, [(laws_szWeighted.c [] 0 0, ⟨Int, laws_szWeighted.mk⟩)]),
  (84, [(spec_GoodRow.c [], ⟨Bool, spec_GoodRow.mk⟩)]),
  (85, [(spec_l2Weight.c 0, ⟨Bool, spec_l2Weight.mk⟩)]),
  (86, [(spec_l2Put.c [] [] 0, ⟨(List (List Int × Int)), spec_l2Put.mk⟩)]),
  (87, [(laws_toWeighted.c [] 0, ⟨(List Int) × Int, laws_toWeighted.mk⟩)]),
  (88, [(impl_isColumns.c 0, ⟨Bool, impl_isColumns.mk⟩)]),
  (91, [(impl_isRowOf.c [] 0, ⟨Bool, impl_isRowOf.mk⟩)]),
  (92, [(impl_isWeight.c 0, ⟨Bool, impl_isWeight.mk⟩)]),
  (93, [(impl_summed.c 0 [], ⟨Int × (List (List Int × Int)), impl_summed.mk⟩)]),
  (94, [(laws_eqWeighted.c [] 0 [] 0, ⟨Bool, laws_eqWeighted.mk⟩)]),
  (100, [(laws_szIntS.c [] 0, ⟨Int, laws_szIntS.mk⟩)]),
  (101, [(spec_l1Pairs.c [] 0 0, ⟨Bool, spec_l1Pairs.mk⟩)]),
  (102, [(spec_l3Left.c [] 0, ⟨Int, spec_l3Left.mk⟩)]),
  (103, [(spec_l3Join.c [] [] [], ⟨(List (List Int × Int)), spec_l3Join.mk⟩)]),
  (104, [(impl_arePairs.c [] 0 0, ⟨Bool, impl_arePairs.mk⟩)]),
  (105, [(impl_Table_join.c 0 [] 0 [] [], ⟨Int × (List (List Int × Int)), impl_Table_join.mk⟩)]),
  (106, [(spec_l1Compare.c [] [], ⟨Int, spec_l1Compare.mk⟩)]),
  (107, [(spec_l2OwnRow.c [], ⟨(List Int), spec_l2OwnRow.mk⟩)]),
  (108, [(impl_compareRows.c [] [], ⟨Int, impl_compareRows.mk⟩)]),
  (109, [(impl_Row_own.c [], ⟨(List Int), impl_Row_own.mk⟩)]),
  (110, [(laws_heldIntS.c [] 0, ⟨Int, laws_heldIntS.mk⟩)]),
  (118, [(impl_isPlace.c 0 0, ⟨Bool, impl_isPlace.mk⟩)]),
  (119, [(impl_isCell.c 0, ⟨Bool, impl_isCell.mk⟩)]),
  (123, [(laws_szRow.c [] 0, ⟨Int, laws_szRow.mk⟩)]),
  (124, [(laws_toRow.c [], ⟨(List Int), laws_toRow.mk⟩)]),
  (127, [(impl_GoodRow.c [], ⟨Bool, impl_GoodRow.mk⟩)]),
  (128, [(slices_Concat_impl_Weighted_impl_Weighted.c [], ⟨(List (List Int × Int)), slices_Concat_impl_Weighted_impl_Weighted.mk⟩)]),
  (129, [(slices_SortStableFunc_impl_Weighted_impl_Weighted_impl_summed_1_056.c [], ⟨(List (List Int × Int)), slices_SortStableFunc_impl_Weighted_impl_Weighted_impl_summed_1_056.mk⟩)]),
  (130, [(impl_summed_1.c [] 0 [] 0, ⟨Int, impl_summed_1.mk⟩)]),
  (131, [(laws_eqRow.c [] [], ⟨Bool, laws_eqRow.mk⟩)]),
  (133, [(impl_areAll_int_impl_isCell.c [], ⟨Bool, impl_areAll_int_impl_isCell.mk⟩)]),
  (135, [(impl_Row_picked.c [] [], ⟨(List Int), impl_Row_picked.mk⟩)]),
  (136, [(spec_l1Join.c [] [] [], ⟨(List Int) × Bool, spec_l1Join.mk⟩)]),
  (137, [(impl_areAll_int_impl_arePairs_1.c [] 0 0, ⟨Bool, impl_areAll_int_impl_arePairs_1.mk⟩), (impl_areAll_int_impl_joined_1.c [] [] [], ⟨Bool, impl_areAll_int_impl_joined_1.mk⟩)]),
  (138, [(impl_arePairs_1.c [] 0 0, ⟨Bool, impl_arePairs_1.mk⟩)]),
  (139, [(impl_joined.c [] [] [], ⟨(List Int) × Bool, impl_joined.mk⟩)]),
  (140, [(impl_joinedColumns.c 0 0 [], ⟨Int, impl_joinedColumns.mk⟩)]),
  (141, [(slices_Compare_int_int.c [] [], ⟨Int, slices_Compare_int_int.mk⟩)]),
  (142, [(slices_Clone_int_int.c [], ⟨(List Int), slices_Clone_int_int.mk⟩)]),
  (146, [(slices_Grow_impl_Weighted_impl_Weighted_1b9.c 0, ⟨(List (List Int × Int)), slices_Grow_impl_Weighted_impl_Weighted_1b9.mk⟩)]),
  (147, [(slices_stableCmpFunc_impl_Weighted_impl_summed_1_6af.c [] 0, ⟨(List (List Int × Int)), slices_stableCmpFunc_impl_Weighted_impl_summed_1_6af.mk⟩)]),
  (148, [(slices_ContainsFunc_int_int_impl_areAll_int_1_impl_isCell.c [], ⟨Bool, slices_ContainsFunc_int_int_impl_areAll_int_1_impl_isCell.mk⟩)]),
  (149, [(impl_areAll_int_1_impl_isCell.c 0, ⟨Bool, impl_areAll_int_1_impl_isCell.mk⟩)]),
  (150, [(slices_ContainsFunc_int_int_impl_areAll_int_1_impl_arePairs_1.c [] 0 0, ⟨Bool, slices_ContainsFunc_int_int_impl_areAll_int_1_impl_arePairs_1.mk⟩), (slices_ContainsFunc_int_int_impl_areAll_int_1_impl_joined_1.c [] [] [], ⟨Bool, slices_ContainsFunc_int_int_impl_areAll_int_1_impl_joined_1.mk⟩), (slices_ContainsFunc_int_int_impl_unpaired_1.c [] 0, ⟨Bool, slices_ContainsFunc_int_int_impl_unpaired_1.mk⟩)]),
  (151, [(impl_areAll_int_1_impl_arePairs_1.c [] 0 0, ⟨Bool, impl_areAll_int_1_impl_arePairs_1.mk⟩), (impl_areAll_int_1_impl_joined_1.c [] [] [], ⟨Bool, impl_areAll_int_1_impl_joined_1.mk⟩)]),
  (152, [(impl_joined_1.c [] [] [], ⟨Bool, impl_joined_1.mk⟩)]),
  (153, [(slices_Concat_int_int.c [], ⟨(List Int), slices_Concat_int_int.mk⟩)]),
  (154, [(impl_unpaired.c 0 [], ⟨(List Int), impl_unpaired.mk⟩)]),
  (155, [(cmp_Compare_int.c 0 0, ⟨Int, cmp_Compare_int.mk⟩)]),
  (157, [(slices_insertionSortCmpFunc_impl_Weighted_impl_summed_1_c6e.c [] 0 0, ⟨(List (List Int × Int)), slices_insertionSortCmpFunc_impl_Weighted_impl_summed_1_c6e.mk⟩)]),
  (158, [(slices_symMergeCmpFunc_impl_Weighted_impl_summed_1_70b.c [] 0 0 0, ⟨(List (List Int × Int)), slices_symMergeCmpFunc_impl_Weighted_impl_summed_1_70b.mk⟩)]),
  (159, [(slices_IndexFunc_int_int_impl_areAll_int_1_impl_isCell.c [], ⟨Int, slices_IndexFunc_int_int_impl_areAll_int_1_impl_isCell.mk⟩)]),
  (160, [(slices_IndexFunc_int_int_impl_areAll_int_1_impl_arePairs_1.c [] 0 0, ⟨Int, slices_IndexFunc_int_int_impl_areAll_int_1_impl_arePairs_1.mk⟩), (slices_IndexFunc_int_int_impl_areAll_int_1_impl_joined_1.c [] [] [], ⟨Int, slices_IndexFunc_int_int_impl_areAll_int_1_impl_joined_1.mk⟩), (slices_IndexFunc_int_int_impl_unpaired_1.c [] 0, ⟨Int, slices_IndexFunc_int_int_impl_unpaired_1.mk⟩)]),
  (161, [(slices_Grow_int_int_c0f.c 0, ⟨(List Int), slices_Grow_int_int_c0f.mk⟩)]),
  (162, [(impl_unpaired_1.c [] 0, ⟨Bool, impl_unpaired_1.mk⟩)]),
  (163, [(cmp_isNaN_int.c 0, ⟨Bool, cmp_isNaN_int.mk⟩)]),
  (164, [(slices_rotateCmpFunc_impl_Weighted_impl_summed_1_70b.c [] 0 0 0, ⟨(List (List Int × Int)), slices_rotateCmpFunc_impl_Weighted_impl_summed_1_70b.mk⟩)]),
  (165, [(slices_swapRangeCmpFunc_impl_Weighted_impl_summed_1_70b.c [] 0 0 0, ⟨(List (List Int × Int)), slices_swapRangeCmpFunc_impl_Weighted_impl_summed_1_70b.mk⟩)])]
def tab : FuncId → List Cell → Tb := fun g cs => match assoc tabT g with | some l => pickT l cs | none => ⟨Unit, fun _ => (⟨.one, []⟩, [])⟩
end GoV

/- Equations of the program's functions (printed by wip/tools/emit.py). -/
namespace GoV
open Go Go.Proofs
set_option maxRecDepth 100000

noncomputable def laws_szWeightedS.q5 (v0 : List (List Int × Int)) (v1 : Int) (v2 : Int) : Option R := loopAtL E (callT E tab) 36 Try.f36 2 [.r, .r, .r, .l, .r, .b] (vc (.d .fro (.sl (.pair (.sl (.int .i64)) (.int .i64))) v0) :: vc (iL v1) :: nn 3 (vc (iL v2) :: nn 21 ([])))
noncomputable def laws_szWeightedS.l5 (v0 : List (List Int × Int)) (v1 : Int) (v2 : Int) : Option (Int) := tOf laws_szWeightedS.mk (laws_szWeightedS.q5 v0 v1 v2)
noncomputable def laws_szWeightedS.t {γ : Type} (ret : (Int) → Option γ) (lp5 : (List (List Int × Int)) → Int → Int → Option γ) (v0 : List (List Int × Int)) (v1 : Int) : Option γ :=
  bif Decidable.decide (Go.IntKind.i64.wrap (v1 - (↑v0.length : Int)) < (0 : Int)) then
    ret ((-1 : Int))
  else
    lp5 (v0) (Go.IntKind.i64.wrap (v1 - (↑v0.length : Int))) ((0 : Int))
noncomputable def laws_szWeightedS.t5 {γ : Type} (ret : (Int) → Option γ) (lp5 : (List (List Int × Int)) → Int → Int → Option γ) (v0 : List (List Int × Int)) (v1 : Int) (v2 : Int) : Option γ :=
  bif Decidable.decide (v2 < (↑v0.length : Int)) then
    bif Decidable.decide ((0 : Int) ≤ v2) then
      bif Decidable.decide (v2.toNat < v0.length) then
        (laws_szWeighted ((v0.getD v2.toNat ([], (0 : Int))).fst) ((v0.getD v2.toNat ([], (0 : Int))).snd) (v1)).bind fun (r0 : Int) =>
        bif Decidable.decide (r0 < (0 : Int)) then
          ret ((-1 : Int))
        else
          lp5 (v0) (r0) (Go.IntKind.i64.wrap (v2 + (1 : Int)))
      else
        none
    else
      none
  else
    ret (v1)
theorem laws_szWeightedS.k (v0 : List (List Int × Int)) (v1 : Int) : topL E (callT E tab) 36 Try.f36 (laws_szWeightedS.c v0 v1) = laws_szWeightedS.t (fun b => some (laws_szWeightedS.mk b)) laws_szWeightedS.q5 v0 v1 := by kernel_rfl
theorem laws_szWeightedS.k5 (v0 : List (List Int × Int)) (v1 : Int) (v2 : Int) : roundL E (callT E tab) 36 Try.f36 2 [.r, .r, .r, .l, .r, .b] (vc (.d .fro (.sl (.pair (.sl (.int .i64)) (.int .i64))) v0) :: vc (iL v1) :: nn 3 (vc (iL v2) :: nn 21 ([]))) = laws_szWeightedS.t5 (fun b => some (laws_szWeightedS.mk b)) laws_szWeightedS.q5 v0 v1 v2 := by kernel_rfl
theorem laws_szWeightedS.s (v0 : List (List Int × Int)) (v1 : Int) : Sub laws_szWeightedS.mk (laws_szWeightedS.t some laws_szWeightedS.l5 v0 v1) (laws_szWeightedS.t (fun b => some (laws_szWeightedS.mk b)) laws_szWeightedS.q5 v0 v1) := by
  unfold laws_szWeightedS.t
  repeat' first | exact Sub.ret | exact Sub.none | exact Sub.loop | apply Sub.cond | (apply Sub.bind; intro _)
theorem laws_szWeightedS.eq (v0 : List (List Int × Int)) (v1 : Int) {b : Int} (h : laws_szWeightedS.t some laws_szWeightedS.l5 v0 v1 = some b) : laws_szWeightedS v0 v1 = some b := tOf_intro laws_szWeightedS.un (fun _ => by kernel_rfl) (vlim_fn (callT_le E tab) rfl rfl rfl ((laws_szWeightedS.k v0 v1).trans (laws_szWeightedS.s v0 v1 b h)))
theorem laws_szWeightedS.s5 (v0 : List (List Int × Int)) (v1 : Int) (v2 : Int) : Sub laws_szWeightedS.mk (laws_szWeightedS.t5 some laws_szWeightedS.l5 v0 v1 v2) (laws_szWeightedS.t5 (fun b => some (laws_szWeightedS.mk b)) laws_szWeightedS.q5 v0 v1 v2) := by
  unfold laws_szWeightedS.t5
  repeat' first | exact Sub.ret | exact Sub.none | exact Sub.loop | apply Sub.cond | (apply Sub.bind; intro _)
theorem laws_szWeightedS.eq5 (v0 : List (List Int × Int)) (v1 : Int) (v2 : Int) {b : Int} (h : laws_szWeightedS.t5 some laws_szWeightedS.l5 v0 v1 v2 = some b) : laws_szWeightedS.l5 v0 v1 v2 = some b := tOf_intro laws_szWeightedS.un (fun _ => by kernel_rfl) (loopAtL_step ((laws_szWeightedS.k5 v0 v1 v2).trans (laws_szWeightedS.s5 v0 v1 v2 b h)))
noncomputable def laws_szWeighted.t {γ : Type} (ret : (Int) → Option γ) (v0 : List Int) (v1 : Int) (v2 : Int) : Option γ :=
  (laws_szRow (v0) (v2)).bind fun (r0 : Int) =>
  bif Decidable.decide (r0 < (0 : Int)) then
    ret ((-1 : Int))
  else
    ret (r0)
theorem laws_szWeighted.k (v0 : List Int) (v1 : Int) (v2 : Int) : topL E (callT E tab) 83 Try.f83 (laws_szWeighted.c v0 v1 v2) = laws_szWeighted.t (fun b => some (laws_szWeighted.mk b)) v0 v1 v2 := by kernel_rfl
theorem laws_szWeighted.s (v0 : List Int) (v1 : Int) (v2 : Int) : Sub laws_szWeighted.mk (laws_szWeighted.t some v0 v1 v2) (laws_szWeighted.t (fun b => some (laws_szWeighted.mk b)) v0 v1 v2) := by
  unfold laws_szWeighted.t
  repeat' first | exact Sub.ret | exact Sub.none | exact Sub.loop | apply Sub.cond | (apply Sub.bind; intro _)
theorem laws_szWeighted.eq (v0 : List Int) (v1 : Int) (v2 : Int) {b : Int} (h : laws_szWeighted.t some v0 v1 v2 = some b) : laws_szWeighted v0 v1 v2 = some b := tOf_intro laws_szWeighted.un (fun _ => by kernel_rfl) (vlim_fn (callT_le E tab) rfl rfl rfl ((laws_szWeighted.k v0 v1 v2).trans (laws_szWeighted.s v0 v1 v2 b h)))
noncomputable def laws_szRow.t {γ : Type} (ret : (Int) → Option γ) (v0 : List Int) (v1 : Int) : Option γ :=
  (laws_szIntS (v0) (v1)).bind fun (r0 : Int) =>
  bif Decidable.decide (r0 < (0 : Int)) then
    ret ((-1 : Int))
  else
    ret (r0)
theorem laws_szRow.k (v0 : List Int) (v1 : Int) : topL E (callT E tab) 123 Try.f123 (laws_szRow.c v0 v1) = laws_szRow.t (fun b => some (laws_szRow.mk b)) v0 v1 := by kernel_rfl
theorem laws_szRow.s (v0 : List Int) (v1 : Int) : Sub laws_szRow.mk (laws_szRow.t some v0 v1) (laws_szRow.t (fun b => some (laws_szRow.mk b)) v0 v1) := by
  unfold laws_szRow.t
  repeat' first | exact Sub.ret | exact Sub.none | exact Sub.loop | apply Sub.cond | (apply Sub.bind; intro _)
theorem laws_szRow.eq (v0 : List Int) (v1 : Int) {b : Int} (h : laws_szRow.t some v0 v1 = some b) : laws_szRow v0 v1 = some b := tOf_intro laws_szRow.un (fun _ => by kernel_rfl) (vlim_fn (callT_le E tab) rfl rfl rfl ((laws_szRow.k v0 v1).trans (laws_szRow.s v0 v1 b h)))
noncomputable def laws_szIntS.t {γ : Type} (ret : (Int) → Option γ) (v0 : List Int) (v1 : Int) : Option γ :=
  bif Decidable.decide (Go.IntKind.i64.wrap (v1 - (↑v0.length : Int)) < (0 : Int)) then
    ret ((-1 : Int))
  else
    ret (Go.IntKind.i64.wrap (v1 - (↑v0.length : Int)))
theorem laws_szIntS.k (v0 : List Int) (v1 : Int) : topL E (callT E tab) 100 Try.f100 (laws_szIntS.c v0 v1) = laws_szIntS.t (fun b => some (laws_szIntS.mk b)) v0 v1 := by kernel_rfl
theorem laws_szIntS.s (v0 : List Int) (v1 : Int) : Sub laws_szIntS.mk (laws_szIntS.t some v0 v1) (laws_szIntS.t (fun b => some (laws_szIntS.mk b)) v0 v1) := by
  unfold laws_szIntS.t
  repeat' first | exact Sub.ret | exact Sub.none | exact Sub.loop | apply Sub.cond | (apply Sub.bind; intro _)
theorem laws_szIntS.eq (v0 : List Int) (v1 : Int) {b : Int} (h : laws_szIntS.t some v0 v1 = some b) : laws_szIntS v0 v1 = some b := tOf_intro laws_szIntS.un (fun _ => by kernel_rfl) (vlim_fn (callT_le E tab) rfl rfl rfl ((laws_szIntS.k v0 v1).trans (laws_szIntS.s v0 v1 b h)))
noncomputable def laws_toWeightedS.q3 (v0 : List (List Int × Int)) (v1 : List (List Int × Int)) (v2 : Int) : Option R := loopAtL E (callT E tab) 38 Try.f38 1 [.r, .r, .l, .r, .b] (vc (.d .fro (.sl (.pair (.sl (.int .i64)) (.int .i64))) v0) :: nn 2 (vc (.d .deep (.sl (.pair (.sl (.int .i64)) (.int .i64))) v1) :: vc (iL v2) :: nn 18 ([])))
noncomputable def laws_toWeightedS.l3 (v0 : List (List Int × Int)) (v1 : List (List Int × Int)) (v2 : Int) : Option ((List (List Int × Int))) := tOf laws_toWeightedS.mk (laws_toWeightedS.q3 v0 v1 v2)
noncomputable def laws_toWeightedS.t {γ : Type} (ret : ((List (List Int × Int))) → Option γ) (lp3 : (List (List Int × Int)) → (List (List Int × Int)) → Int → Option γ) (v0 : List (List Int × Int)) : Option γ :=
  bif Decidable.decide ((↑v0.length : Int) = (↑v0.length : Int)) then
    bif Decidable.decide ((↑v0.length : Int) ≤ (↑(4294967296 : Nat) : Int)) then
      lp3 (v0) (List.replicate (↑v0.length : Int).toNat ([], (0 : Int))) ((0 : Int))
    else
      none
  else
    none
noncomputable def laws_toWeightedS.t3 {γ : Type} (ret : ((List (List Int × Int))) → Option γ) (lp3 : (List (List Int × Int)) → (List (List Int × Int)) → Int → Option γ) (v0 : List (List Int × Int)) (v1 : List (List Int × Int)) (v2 : Int) : Option γ :=
  bif Decidable.decide (v2 < (↑v0.length : Int)) then
    bif Decidable.decide ((0 : Int) ≤ v2) then
      bif Decidable.decide (v2.toNat < v0.length) then
        (laws_toWeighted ((v0.getD v2.toNat ([], (0 : Int))).fst) ((v0.getD v2.toNat ([], (0 : Int))).snd)).bind fun (r0 : (List Int) × Int) =>
        bif Decidable.decide ((0 : Int) ≤ v2) then
          bif Decidable.decide (v2.toNat < v1.length) then
            bif Decidable.decide (v2.toNat < v1.length) then
              lp3 (v0) (v1.set v2.toNat (r0.fst, r0.snd)) (Go.IntKind.i64.wrap (v2 + (1 : Int)))
            else
              none
          else
            none
        else
          none
      else
        none
    else
      none
  else
    ret (v1)
theorem laws_toWeightedS.k (v0 : List (List Int × Int)) : topL E (callT E tab) 38 Try.f38 (laws_toWeightedS.c v0) = laws_toWeightedS.t (fun b => some (laws_toWeightedS.mk b)) laws_toWeightedS.q3 v0 := by kernel_rfl
theorem laws_toWeightedS.k3 (v0 : List (List Int × Int)) (v1 : List (List Int × Int)) (v2 : Int) : roundL E (callT E tab) 38 Try.f38 1 [.r, .r, .l, .r, .b] (vc (.d .fro (.sl (.pair (.sl (.int .i64)) (.int .i64))) v0) :: nn 2 (vc (.d .deep (.sl (.pair (.sl (.int .i64)) (.int .i64))) v1) :: vc (iL v2) :: nn 18 ([]))) = laws_toWeightedS.t3 (fun b => some (laws_toWeightedS.mk b)) laws_toWeightedS.q3 v0 v1 v2 := by kernel_rfl
theorem laws_toWeightedS.s (v0 : List (List Int × Int)) : Sub laws_toWeightedS.mk (laws_toWeightedS.t some laws_toWeightedS.l3 v0) (laws_toWeightedS.t (fun b => some (laws_toWeightedS.mk b)) laws_toWeightedS.q3 v0) := by
  unfold laws_toWeightedS.t
  repeat' first | exact Sub.ret | exact Sub.none | exact Sub.loop | apply Sub.cond | (apply Sub.bind; intro _)
theorem laws_toWeightedS.eq (v0 : List (List Int × Int)) {b : (List (List Int × Int))} (h : laws_toWeightedS.t some laws_toWeightedS.l3 v0 = some b) : laws_toWeightedS v0 = some b := tOf_intro laws_toWeightedS.un (fun _ => by kernel_rfl) (vlim_fn (callT_le E tab) rfl rfl rfl ((laws_toWeightedS.k v0).trans (laws_toWeightedS.s v0 b h)))
theorem laws_toWeightedS.s3 (v0 : List (List Int × Int)) (v1 : List (List Int × Int)) (v2 : Int) : Sub laws_toWeightedS.mk (laws_toWeightedS.t3 some laws_toWeightedS.l3 v0 v1 v2) (laws_toWeightedS.t3 (fun b => some (laws_toWeightedS.mk b)) laws_toWeightedS.q3 v0 v1 v2) := by
  unfold laws_toWeightedS.t3
  repeat' first | exact Sub.ret | exact Sub.none | exact Sub.loop | apply Sub.cond | (apply Sub.bind; intro _)
theorem laws_toWeightedS.eq3 (v0 : List (List Int × Int)) (v1 : List (List Int × Int)) (v2 : Int) {b : (List (List Int × Int))} (h : laws_toWeightedS.t3 some laws_toWeightedS.l3 v0 v1 v2 = some b) : laws_toWeightedS.l3 v0 v1 v2 = some b := tOf_intro laws_toWeightedS.un (fun _ => by kernel_rfl) (loopAtL_step ((laws_toWeightedS.k3 v0 v1 v2).trans (laws_toWeightedS.s3 v0 v1 v2 b h)))
noncomputable def laws_toWeighted.t {γ : Type} (ret : ((List Int) × Int) → Option γ) (v0 : List Int) (v1 : Int) : Option γ :=
  (laws_toRow (v0)).bind fun (r0 : (List Int)) =>
  ret (r0, v1)
theorem laws_toWeighted.k (v0 : List Int) (v1 : Int) : topL E (callT E tab) 87 Try.f87 (laws_toWeighted.c v0 v1) = laws_toWeighted.t (fun b => some (laws_toWeighted.mk b)) v0 v1 := by kernel_rfl
theorem laws_toWeighted.s (v0 : List Int) (v1 : Int) : Sub laws_toWeighted.mk (laws_toWeighted.t some v0 v1) (laws_toWeighted.t (fun b => some (laws_toWeighted.mk b)) v0 v1) := by
  unfold laws_toWeighted.t
  repeat' first | exact Sub.ret | exact Sub.none | exact Sub.loop | apply Sub.cond | (apply Sub.bind; intro _)
theorem laws_toWeighted.eq (v0 : List Int) (v1 : Int) {b : (List Int) × Int} (h : laws_toWeighted.t some v0 v1 = some b) : laws_toWeighted v0 v1 = some b := tOf_intro laws_toWeighted.un (fun _ => by kernel_rfl) (vlim_fn (callT_le E tab) rfl rfl rfl ((laws_toWeighted.k v0 v1).trans (laws_toWeighted.s v0 v1 b h)))
noncomputable def laws_toRow.t {γ : Type} (ret : ((List Int)) → Option γ) (v0 : List Int) : Option γ :=
  (laws_toIntS (v0)).bind fun (r0 : (List Int)) =>
  ret (r0)
theorem laws_toRow.k (v0 : List Int) : topL E (callT E tab) 124 Try.f124 (laws_toRow.c v0) = laws_toRow.t (fun b => some (laws_toRow.mk b)) v0 := by kernel_rfl
theorem laws_toRow.s (v0 : List Int) : Sub laws_toRow.mk (laws_toRow.t some v0) (laws_toRow.t (fun b => some (laws_toRow.mk b)) v0) := by
  unfold laws_toRow.t
  repeat' first | exact Sub.ret | exact Sub.none | exact Sub.loop | apply Sub.cond | (apply Sub.bind; intro _)
theorem laws_toRow.eq (v0 : List Int) {b : (List Int)} (h : laws_toRow.t some v0 = some b) : laws_toRow v0 = some b := tOf_intro laws_toRow.un (fun _ => by kernel_rfl) (vlim_fn (callT_le E tab) rfl rfl rfl ((laws_toRow.k v0).trans (laws_toRow.s v0 b h)))
noncomputable def laws_toIntS.q3 (v0 : List Int) (v1 : List Int) (v2 : Int) : Option R := loopAtL E (callT E tab) 45 Try.f45 1 [.r, .r, .l, .r, .b] (vc (.d .fro (.sl (.int .i64)) v0) :: nn 2 (vc (.d .deep (.sl (.int .i64)) v1) :: vc (iL v2) :: nn 17 ([])))
noncomputable def laws_toIntS.l3 (v0 : List Int) (v1 : List Int) (v2 : Int) : Option ((List Int)) := tOf laws_toIntS.mk (laws_toIntS.q3 v0 v1 v2)
noncomputable def laws_toIntS.t {γ : Type} (ret : ((List Int)) → Option γ) (lp3 : (List Int) → (List Int) → Int → Option γ) (v0 : List Int) : Option γ :=
  bif Decidable.decide ((↑v0.length : Int) = (↑v0.length : Int)) then
    bif Decidable.decide ((↑v0.length : Int) ≤ (↑(4294967296 : Nat) : Int)) then
      lp3 (v0) (List.replicate (↑v0.length : Int).toNat (0 : Int)) ((0 : Int))
    else
      none
  else
    none
noncomputable def laws_toIntS.t3 {γ : Type} (ret : ((List Int)) → Option γ) (lp3 : (List Int) → (List Int) → Int → Option γ) (v0 : List Int) (v1 : List Int) (v2 : Int) : Option γ :=
  bif Decidable.decide (v2 < (↑v0.length : Int)) then
    bif Decidable.decide ((0 : Int) ≤ v2) then
      bif Decidable.decide (v2.toNat < v0.length) then
        bif Decidable.decide ((0 : Int) ≤ v2) then
          bif Decidable.decide (v2.toNat < v1.length) then
            bif Decidable.decide (v2.toNat < v1.length) then
              lp3 (v0) (v1.set v2.toNat (v0.getD v2.toNat (0 : Int))) (Go.IntKind.i64.wrap (v2 + (1 : Int)))
            else
              none
          else
            none
        else
          none
      else
        none
    else
      none
  else
    ret (v1)
theorem laws_toIntS.k (v0 : List Int) : topL E (callT E tab) 45 Try.f45 (laws_toIntS.c v0) = laws_toIntS.t (fun b => some (laws_toIntS.mk b)) laws_toIntS.q3 v0 := by kernel_rfl
theorem laws_toIntS.k3 (v0 : List Int) (v1 : List Int) (v2 : Int) : roundL E (callT E tab) 45 Try.f45 1 [.r, .r, .l, .r, .b] (vc (.d .fro (.sl (.int .i64)) v0) :: nn 2 (vc (.d .deep (.sl (.int .i64)) v1) :: vc (iL v2) :: nn 17 ([]))) = laws_toIntS.t3 (fun b => some (laws_toIntS.mk b)) laws_toIntS.q3 v0 v1 v2 := by kernel_rfl
theorem laws_toIntS.s (v0 : List Int) : Sub laws_toIntS.mk (laws_toIntS.t some laws_toIntS.l3 v0) (laws_toIntS.t (fun b => some (laws_toIntS.mk b)) laws_toIntS.q3 v0) := by
  unfold laws_toIntS.t
  repeat' first | exact Sub.ret | exact Sub.none | exact Sub.loop | apply Sub.cond | (apply Sub.bind; intro _)
theorem laws_toIntS.eq (v0 : List Int) {b : (List Int)} (h : laws_toIntS.t some laws_toIntS.l3 v0 = some b) : laws_toIntS v0 = some b := tOf_intro laws_toIntS.un (fun _ => by kernel_rfl) (vlim_fn (callT_le E tab) rfl rfl rfl ((laws_toIntS.k v0).trans (laws_toIntS.s v0 b h)))
theorem laws_toIntS.s3 (v0 : List Int) (v1 : List Int) (v2 : Int) : Sub laws_toIntS.mk (laws_toIntS.t3 some laws_toIntS.l3 v0 v1 v2) (laws_toIntS.t3 (fun b => some (laws_toIntS.mk b)) laws_toIntS.q3 v0 v1 v2) := by
  unfold laws_toIntS.t3
  repeat' first | exact Sub.ret | exact Sub.none | exact Sub.loop | apply Sub.cond | (apply Sub.bind; intro _)
theorem laws_toIntS.eq3 (v0 : List Int) (v1 : List Int) (v2 : Int) {b : (List Int)} (h : laws_toIntS.t3 some laws_toIntS.l3 v0 v1 v2 = some b) : laws_toIntS.l3 v0 v1 v2 = some b := tOf_intro laws_toIntS.un (fun _ => by kernel_rfl) (loopAtL_step ((laws_toIntS.k3 v0 v1 v2).trans (laws_toIntS.s3 v0 v1 v2 b h)))
noncomputable def spec_l1In.t {γ : Type} (ret : (Bool) → Option γ) (v0 : Int) (v1 : Int) (v2 : Int) : Option γ :=
  bif Decidable.decide (v0 ≥ v1) then
    ret (Decidable.decide (v0 ≤ v2))
  else
    ret (Bool.false)
theorem spec_l1In.k (v0 : Int) (v1 : Int) (v2 : Int) : topL E (callT E tab) 65 Try.f65 (spec_l1In.c v0 v1 v2) = spec_l1In.t (fun b => some (spec_l1In.mk b)) v0 v1 v2 := by kernel_rfl
theorem spec_l1In.s (v0 : Int) (v1 : Int) (v2 : Int) : Sub spec_l1In.mk (spec_l1In.t some v0 v1 v2) (spec_l1In.t (fun b => some (spec_l1In.mk b)) v0 v1 v2) := by
  unfold spec_l1In.t
  repeat' first | exact Sub.ret | exact Sub.none | exact Sub.loop | apply Sub.cond | (apply Sub.bind; intro _)
theorem spec_l1In.eq (v0 : Int) (v1 : Int) (v2 : Int) {b : Bool} (h : spec_l1In.t some v0 v1 v2 = some b) : spec_l1In v0 v1 v2 = some b := tOf_intro spec_l1In.un (fun _ => by kernel_rfl) (vlim_fn (callT_le E tab) rfl rfl rfl ((spec_l1In.k v0 v1 v2).trans (spec_l1In.s v0 v1 v2 b h)))
noncomputable def spec_GoodRow.q2 (v0 : List Int) (v1 : List Int) (v2 : Int) (v3 : Int) : Option R := loopAtL E (callT E tab) 84 Try.f84 1 [.r, .l, .r, .b] (nn 1 (⟨(.box false), [.d .fro (.sl (.int .i64)) v0], false, false, false, 0, 0⟩ :: nn 4 (vc (.d .fro (.sl (.int .i64)) v1) :: vc (iL v2) :: vc (iL v3) :: nn 11 ([]))))
noncomputable def spec_GoodRow.l2 (v0 : List Int) (v1 : List Int) (v2 : Int) (v3 : Int) : Option (Bool) := tOf spec_GoodRow.mk (spec_GoodRow.q2 v0 v1 v2 v3)
noncomputable def spec_GoodRow.t {γ : Type} (ret : (Bool) → Option γ) (lp2 : (List Int) → (List Int) → Int → Int → Option γ) (v0 : List Int) : Option γ :=
  lp2 (v0) (v0) ((↑v0.length : Int)) ((0 : Int))
noncomputable def spec_GoodRow.t2 {γ : Type} (ret : (Bool) → Option γ) (lp2 : (List Int) → (List Int) → Int → Int → Option γ) (v0 : List Int) (v1 : List Int) (v2 : Int) (v3 : Int) : Option γ :=
  bif Decidable.decide (v3 < v2) then
    bif Decidable.decide ((0 : Int) ≤ v3) then
      bif Decidable.decide (v3.toNat < v1.length) then
        (spec_l1In (v1.getD v3.toNat (0 : Int)) ((-100000 : Int)) ((100000 : Int))).bind fun (r0 : Bool) =>
        bif !r0 then
          ret (Bool.false)
        else
          lp2 (v0) (v1) (v2) (Go.IntKind.i64.wrap (v3 + (1 : Int)))
      else
        none
    else
      none
  else
    ret (Decidable.decide ((↑v0.length : Int) ≤ (6 : Int)))
theorem spec_GoodRow.k (v0 : List Int) : topL E (callT E tab) 84 Try.f84 (spec_GoodRow.c v0) = spec_GoodRow.t (fun b => some (spec_GoodRow.mk b)) spec_GoodRow.q2 v0 := by kernel_rfl
theorem spec_GoodRow.k2 (v0 : List Int) (v1 : List Int) (v2 : Int) (v3 : Int) : roundL E (callT E tab) 84 Try.f84 1 [.r, .l, .r, .b] (nn 1 (⟨(.box false), [.d .fro (.sl (.int .i64)) v0], false, false, false, 0, 0⟩ :: nn 4 (vc (.d .fro (.sl (.int .i64)) v1) :: vc (iL v2) :: vc (iL v3) :: nn 11 ([])))) = spec_GoodRow.t2 (fun b => some (spec_GoodRow.mk b)) spec_GoodRow.q2 v0 v1 v2 v3 := by kernel_rfl
theorem spec_GoodRow.s (v0 : List Int) : Sub spec_GoodRow.mk (spec_GoodRow.t some spec_GoodRow.l2 v0) (spec_GoodRow.t (fun b => some (spec_GoodRow.mk b)) spec_GoodRow.q2 v0) := by
  unfold spec_GoodRow.t
  repeat' first | exact Sub.ret | exact Sub.none | exact Sub.loop | apply Sub.cond | (apply Sub.bind; intro _)
theorem spec_GoodRow.eq (v0 : List Int) {b : Bool} (h : spec_GoodRow.t some spec_GoodRow.l2 v0 = some b) : spec_GoodRow v0 = some b := tOf_intro spec_GoodRow.un (fun _ => by kernel_rfl) (vlim_fn (callT_le E tab) rfl rfl rfl ((spec_GoodRow.k v0).trans (spec_GoodRow.s v0 b h)))
theorem spec_GoodRow.s2 (v0 : List Int) (v1 : List Int) (v2 : Int) (v3 : Int) : Sub spec_GoodRow.mk (spec_GoodRow.t2 some spec_GoodRow.l2 v0 v1 v2 v3) (spec_GoodRow.t2 (fun b => some (spec_GoodRow.mk b)) spec_GoodRow.q2 v0 v1 v2 v3) := by
  unfold spec_GoodRow.t2
  repeat' first | exact Sub.ret | exact Sub.none | exact Sub.loop | apply Sub.cond | (apply Sub.bind; intro _)
theorem spec_GoodRow.eq2 (v0 : List Int) (v1 : List Int) (v2 : Int) (v3 : Int) {b : Bool} (h : spec_GoodRow.t2 some spec_GoodRow.l2 v0 v1 v2 v3 = some b) : spec_GoodRow.l2 v0 v1 v2 v3 = some b := tOf_intro spec_GoodRow.un (fun _ => by kernel_rfl) (loopAtL_step ((spec_GoodRow.k2 v0 v1 v2 v3).trans (spec_GoodRow.s2 v0 v1 v2 v3 b h)))
noncomputable def spec_l2Weight.t {γ : Type} (ret : (Bool) → Option γ) (v0 : Int) : Option γ :=
  (spec_l1In (v0) ((-1000000 : Int)) ((1000000 : Int))).bind fun (r0 : Bool) =>
  ret (r0)
theorem spec_l2Weight.k (v0 : Int) : topL E (callT E tab) 85 Try.f85 (spec_l2Weight.c v0) = spec_l2Weight.t (fun b => some (spec_l2Weight.mk b)) v0 := by kernel_rfl
theorem spec_l2Weight.s (v0 : Int) : Sub spec_l2Weight.mk (spec_l2Weight.t some v0) (spec_l2Weight.t (fun b => some (spec_l2Weight.mk b)) v0) := by
  unfold spec_l2Weight.t
  repeat' first | exact Sub.ret | exact Sub.none | exact Sub.loop | apply Sub.cond | (apply Sub.bind; intro _)
theorem spec_l2Weight.eq (v0 : Int) {b : Bool} (h : spec_l2Weight.t some v0 = some b) : spec_l2Weight v0 = some b := tOf_intro spec_l2Weight.un (fun _ => by kernel_rfl) (vlim_fn (callT_le E tab) rfl rfl rfl ((spec_l2Weight.k v0).trans (spec_l2Weight.s v0 b h)))
noncomputable def spec_l2Put.q2 (v0 : List (List Int × Int)) (v1 : Int) (v2 : List Int) (v3 : Int) : Option R := loopAtL E (callT E tab) 86 Try.f86 3 [.r, .r, .l, .b] (vc (.d .fro (.sl (.pair (.sl (.int .i64)) (.int .i64))) v0) :: nn 1 (vc (iL v1) :: nn 1 (⟨(.box false), [.d .fro (.sl (.int .i64)) v2], false, false, false, 0, 0⟩ :: nn 2 (vc (iL v3) :: nn 64 ([])))))
noncomputable def spec_l2Put.l2 (v0 : List (List Int × Int)) (v1 : Int) (v2 : List Int) (v3 : Int) : Option ((List (List Int × Int))) := tOf spec_l2Put.mk (spec_l2Put.q2 v0 v1 v2 v3)
noncomputable def spec_l2Put.t {γ : Type} (ret : ((List (List Int × Int))) → Option γ) (lp2 : (List (List Int × Int)) → Int → (List Int) → Int → Option γ) (v0 : List (List Int × Int)) (v1 : List Int) (v2 : Int) : Option γ :=
  lp2 (v0) (v2) (v1) ((0 : Int))
noncomputable def spec_l2Put.t2 {γ : Type} (ret : ((List (List Int × Int))) → Option γ) (lp2 : (List (List Int × Int)) → Int → (List Int) → Int → Option γ) (v0 : List (List Int × Int)) (v1 : Int) (v2 : List Int) (v3 : Int) : Option γ :=
  bif Decidable.decide (v3 < (↑v0.length : Int)) then
    bif Decidable.decide ((0 : Int) ≤ v3) then
      bif Decidable.decide (v3.toNat < v0.length) then
        (spec_l1Compare ((v0.getD v3.toNat ([], (0 : Int))).fst) (v2)).bind fun (r0 : Int) =>
        bif Decidable.decide (r0 < (0 : Int)) then
          lp2 (v0) (v1) (v2) (Go.IntKind.i64.wrap (v3 + (1 : Int)))
        else
          bif Decidable.decide (Option.none.getD (0 : Int) ≤ v3) then
            bif Decidable.decide (v3 ≤ (↑v0.length : Int)) then
              bif Decidable.decide   ((List.take (v3 - Option.none.getD (0 : Int)).toNat (List.drop (Option.none.getD (0 : Int)).toNat v0)).length ≤     (4294967296 : Nat)) then
                (spec_l2OwnRow (v2)).bind fun (r1 : (List Int)) =>
                bif Decidable.decide (v3 < (↑v0.length : Int)) then
                  bif Decidable.decide ((0 : Int) ≤ v3) then
                    bif Decidable.decide (v3.toNat < v0.length) then
                      (spec_l1Compare ((v0.getD v3.toNat ([], (0 : Int))).fst) (v2)).bind fun (r2 : Int) =>
                      bif r2 == (0 : Int) then
                        bif Decidable.decide ((0 : Int) ≤ v3) then
                          bif Decidable.decide (v3.toNat < v0.length) then
                            bif Go.IntKind.i64.wrap (v1 + (v0.getD v3.toNat ([], (0 : Int))).snd) != (0 : Int) then
                              bif Decidable.decide   ((List.take (v3 - Option.none.getD (0 : Int)).toNat (List.drop (Option.none.getD (0 : Int)).toNat v0)).length +       [(r1, Go.IntKind.i64.wrap (v1 + (v0.getD v3.toNat ([], (0 : Int))).snd))].length ≤     (4294967296 : Nat)) then
                                bif Decidable.decide ((0 : Int) ≤ (Option.some (Go.IntKind.i64.wrap (v3 + (1 : Int)))).getD (0 : Int)) then
                                  bif Decidable.decide ((Option.some (Go.IntKind.i64.wrap (v3 + (1 : Int)))).getD (0 : Int) ≤ (↑v0.length : Int)) then
                                    bif Decidable.decide   ((List.take (v3 - Option.none.getD (0 : Int)).toNat (List.drop (Option.none.getD (0 : Int)).toNat v0) ++           [(r1, Go.IntKind.i64.wrap (v1 + (v0.getD v3.toNat ([], (0 : Int))).snd))]).length +       (List.drop ((Option.some (Go.IntKind.i64.wrap (v3 + (1 : Int)))).getD (0 : Int)).toNat v0).length ≤     (4294967296 : Nat)) then
                                      ret (List.take (v3 - Option.none.getD (0 : Int)).toNat (List.drop (Option.none.getD (0 : Int)).toNat v0) ++     [(r1, Go.IntKind.i64.wrap (v1 + (v0.getD v3.toNat ([], (0 : Int))).snd))] ++   List.drop ((Option.some (Go.IntKind.i64.wrap (v3 + (1 : Int)))).getD (0 : Int)).toNat v0)
                                    else
                                      none
                                  else
                                    none
                                else
                                  none
                              else
                                none
                            else
                              bif Decidable.decide ((0 : Int) ≤ (Option.some (Go.IntKind.i64.wrap (v3 + (1 : Int)))).getD (0 : Int)) then
                                bif Decidable.decide ((Option.some (Go.IntKind.i64.wrap (v3 + (1 : Int)))).getD (0 : Int) ≤ (↑v0.length : Int)) then
                                  bif Decidable.decide   ((List.take (v3 - Option.none.getD (0 : Int)).toNat (List.drop (Option.none.getD (0 : Int)).toNat v0)).length +       (List.drop ((Option.some (Go.IntKind.i64.wrap (v3 + (1 : Int)))).getD (0 : Int)).toNat v0).length ≤     (4294967296 : Nat)) then
                                    ret (List.take (v3 - Option.none.getD (0 : Int)).toNat (List.drop (Option.none.getD (0 : Int)).toNat v0) ++   List.drop ((Option.some (Go.IntKind.i64.wrap (v3 + (1 : Int)))).getD (0 : Int)).toNat v0)
                                  else
                                    none
                                else
                                  none
                              else
                                none
                          else
                            none
                        else
                          none
                      else
                        bif v1 != (0 : Int) then
                          bif Decidable.decide   ((List.take (v3 - Option.none.getD (0 : Int)).toNat (List.drop (Option.none.getD (0 : Int)).toNat v0)).length +       [(r1, v1)].length ≤     (4294967296 : Nat)) then
                            bif Decidable.decide ((0 : Int) ≤ (Option.some v3).getD (0 : Int)) then
                              bif Decidable.decide ((Option.some v3).getD (0 : Int) ≤ (↑v0.length : Int)) then
                                bif Decidable.decide   ((List.take (v3 - Option.none.getD (0 : Int)).toNat (List.drop (Option.none.getD (0 : Int)).toNat v0) ++           [(r1, v1)]).length +       (List.drop ((Option.some v3).getD (0 : Int)).toNat v0).length ≤     (4294967296 : Nat)) then
                                  ret (List.take (v3 - Option.none.getD (0 : Int)).toNat (List.drop (Option.none.getD (0 : Int)).toNat v0) ++ [(r1, v1)] ++   List.drop ((Option.some v3).getD (0 : Int)).toNat v0)
                                else
                                  none
                              else
                                none
                            else
                              none
                          else
                            none
                        else
                          bif Decidable.decide ((0 : Int) ≤ (Option.some v3).getD (0 : Int)) then
                            bif Decidable.decide ((Option.some v3).getD (0 : Int) ≤ (↑v0.length : Int)) then
                              bif Decidable.decide   ((List.take (v3 - Option.none.getD (0 : Int)).toNat (List.drop (Option.none.getD (0 : Int)).toNat v0)).length +       (List.drop ((Option.some v3).getD (0 : Int)).toNat v0).length ≤     (4294967296 : Nat)) then
                                ret (List.take (v3 - Option.none.getD (0 : Int)).toNat (List.drop (Option.none.getD (0 : Int)).toNat v0) ++   List.drop ((Option.some v3).getD (0 : Int)).toNat v0)
                              else
                                none
                            else
                              none
                          else
                            none
                    else
                      none
                  else
                    none
                else
                  bif v1 != (0 : Int) then
                    bif Decidable.decide   ((List.take (v3 - Option.none.getD (0 : Int)).toNat (List.drop (Option.none.getD (0 : Int)).toNat v0)).length +       [(r1, v1)].length ≤     (4294967296 : Nat)) then
                      bif Decidable.decide ((0 : Int) ≤ (Option.some v3).getD (0 : Int)) then
                        bif Decidable.decide ((Option.some v3).getD (0 : Int) ≤ (↑v0.length : Int)) then
                          bif Decidable.decide   ((List.take (v3 - Option.none.getD (0 : Int)).toNat (List.drop (Option.none.getD (0 : Int)).toNat v0) ++           [(r1, v1)]).length +       (List.drop ((Option.some v3).getD (0 : Int)).toNat v0).length ≤     (4294967296 : Nat)) then
                            ret (List.take (v3 - Option.none.getD (0 : Int)).toNat (List.drop (Option.none.getD (0 : Int)).toNat v0) ++ [(r1, v1)] ++   List.drop ((Option.some v3).getD (0 : Int)).toNat v0)
                          else
                            none
                        else
                          none
                      else
                        none
                    else
                      none
                  else
                    bif Decidable.decide ((0 : Int) ≤ (Option.some v3).getD (0 : Int)) then
                      bif Decidable.decide ((Option.some v3).getD (0 : Int) ≤ (↑v0.length : Int)) then
                        bif Decidable.decide   ((List.take (v3 - Option.none.getD (0 : Int)).toNat (List.drop (Option.none.getD (0 : Int)).toNat v0)).length +       (List.drop ((Option.some v3).getD (0 : Int)).toNat v0).length ≤     (4294967296 : Nat)) then
                          ret (List.take (v3 - Option.none.getD (0 : Int)).toNat (List.drop (Option.none.getD (0 : Int)).toNat v0) ++   List.drop ((Option.some v3).getD (0 : Int)).toNat v0)
                        else
                          none
                      else
                        none
                    else
                      none
              else
                none
            else
              none
          else
            none
      else
        none
    else
      none
  else
    bif Decidable.decide (Option.none.getD (0 : Int) ≤ v3) then
      bif Decidable.decide (v3 ≤ (↑v0.length : Int)) then
        bif Decidable.decide   ((List.take (v3 - Option.none.getD (0 : Int)).toNat (List.drop (Option.none.getD (0 : Int)).toNat v0)).length ≤     (4294967296 : Nat)) then
          (spec_l2OwnRow (v2)).bind fun (r3 : (List Int)) =>
          bif Decidable.decide (v3 < (↑v0.length : Int)) then
            bif Decidable.decide ((0 : Int) ≤ v3) then
              bif Decidable.decide (v3.toNat < v0.length) then
                (spec_l1Compare ((v0.getD v3.toNat ([], (0 : Int))).fst) (v2)).bind fun (r4 : Int) =>
                bif r4 == (0 : Int) then
                  bif Decidable.decide ((0 : Int) ≤ v3) then
                    bif Decidable.decide (v3.toNat < v0.length) then
                      bif Go.IntKind.i64.wrap (v1 + (v0.getD v3.toNat ([], (0 : Int))).snd) != (0 : Int) then
                        bif Decidable.decide   ((List.take (v3 - Option.none.getD (0 : Int)).toNat (List.drop (Option.none.getD (0 : Int)).toNat v0)).length +       [(r3, Go.IntKind.i64.wrap (v1 + (v0.getD v3.toNat ([], (0 : Int))).snd))].length ≤     (4294967296 : Nat)) then
                          bif Decidable.decide ((0 : Int) ≤ (Option.some (Go.IntKind.i64.wrap (v3 + (1 : Int)))).getD (0 : Int)) then
                            bif Decidable.decide ((Option.some (Go.IntKind.i64.wrap (v3 + (1 : Int)))).getD (0 : Int) ≤ (↑v0.length : Int)) then
                              bif Decidable.decide   ((List.take (v3 - Option.none.getD (0 : Int)).toNat (List.drop (Option.none.getD (0 : Int)).toNat v0) ++           [(r3, Go.IntKind.i64.wrap (v1 + (v0.getD v3.toNat ([], (0 : Int))).snd))]).length +       (List.drop ((Option.some (Go.IntKind.i64.wrap (v3 + (1 : Int)))).getD (0 : Int)).toNat v0).length ≤     (4294967296 : Nat)) then
                                ret (List.take (v3 - Option.none.getD (0 : Int)).toNat (List.drop (Option.none.getD (0 : Int)).toNat v0) ++     [(r3, Go.IntKind.i64.wrap (v1 + (v0.getD v3.toNat ([], (0 : Int))).snd))] ++   List.drop ((Option.some (Go.IntKind.i64.wrap (v3 + (1 : Int)))).getD (0 : Int)).toNat v0)
                              else
                                none
                            else
                              none
                          else
                            none
                        else
                          none
                      else
                        bif Decidable.decide ((0 : Int) ≤ (Option.some (Go.IntKind.i64.wrap (v3 + (1 : Int)))).getD (0 : Int)) then
                          bif Decidable.decide ((Option.some (Go.IntKind.i64.wrap (v3 + (1 : Int)))).getD (0 : Int) ≤ (↑v0.length : Int)) then
                            bif Decidable.decide   ((List.take (v3 - Option.none.getD (0 : Int)).toNat (List.drop (Option.none.getD (0 : Int)).toNat v0)).length +       (List.drop ((Option.some (Go.IntKind.i64.wrap (v3 + (1 : Int)))).getD (0 : Int)).toNat v0).length ≤     (4294967296 : Nat)) then
                              ret (List.take (v3 - Option.none.getD (0 : Int)).toNat (List.drop (Option.none.getD (0 : Int)).toNat v0) ++   List.drop ((Option.some (Go.IntKind.i64.wrap (v3 + (1 : Int)))).getD (0 : Int)).toNat v0)
                            else
                              none
                          else
                            none
                        else
                          none
                    else
                      none
                  else
                    none
                else
                  bif v1 != (0 : Int) then
                    bif Decidable.decide   ((List.take (v3 - Option.none.getD (0 : Int)).toNat (List.drop (Option.none.getD (0 : Int)).toNat v0)).length +       [(r3, v1)].length ≤     (4294967296 : Nat)) then
                      bif Decidable.decide ((0 : Int) ≤ (Option.some v3).getD (0 : Int)) then
                        bif Decidable.decide ((Option.some v3).getD (0 : Int) ≤ (↑v0.length : Int)) then
                          bif Decidable.decide   ((List.take (v3 - Option.none.getD (0 : Int)).toNat (List.drop (Option.none.getD (0 : Int)).toNat v0) ++           [(r3, v1)]).length +       (List.drop ((Option.some v3).getD (0 : Int)).toNat v0).length ≤     (4294967296 : Nat)) then
                            ret (List.take (v3 - Option.none.getD (0 : Int)).toNat (List.drop (Option.none.getD (0 : Int)).toNat v0) ++ [(r3, v1)] ++   List.drop ((Option.some v3).getD (0 : Int)).toNat v0)
                          else
                            none
                        else
                          none
                      else
                        none
                    else
                      none
                  else
                    bif Decidable.decide ((0 : Int) ≤ (Option.some v3).getD (0 : Int)) then
                      bif Decidable.decide ((Option.some v3).getD (0 : Int) ≤ (↑v0.length : Int)) then
                        bif Decidable.decide   ((List.take (v3 - Option.none.getD (0 : Int)).toNat (List.drop (Option.none.getD (0 : Int)).toNat v0)).length +       (List.drop ((Option.some v3).getD (0 : Int)).toNat v0).length ≤     (4294967296 : Nat)) then
                          ret (List.take (v3 - Option.none.getD (0 : Int)).toNat (List.drop (Option.none.getD (0 : Int)).toNat v0) ++   List.drop ((Option.some v3).getD (0 : Int)).toNat v0)
                        else
                          none
                      else
                        none
                    else
                      none
              else
                none
            else
              none
          else
            bif v1 != (0 : Int) then
              bif Decidable.decide   ((List.take (v3 - Option.none.getD (0 : Int)).toNat (List.drop (Option.none.getD (0 : Int)).toNat v0)).length +       [(r3, v1)].length ≤     (4294967296 : Nat)) then
                bif Decidable.decide ((0 : Int) ≤ (Option.some v3).getD (0 : Int)) then
                  bif Decidable.decide ((Option.some v3).getD (0 : Int) ≤ (↑v0.length : Int)) then
                    bif Decidable.decide   ((List.take (v3 - Option.none.getD (0 : Int)).toNat (List.drop (Option.none.getD (0 : Int)).toNat v0) ++           [(r3, v1)]).length +       (List.drop ((Option.some v3).getD (0 : Int)).toNat v0).length ≤     (4294967296 : Nat)) then
                      ret (List.take (v3 - Option.none.getD (0 : Int)).toNat (List.drop (Option.none.getD (0 : Int)).toNat v0) ++ [(r3, v1)] ++   List.drop ((Option.some v3).getD (0 : Int)).toNat v0)
                    else
                      none
                  else
                    none
                else
                  none
              else
                none
            else
              bif Decidable.decide ((0 : Int) ≤ (Option.some v3).getD (0 : Int)) then
                bif Decidable.decide ((Option.some v3).getD (0 : Int) ≤ (↑v0.length : Int)) then
                  bif Decidable.decide   ((List.take (v3 - Option.none.getD (0 : Int)).toNat (List.drop (Option.none.getD (0 : Int)).toNat v0)).length +       (List.drop ((Option.some v3).getD (0 : Int)).toNat v0).length ≤     (4294967296 : Nat)) then
                    ret (List.take (v3 - Option.none.getD (0 : Int)).toNat (List.drop (Option.none.getD (0 : Int)).toNat v0) ++   List.drop ((Option.some v3).getD (0 : Int)).toNat v0)
                  else
                    none
                else
                  none
              else
                none
        else
          none
      else
        none
    else
      none
theorem spec_l2Put.k (v0 : List (List Int × Int)) (v1 : List Int) (v2 : Int) : topL E (callT E tab) 86 Try.f86 (spec_l2Put.c v0 v1 v2) = spec_l2Put.t (fun b => some (spec_l2Put.mk b)) spec_l2Put.q2 v0 v1 v2 := by kernel_rfl
theorem spec_l2Put.k2 (v0 : List (List Int × Int)) (v1 : Int) (v2 : List Int) (v3 : Int) : roundL E (callT E tab) 86 Try.f86 3 [.r, .r, .l, .b] (vc (.d .fro (.sl (.pair (.sl (.int .i64)) (.int .i64))) v0) :: nn 1 (vc (iL v1) :: nn 1 (⟨(.box false), [.d .fro (.sl (.int .i64)) v2], false, false, false, 0, 0⟩ :: nn 2 (vc (iL v3) :: nn 64 ([]))))) = spec_l2Put.t2 (fun b => some (spec_l2Put.mk b)) spec_l2Put.q2 v0 v1 v2 v3 := by kernel_rfl
theorem spec_l2Put.s (v0 : List (List Int × Int)) (v1 : List Int) (v2 : Int) : Sub spec_l2Put.mk (spec_l2Put.t some spec_l2Put.l2 v0 v1 v2) (spec_l2Put.t (fun b => some (spec_l2Put.mk b)) spec_l2Put.q2 v0 v1 v2) := by
  unfold spec_l2Put.t
  repeat' first | exact Sub.ret | exact Sub.none | exact Sub.loop | apply Sub.cond | (apply Sub.bind; intro _)
theorem spec_l2Put.eq (v0 : List (List Int × Int)) (v1 : List Int) (v2 : Int) {b : (List (List Int × Int))} (h : spec_l2Put.t some spec_l2Put.l2 v0 v1 v2 = some b) : spec_l2Put v0 v1 v2 = some b := tOf_intro spec_l2Put.un (fun _ => by kernel_rfl) (vlim_fn (callT_le E tab) rfl rfl rfl ((spec_l2Put.k v0 v1 v2).trans (spec_l2Put.s v0 v1 v2 b h)))
theorem spec_l2Put.s2 (v0 : List (List Int × Int)) (v1 : Int) (v2 : List Int) (v3 : Int) : Sub spec_l2Put.mk (spec_l2Put.t2 some spec_l2Put.l2 v0 v1 v2 v3) (spec_l2Put.t2 (fun b => some (spec_l2Put.mk b)) spec_l2Put.q2 v0 v1 v2 v3) := by
  unfold spec_l2Put.t2
  repeat' first | exact Sub.ret | exact Sub.none | exact Sub.loop | apply Sub.cond | (apply Sub.bind; intro _)
theorem spec_l2Put.eq2 (v0 : List (List Int × Int)) (v1 : Int) (v2 : List Int) (v3 : Int) {b : (List (List Int × Int))} (h : spec_l2Put.t2 some spec_l2Put.l2 v0 v1 v2 v3 = some b) : spec_l2Put.l2 v0 v1 v2 v3 = some b := tOf_intro spec_l2Put.un (fun _ => by kernel_rfl) (loopAtL_step ((spec_l2Put.k2 v0 v1 v2 v3).trans (spec_l2Put.s2 v0 v1 v2 v3 b h)))
noncomputable def spec_l1Compare.q2 (v0 : List Int) (v1 : List Int) (v2 : Int) : Option R := loopAtL E (callT E tab) 106 Try.f106 2 [.r, .l, .r, .b] (nn 2 (⟨(.box false), [.d .fro (.sl (.int .i64)) v0], false, false, false, 0, 0⟩ :: ⟨(.box false), [.d .fro (.sl (.int .i64)) v1], false, false, false, 0, 0⟩ :: nn 1 (vc (iL v2) :: nn 52 ([]))))
noncomputable def spec_l1Compare.l2 (v0 : List Int) (v1 : List Int) (v2 : Int) : Option (Int) := tOf spec_l1Compare.mk (spec_l1Compare.q2 v0 v1 v2)
noncomputable def spec_l1Compare.t {γ : Type} (ret : (Int) → Option γ) (lp2 : (List Int) → (List Int) → Int → Option γ) (v0 : List Int) (v1 : List Int) : Option γ :=
  lp2 (v0) (v1) ((0 : Int))
noncomputable def spec_l1Compare.t2 {γ : Type} (ret : (Int) → Option γ) (lp2 : (List Int) → (List Int) → Int → Option γ) (v0 : List Int) (v1 : List Int) (v2 : Int) : Option γ :=
  bif Decidable.decide (v2 < (↑v0.length : Int)) then
    bif Decidable.decide (v2 < (↑v1.length : Int)) then
      bif Decidable.decide ((0 : Int) ≤ v2) then
        bif Decidable.decide (v2.toNat < v0.length) then
          bif Decidable.decide ((0 : Int) ≤ v2) then
            bif Decidable.decide (v2.toNat < v1.length) then
              bif Decidable.decide (v0.getD v2.toNat (0 : Int) < v1.getD v2.toNat (0 : Int)) then
                ret ((-1 : Int))
              else
                bif Decidable.decide ((0 : Int) ≤ v2) then
                  bif Decidable.decide (v2.toNat < v0.length) then
                    bif Decidable.decide ((0 : Int) ≤ v2) then
                      bif Decidable.decide (v2.toNat < v1.length) then
                        bif Decidable.decide (v0.getD v2.toNat (0 : Int) > v1.getD v2.toNat (0 : Int)) then
                          ret ((1 : Int))
                        else
                          lp2 (v0) (v1) (Go.IntKind.i64.wrap (v2 + (1 : Int)))
                      else
                        none
                    else
                      none
                  else
                    none
                else
                  none
            else
              none
          else
            none
        else
          none
      else
        none
    else
      bif Decidable.decide ((↑v0.length : Int) < (↑v1.length : Int)) then
        ret ((-1 : Int))
      else
        bif Decidable.decide ((↑v0.length : Int) > (↑v1.length : Int)) then
          ret ((1 : Int))
        else
          ret ((0 : Int))
  else
    bif Decidable.decide ((↑v0.length : Int) < (↑v1.length : Int)) then
      ret ((-1 : Int))
    else
      bif Decidable.decide ((↑v0.length : Int) > (↑v1.length : Int)) then
        ret ((1 : Int))
      else
        ret ((0 : Int))
theorem spec_l1Compare.k (v0 : List Int) (v1 : List Int) : topL E (callT E tab) 106 Try.f106 (spec_l1Compare.c v0 v1) = spec_l1Compare.t (fun b => some (spec_l1Compare.mk b)) spec_l1Compare.q2 v0 v1 := by kernel_rfl
theorem spec_l1Compare.k2 (v0 : List Int) (v1 : List Int) (v2 : Int) : roundL E (callT E tab) 106 Try.f106 2 [.r, .l, .r, .b] (nn 2 (⟨(.box false), [.d .fro (.sl (.int .i64)) v0], false, false, false, 0, 0⟩ :: ⟨(.box false), [.d .fro (.sl (.int .i64)) v1], false, false, false, 0, 0⟩ :: nn 1 (vc (iL v2) :: nn 52 ([])))) = spec_l1Compare.t2 (fun b => some (spec_l1Compare.mk b)) spec_l1Compare.q2 v0 v1 v2 := by kernel_rfl
theorem spec_l1Compare.s (v0 : List Int) (v1 : List Int) : Sub spec_l1Compare.mk (spec_l1Compare.t some spec_l1Compare.l2 v0 v1) (spec_l1Compare.t (fun b => some (spec_l1Compare.mk b)) spec_l1Compare.q2 v0 v1) := by
  unfold spec_l1Compare.t
  repeat' first | exact Sub.ret | exact Sub.none | exact Sub.loop | apply Sub.cond | (apply Sub.bind; intro _)
theorem spec_l1Compare.eq (v0 : List Int) (v1 : List Int) {b : Int} (h : spec_l1Compare.t some spec_l1Compare.l2 v0 v1 = some b) : spec_l1Compare v0 v1 = some b := tOf_intro spec_l1Compare.un (fun _ => by kernel_rfl) (vlim_fn (callT_le E tab) rfl rfl rfl ((spec_l1Compare.k v0 v1).trans (spec_l1Compare.s v0 v1 b h)))
theorem spec_l1Compare.s2 (v0 : List Int) (v1 : List Int) (v2 : Int) : Sub spec_l1Compare.mk (spec_l1Compare.t2 some spec_l1Compare.l2 v0 v1 v2) (spec_l1Compare.t2 (fun b => some (spec_l1Compare.mk b)) spec_l1Compare.q2 v0 v1 v2) := by
  unfold spec_l1Compare.t2
  repeat' first | exact Sub.ret | exact Sub.none | exact Sub.loop | apply Sub.cond | (apply Sub.bind; intro _)
theorem spec_l1Compare.eq2 (v0 : List Int) (v1 : List Int) (v2 : Int) {b : Int} (h : spec_l1Compare.t2 some spec_l1Compare.l2 v0 v1 v2 = some b) : spec_l1Compare.l2 v0 v1 v2 = some b := tOf_intro spec_l1Compare.un (fun _ => by kernel_rfl) (loopAtL_step ((spec_l1Compare.k2 v0 v1 v2).trans (spec_l1Compare.s2 v0 v1 v2 b h)))
noncomputable def spec_l2OwnRow.t {γ : Type} (ret : ((List Int)) → Option γ) (v0 : List Int) : Option γ :=
  bif Decidable.decide (([] : List Int).length + v0.length ≤ (4294967296 : Nat)) then
    ret ([] ++ v0)
  else
    none
theorem spec_l2OwnRow.k (v0 : List Int) : topL E (callT E tab) 107 Try.f107 (spec_l2OwnRow.c v0) = spec_l2OwnRow.t (fun b => some (spec_l2OwnRow.mk b)) v0 := by kernel_rfl
theorem spec_l2OwnRow.s (v0 : List Int) : Sub spec_l2OwnRow.mk (spec_l2OwnRow.t some v0) (spec_l2OwnRow.t (fun b => some (spec_l2OwnRow.mk b)) v0) := by
  unfold spec_l2OwnRow.t
  repeat' first | exact Sub.ret | exact Sub.none | exact Sub.loop | apply Sub.cond | (apply Sub.bind; intro _)
theorem spec_l2OwnRow.eq (v0 : List Int) {b : (List Int)} (h : spec_l2OwnRow.t some v0 = some b) : spec_l2OwnRow v0 = some b := tOf_intro spec_l2OwnRow.un (fun _ => by kernel_rfl) (vlim_fn (callT_le E tab) rfl rfl rfl ((spec_l2OwnRow.k v0).trans (spec_l2OwnRow.s v0 b h)))
noncomputable def spec_l2Tell.q3 (v0 : Int) (v1 : List (List Int × Int)) (v2 : Int) (v3 : List (List Int × Int)) (v4 : List (List Int × Int)) (v5 : Int) (v6 : Int) : Option R := loopAtL E (callT E tab) 60 Try.f60 2 [.r, .r, .l, .r, .b] (nn 4 (⟨(.box false), [iL v0, .d .deep (.sl (.pair (.sl (.int .i64)) (.int .i64))) v1], false, false, false, 0, 0⟩ :: nn 1 (⟨(.box false), [iL v2, .d .deep (.sl (.pair (.sl (.int .i64)) (.int .i64))) v3], false, false, false, 0, 0⟩ :: nn 4 (vc (.d .fro (.sl (.pair (.sl (.int .i64)) (.int .i64))) v4) :: vc (iL v5) :: vc (iL v6) :: nn 20 ([])))))
noncomputable def spec_l2Tell.l3 (v0 : Int) (v1 : List (List Int × Int)) (v2 : Int) (v3 : List (List Int × Int)) (v4 : List (List Int × Int)) (v5 : Int) (v6 : Int) : Option (Int × (List (List Int × Int)) × Bool) := tOf spec_l2Tell.mk (spec_l2Tell.q3 v0 v1 v2 v3 v4 v5 v6)
noncomputable def spec_l2Tell.t {γ : Type} (ret : (Int × (List (List Int × Int)) × Bool) → Option γ) (lp3 : Int → (List (List Int × Int)) → Int → (List (List Int × Int)) → (List (List Int × Int)) → Int → Int → Option γ) (v0 : Int) (v1 : List (List Int × Int)) : Option γ :=
  lp3 ((0 : Int)) ([]) (v0) ([]) (v1) ((↑v1.length : Int)) ((0 : Int))
noncomputable def spec_l2Tell.t3 {γ : Type} (ret : (Int × (List (List Int × Int)) × Bool) → Option γ) (lp3 : Int → (List (List Int × Int)) → Int → (List (List Int × Int)) → (List (List Int × Int)) → Int → Int → Option γ) (v0 : Int) (v1 : List (List Int × Int)) (v2 : Int) (v3 : List (List Int × Int)) (v4 : List (List Int × Int)) (v5 : Int) (v6 : Int) : Option γ :=
  bif Decidable.decide (v6 < v5) then
    bif Decidable.decide ((0 : Int) ≤ v6) then
      bif Decidable.decide (v6.toNat < v4.length) then
        (spec_l2OwnRow ((v4.getD v6.toNat ([], (0 : Int))).fst)).bind fun (r0 : (List Int)) =>
        bif Decidable.decide (v3.length + [(r0, (v4.getD v6.toNat ([], (0 : Int))).snd)].length ≤ (4294967296 : Nat)) then
          lp3 (v0) (v1) (v2) (v3 ++ [(r0, (v4.getD v6.toNat ([], (0 : Int))).snd)]) (v4) (v5) (Go.IntKind.i64.wrap (v6 + (1 : Int)))
        else
          none
      else
        none
    else
      none
  else
    (spec_GoodTable (v2) (v3)).bind fun (r1 : Bool) =>
    bif !r1 then
      ret ((0 : Int), [], Bool.false)
    else
      ret (v2, v3, Bool.true)
theorem spec_l2Tell.k (v0 : Int) (v1 : List (List Int × Int)) : topL E (callT E tab) 60 Try.f60 (spec_l2Tell.c v0 v1) = spec_l2Tell.t (fun b => some (spec_l2Tell.mk b)) spec_l2Tell.q3 v0 v1 := by kernel_rfl
theorem spec_l2Tell.k3 (v0 : Int) (v1 : List (List Int × Int)) (v2 : Int) (v3 : List (List Int × Int)) (v4 : List (List Int × Int)) (v5 : Int) (v6 : Int) : roundL E (callT E tab) 60 Try.f60 2 [.r, .r, .l, .r, .b] (nn 4 (⟨(.box false), [iL v0, .d .deep (.sl (.pair (.sl (.int .i64)) (.int .i64))) v1], false, false, false, 0, 0⟩ :: nn 1 (⟨(.box false), [iL v2, .d .deep (.sl (.pair (.sl (.int .i64)) (.int .i64))) v3], false, false, false, 0, 0⟩ :: nn 4 (vc (.d .fro (.sl (.pair (.sl (.int .i64)) (.int .i64))) v4) :: vc (iL v5) :: vc (iL v6) :: nn 20 ([]))))) = spec_l2Tell.t3 (fun b => some (spec_l2Tell.mk b)) spec_l2Tell.q3 v0 v1 v2 v3 v4 v5 v6 := by kernel_rfl
theorem spec_l2Tell.s (v0 : Int) (v1 : List (List Int × Int)) : Sub spec_l2Tell.mk (spec_l2Tell.t some spec_l2Tell.l3 v0 v1) (spec_l2Tell.t (fun b => some (spec_l2Tell.mk b)) spec_l2Tell.q3 v0 v1) := by
  unfold spec_l2Tell.t
  repeat' first | exact Sub.ret | exact Sub.none | exact Sub.loop | apply Sub.cond | (apply Sub.bind; intro _)
theorem spec_l2Tell.eq (v0 : Int) (v1 : List (List Int × Int)) {b : Int × (List (List Int × Int)) × Bool} (h : spec_l2Tell.t some spec_l2Tell.l3 v0 v1 = some b) : spec_l2Tell v0 v1 = some b := tOf_intro spec_l2Tell.un (fun _ => by kernel_rfl) (vlim_fn (callT_le E tab) rfl rfl rfl ((spec_l2Tell.k v0 v1).trans (spec_l2Tell.s v0 v1 b h)))
theorem spec_l2Tell.s3 (v0 : Int) (v1 : List (List Int × Int)) (v2 : Int) (v3 : List (List Int × Int)) (v4 : List (List Int × Int)) (v5 : Int) (v6 : Int) : Sub spec_l2Tell.mk (spec_l2Tell.t3 some spec_l2Tell.l3 v0 v1 v2 v3 v4 v5 v6) (spec_l2Tell.t3 (fun b => some (spec_l2Tell.mk b)) spec_l2Tell.q3 v0 v1 v2 v3 v4 v5 v6) := by
  unfold spec_l2Tell.t3
  repeat' first | exact Sub.ret | exact Sub.none | exact Sub.loop | apply Sub.cond | (apply Sub.bind; intro _)
theorem spec_l2Tell.eq3 (v0 : Int) (v1 : List (List Int × Int)) (v2 : Int) (v3 : List (List Int × Int)) (v4 : List (List Int × Int)) (v5 : Int) (v6 : Int) {b : Int × (List (List Int × Int)) × Bool} (h : spec_l2Tell.t3 some spec_l2Tell.l3 v0 v1 v2 v3 v4 v5 v6 = some b) : spec_l2Tell.l3 v0 v1 v2 v3 v4 v5 v6 = some b := tOf_intro spec_l2Tell.un (fun _ => by kernel_rfl) (loopAtL_step ((spec_l2Tell.k3 v0 v1 v2 v3 v4 v5 v6).trans (spec_l2Tell.s3 v0 v1 v2 v3 v4 v5 v6 b h)))
noncomputable def spec_GoodTable.q2 (v0 : Int) (v1 : List (List Int × Int)) (v2 : List (List Int × Int)) (v3 : Int) (v4 : Int) : Option R := loopAtL E (callT E tab) 59 Try.f59 1 [.r, .l, .r, .b] (nn 1 (⟨(.box false), [iL v0, .d .fro (.sl (.pair (.sl (.int .i64)) (.int .i64))) v1], false, false, false, 0, 0⟩ :: nn 4 (vc (.d .fro (.sl (.pair (.sl (.int .i64)) (.int .i64))) v2) :: vc (iL v3) :: vc (iL v4) :: nn 55 ([]))))
noncomputable def spec_GoodTable.l2 (v0 : Int) (v1 : List (List Int × Int)) (v2 : List (List Int × Int)) (v3 : Int) (v4 : Int) : Option (Bool) := tOf spec_GoodTable.mk (spec_GoodTable.q2 v0 v1 v2 v3 v4)
noncomputable def spec_GoodTable.t {γ : Type} (ret : (Bool) → Option γ) (lp2 : Int → (List (List Int × Int)) → (List (List Int × Int)) → Int → Int → Option γ) (v0 : Int) (v1 : List (List Int × Int)) : Option γ :=
  lp2 (v0) (v1) (v1) ((↑v1.length : Int)) ((0 : Int))
noncomputable def spec_GoodTable.t2 {γ : Type} (ret : (Bool) → Option γ) (lp2 : Int → (List (List Int × Int)) → (List (List Int × Int)) → Int → Int → Option γ) (v0 : Int) (v1 : List (List Int × Int)) (v2 : List (List Int × Int)) (v3 : Int) (v4 : Int) : Option γ :=
  bif Decidable.decide (v4 < v3) then
    bif Decidable.decide ((0 : Int) ≤ v4) then
      bif Decidable.decide (v4.toNat < v2.length) then
        (spec_GoodRow ((v2.getD v4.toNat ([], (0 : Int))).fst)).bind fun (r0 : Bool) =>
        bif !r0 then
          ret (Bool.false)
        else
          bif (↑(v2.getD v4.toNat ([], (0 : Int))).fst.length : Int) != v0 then
            ret (Bool.false)
          else
            (spec_l2Weight ((v2.getD v4.toNat ([], (0 : Int))).snd)).bind fun (r1 : Bool) =>
            bif !r1 then
              ret (Bool.false)
            else
              bif (v2.getD v4.toNat ([], (0 : Int))).snd == (0 : Int) then
                ret (Bool.false)
              else
                bif Decidable.decide (v4 > (0 : Int)) then
                  bif Decidable.decide ((0 : Int) ≤ Go.IntKind.i64.wrap (v4 - (1 : Int))) then
                    bif Decidable.decide ((Go.IntKind.i64.wrap (v4 - (1 : Int))).toNat < v1.length) then
                      (spec_l1Compare ((v1.getD (Go.IntKind.i64.wrap (v4 - (1 : Int))).toNat ([], (0 : Int))).fst) ((v2.getD v4.toNat ([], (0 : Int))).fst)).bind fun (r2 : Int) =>
                      bif Decidable.decide (r2 ≥ (0 : Int)) then
                        ret (Bool.false)
                      else
                        lp2 (v0) (v1) (v2) (v3) (Go.IntKind.i64.wrap (v4 + (1 : Int)))
                    else
                      none
                  else
                    none
                else
                  lp2 (v0) (v1) (v2) (v3) (Go.IntKind.i64.wrap (v4 + (1 : Int)))
      else
        none
    else
      none
  else
    (spec_l1In (v0) ((0 : Int)) ((6 : Int))).bind fun (r3 : Bool) =>
    bif r3 then
      ret (Decidable.decide ((↑v1.length : Int) ≤ (60 : Int)))
    else
      ret (Bool.false)
theorem spec_GoodTable.k (v0 : Int) (v1 : List (List Int × Int)) : topL E (callT E tab) 59 Try.f59 (spec_GoodTable.c v0 v1) = spec_GoodTable.t (fun b => some (spec_GoodTable.mk b)) spec_GoodTable.q2 v0 v1 := by kernel_rfl
theorem spec_GoodTable.k2 (v0 : Int) (v1 : List (List Int × Int)) (v2 : List (List Int × Int)) (v3 : Int) (v4 : Int) : roundL E (callT E tab) 59 Try.f59 1 [.r, .l, .r, .b] (nn 1 (⟨(.box false), [iL v0, .d .fro (.sl (.pair (.sl (.int .i64)) (.int .i64))) v1], false, false, false, 0, 0⟩ :: nn 4 (vc (.d .fro (.sl (.pair (.sl (.int .i64)) (.int .i64))) v2) :: vc (iL v3) :: vc (iL v4) :: nn 55 ([])))) = spec_GoodTable.t2 (fun b => some (spec_GoodTable.mk b)) spec_GoodTable.q2 v0 v1 v2 v3 v4 := by kernel_rfl
theorem spec_GoodTable.s (v0 : Int) (v1 : List (List Int × Int)) : Sub spec_GoodTable.mk (spec_GoodTable.t some spec_GoodTable.l2 v0 v1) (spec_GoodTable.t (fun b => some (spec_GoodTable.mk b)) spec_GoodTable.q2 v0 v1) := by
  unfold spec_GoodTable.t
  repeat' first | exact Sub.ret | exact Sub.none | exact Sub.loop | apply Sub.cond | (apply Sub.bind; intro _)
theorem spec_GoodTable.eq (v0 : Int) (v1 : List (List Int × Int)) {b : Bool} (h : spec_GoodTable.t some spec_GoodTable.l2 v0 v1 = some b) : spec_GoodTable v0 v1 = some b := tOf_intro spec_GoodTable.un (fun _ => by kernel_rfl) (vlim_fn (callT_le E tab) rfl rfl rfl ((spec_GoodTable.k v0 v1).trans (spec_GoodTable.s v0 v1 b h)))
theorem spec_GoodTable.s2 (v0 : Int) (v1 : List (List Int × Int)) (v2 : List (List Int × Int)) (v3 : Int) (v4 : Int) : Sub spec_GoodTable.mk (spec_GoodTable.t2 some spec_GoodTable.l2 v0 v1 v2 v3 v4) (spec_GoodTable.t2 (fun b => some (spec_GoodTable.mk b)) spec_GoodTable.q2 v0 v1 v2 v3 v4) := by
  unfold spec_GoodTable.t2
  repeat' first | exact Sub.ret | exact Sub.none | exact Sub.loop | apply Sub.cond | (apply Sub.bind; intro _)
theorem spec_GoodTable.eq2 (v0 : Int) (v1 : List (List Int × Int)) (v2 : List (List Int × Int)) (v3 : Int) (v4 : Int) {b : Bool} (h : spec_GoodTable.t2 some spec_GoodTable.l2 v0 v1 v2 v3 v4 = some b) : spec_GoodTable.l2 v0 v1 v2 v3 v4 = some b := tOf_intro spec_GoodTable.un (fun _ => by kernel_rfl) (loopAtL_step ((spec_GoodTable.k2 v0 v1 v2 v3 v4).trans (spec_GoodTable.s2 v0 v1 v2 v3 v4 b h)))
noncomputable def impl_isColumns.t {γ : Type} (ret : (Bool) → Option γ) (v0 : Int) : Option γ :=
  (impl_within (v0) ((0 : Int)) ((6 : Int))).bind fun (r0 : Bool) =>
  ret (r0)
theorem impl_isColumns.k (v0 : Int) : topL E (callT E tab) 88 Try.f88 (impl_isColumns.c v0) = impl_isColumns.t (fun b => some (impl_isColumns.mk b)) v0 := by kernel_rfl
theorem impl_isColumns.s (v0 : Int) : Sub impl_isColumns.mk (impl_isColumns.t some v0) (impl_isColumns.t (fun b => some (impl_isColumns.mk b)) v0) := by
  unfold impl_isColumns.t
  repeat' first | exact Sub.ret | exact Sub.none | exact Sub.loop | apply Sub.cond | (apply Sub.bind; intro _)
theorem impl_isColumns.eq (v0 : Int) {b : Bool} (h : impl_isColumns.t some v0 = some b) : impl_isColumns v0 = some b := tOf_intro impl_isColumns.un (fun _ => by kernel_rfl) (vlim_fn (callT_le E tab) rfl rfl rfl ((impl_isColumns.k v0).trans (impl_isColumns.s v0 b h)))
noncomputable def impl_within.t {γ : Type} (ret : (Bool) → Option γ) (v0 : Int) (v1 : Int) (v2 : Int) : Option γ :=
  bif Decidable.decide (v1 ≤ v0) then
    ret (Decidable.decide (v0 ≤ v2))
  else
    ret (Bool.false)
theorem impl_within.k (v0 : Int) (v1 : Int) (v2 : Int) : topL E (callT E tab) 66 Try.f66 (impl_within.c v0 v1 v2) = impl_within.t (fun b => some (impl_within.mk b)) v0 v1 v2 := by kernel_rfl
theorem impl_within.s (v0 : Int) (v1 : Int) (v2 : Int) : Sub impl_within.mk (impl_within.t some v0 v1 v2) (impl_within.t (fun b => some (impl_within.mk b)) v0 v1 v2) := by
  unfold impl_within.t
  repeat' first | exact Sub.ret | exact Sub.none | exact Sub.loop | apply Sub.cond | (apply Sub.bind; intro _)
theorem impl_within.eq (v0 : Int) (v1 : Int) (v2 : Int) {b : Bool} (h : impl_within.t some v0 v1 v2 = some b) : impl_within v0 v1 v2 = some b := tOf_intro impl_within.un (fun _ => by kernel_rfl) (vlim_fn (callT_le E tab) rfl rfl rfl ((impl_within.k v0 v1 v2).trans (impl_within.s v0 v1 v2 b h)))
noncomputable def impl_isRowOf.t {γ : Type} (ret : (Bool) → Option γ) (v0 : List Int) (v1 : Int) : Option γ :=
  (impl_GoodRow (v0)).bind fun (r0 : Bool) =>
  bif r0 then
    ret ((↑v0.length : Int) == v1)
  else
    ret (Bool.false)
theorem impl_isRowOf.k (v0 : List Int) (v1 : Int) : topL E (callT E tab) 91 Try.f91 (impl_isRowOf.c v0 v1) = impl_isRowOf.t (fun b => some (impl_isRowOf.mk b)) v0 v1 := by kernel_rfl
theorem impl_isRowOf.s (v0 : List Int) (v1 : Int) : Sub impl_isRowOf.mk (impl_isRowOf.t some v0 v1) (impl_isRowOf.t (fun b => some (impl_isRowOf.mk b)) v0 v1) := by
  unfold impl_isRowOf.t
  repeat' first | exact Sub.ret | exact Sub.none | exact Sub.loop | apply Sub.cond | (apply Sub.bind; intro _)
theorem impl_isRowOf.eq (v0 : List Int) (v1 : Int) {b : Bool} (h : impl_isRowOf.t some v0 v1 = some b) : impl_isRowOf v0 v1 = some b := tOf_intro impl_isRowOf.un (fun _ => by kernel_rfl) (vlim_fn (callT_le E tab) rfl rfl rfl ((impl_isRowOf.k v0 v1).trans (impl_isRowOf.s v0 v1 b h)))
noncomputable def impl_GoodRow.t {γ : Type} (ret : (Bool) → Option γ) (v0 : List Int) : Option γ :=
  bif Decidable.decide ((↑v0.length : Int) ≤ (6 : Int)) then
    (impl_areAll_int_impl_isCell (v0)).bind fun (r0 : Bool) =>
    ret (r0)
  else
    ret (Bool.false)
theorem impl_GoodRow.k (v0 : List Int) : topL E (callT E tab) 127 Try.f127 (impl_GoodRow.c v0) = impl_GoodRow.t (fun b => some (impl_GoodRow.mk b)) v0 := by kernel_rfl
theorem impl_GoodRow.s (v0 : List Int) : Sub impl_GoodRow.mk (impl_GoodRow.t some v0) (impl_GoodRow.t (fun b => some (impl_GoodRow.mk b)) v0) := by
  unfold impl_GoodRow.t
  repeat' first | exact Sub.ret | exact Sub.none | exact Sub.loop | apply Sub.cond | (apply Sub.bind; intro _)
theorem impl_GoodRow.eq (v0 : List Int) {b : Bool} (h : impl_GoodRow.t some v0 = some b) : impl_GoodRow v0 = some b := tOf_intro impl_GoodRow.un (fun _ => by kernel_rfl) (vlim_fn (callT_le E tab) rfl rfl rfl ((impl_GoodRow.k v0).trans (impl_GoodRow.s v0 b h)))
end GoV

/- Equations of the program's functions (printed by wip/tools/emit.py). -/
namespace GoV
open Go Go.Proofs
set_option maxRecDepth 100000

noncomputable def impl_areAll_int_impl_isCell.t {γ : Type} (ret : (Bool) → Option γ) (v0 : List Int) : Option γ :=
  (slices_ContainsFunc_int_int_impl_areAll_int_1_impl_isCell (v0)).bind fun (r0 : Bool) =>
  ret (!r0)
theorem impl_areAll_int_impl_isCell.k (v0 : List Int) : topL E (callT E tab) 133 Try.f133 (impl_areAll_int_impl_isCell.c v0) = impl_areAll_int_impl_isCell.t (fun b => some (impl_areAll_int_impl_isCell.mk b)) v0 := by kernel_rfl
theorem impl_areAll_int_impl_isCell.s (v0 : List Int) : Sub impl_areAll_int_impl_isCell.mk (impl_areAll_int_impl_isCell.t some v0) (impl_areAll_int_impl_isCell.t (fun b => some (impl_areAll_int_impl_isCell.mk b)) v0) := by
  unfold impl_areAll_int_impl_isCell.t
  repeat' first | exact Sub.ret | exact Sub.none | exact Sub.loop | apply Sub.cond | (apply Sub.bind; intro _)
theorem impl_areAll_int_impl_isCell.eq (v0 : List Int) {b : Bool} (h : impl_areAll_int_impl_isCell.t some v0 = some b) : impl_areAll_int_impl_isCell v0 = some b := tOf_intro impl_areAll_int_impl_isCell.un (fun _ => by kernel_rfl) (vlim_fn (callT_le E tab) rfl rfl rfl ((impl_areAll_int_impl_isCell.k v0).trans (impl_areAll_int_impl_isCell.s v0 b h)))
noncomputable def slices_ContainsFunc_int_int_impl_areAll_int_1_impl_isCell.t {γ : Type} (ret : (Bool) → Option γ) (v0 : List Int) : Option γ :=
  (slices_IndexFunc_int_int_impl_areAll_int_1_impl_isCell (v0)).bind fun (r0 : Int) =>
  ret (Decidable.decide (r0 ≥ (0 : Int)))
theorem slices_ContainsFunc_int_int_impl_areAll_int_1_impl_isCell.k (v0 : List Int) : topL E (callT E tab) 148 Try.f148 (slices_ContainsFunc_int_int_impl_areAll_int_1_impl_isCell.c v0) = slices_ContainsFunc_int_int_impl_areAll_int_1_impl_isCell.t (fun b => some (slices_ContainsFunc_int_int_impl_areAll_int_1_impl_isCell.mk b)) v0 := by kernel_rfl
theorem slices_ContainsFunc_int_int_impl_areAll_int_1_impl_isCell.s (v0 : List Int) : Sub slices_ContainsFunc_int_int_impl_areAll_int_1_impl_isCell.mk (slices_ContainsFunc_int_int_impl_areAll_int_1_impl_isCell.t some v0) (slices_ContainsFunc_int_int_impl_areAll_int_1_impl_isCell.t (fun b => some (slices_ContainsFunc_int_int_impl_areAll_int_1_impl_isCell.mk b)) v0) := by
  unfold slices_ContainsFunc_int_int_impl_areAll_int_1_impl_isCell.t
  repeat' first | exact Sub.ret | exact Sub.none | exact Sub.loop | apply Sub.cond | (apply Sub.bind; intro _)
theorem slices_ContainsFunc_int_int_impl_areAll_int_1_impl_isCell.eq (v0 : List Int) {b : Bool} (h : slices_ContainsFunc_int_int_impl_areAll_int_1_impl_isCell.t some v0 = some b) : slices_ContainsFunc_int_int_impl_areAll_int_1_impl_isCell v0 = some b := tOf_intro slices_ContainsFunc_int_int_impl_areAll_int_1_impl_isCell.un (fun _ => by kernel_rfl) (vlim_fn (callT_le E tab) rfl rfl rfl ((slices_ContainsFunc_int_int_impl_areAll_int_1_impl_isCell.k v0).trans (slices_ContainsFunc_int_int_impl_areAll_int_1_impl_isCell.s v0 b h)))
noncomputable def slices_IndexFunc_int_int_impl_areAll_int_1_impl_isCell.q2 (v0 : List Int) (v1 : Int) (v2 : Int) : Option R := loopAtL E (callT E tab) 159 Try.f159 2 [.r, .l, .r, .b] (vc (.d .fro (.sl (.int .i64)) v0) :: vc (.fn 149 [.rp [.fn 119 []] 0]) :: nn 5 (vc (iL v1) :: vc (iL v2) :: nn 10 ([])))
noncomputable def slices_IndexFunc_int_int_impl_areAll_int_1_impl_isCell.l2 (v0 : List Int) (v1 : Int) (v2 : Int) : Option (Int) := tOf slices_IndexFunc_int_int_impl_areAll_int_1_impl_isCell.mk (slices_IndexFunc_int_int_impl_areAll_int_1_impl_isCell.q2 v0 v1 v2)
noncomputable def slices_IndexFunc_int_int_impl_areAll_int_1_impl_isCell.t {γ : Type} (ret : (Int) → Option γ) (lp2 : (List Int) → Int → Int → Option γ) (v0 : List Int) : Option γ :=
  lp2 (v0) ((↑v0.length : Int)) ((0 : Int))
noncomputable def slices_IndexFunc_int_int_impl_areAll_int_1_impl_isCell.t2 {γ : Type} (ret : (Int) → Option γ) (lp2 : (List Int) → Int → Int → Option γ) (v0 : List Int) (v1 : Int) (v2 : Int) : Option γ :=
  bif Decidable.decide (v2 < v1) then
    bif Decidable.decide ((0 : Int) ≤ v2) then
      bif Decidable.decide (v2.toNat < v0.length) then
        (impl_areAll_int_1_impl_isCell (v0.getD v2.toNat (0 : Int))).bind fun (r0 : Bool) =>
        bif r0 then
          ret (v2)
        else
          lp2 (v0) (v1) (Go.IntKind.i64.wrap (v2 + (1 : Int)))
      else
        none
    else
      none
  else
    ret ((-1 : Int))
theorem slices_IndexFunc_int_int_impl_areAll_int_1_impl_isCell.k (v0 : List Int) : topL E (callT E tab) 159 Try.f159 (slices_IndexFunc_int_int_impl_areAll_int_1_impl_isCell.c v0) = slices_IndexFunc_int_int_impl_areAll_int_1_impl_isCell.t (fun b => some (slices_IndexFunc_int_int_impl_areAll_int_1_impl_isCell.mk b)) slices_IndexFunc_int_int_impl_areAll_int_1_impl_isCell.q2 v0 := by kernel_rfl
theorem slices_IndexFunc_int_int_impl_areAll_int_1_impl_isCell.k2 (v0 : List Int) (v1 : Int) (v2 : Int) : roundL E (callT E tab) 159 Try.f159 2 [.r, .l, .r, .b] (vc (.d .fro (.sl (.int .i64)) v0) :: vc (.fn 149 [.rp [.fn 119 []] 0]) :: nn 5 (vc (iL v1) :: vc (iL v2) :: nn 10 ([]))) = slices_IndexFunc_int_int_impl_areAll_int_1_impl_isCell.t2 (fun b => some (slices_IndexFunc_int_int_impl_areAll_int_1_impl_isCell.mk b)) slices_IndexFunc_int_int_impl_areAll_int_1_impl_isCell.q2 v0 v1 v2 := by kernel_rfl
theorem slices_IndexFunc_int_int_impl_areAll_int_1_impl_isCell.s (v0 : List Int) : Sub slices_IndexFunc_int_int_impl_areAll_int_1_impl_isCell.mk (slices_IndexFunc_int_int_impl_areAll_int_1_impl_isCell.t some slices_IndexFunc_int_int_impl_areAll_int_1_impl_isCell.l2 v0) (slices_IndexFunc_int_int_impl_areAll_int_1_impl_isCell.t (fun b => some (slices_IndexFunc_int_int_impl_areAll_int_1_impl_isCell.mk b)) slices_IndexFunc_int_int_impl_areAll_int_1_impl_isCell.q2 v0) := by
  unfold slices_IndexFunc_int_int_impl_areAll_int_1_impl_isCell.t
  repeat' first | exact Sub.ret | exact Sub.none | exact Sub.loop | apply Sub.cond | (apply Sub.bind; intro _)
theorem slices_IndexFunc_int_int_impl_areAll_int_1_impl_isCell.eq (v0 : List Int) {b : Int} (h : slices_IndexFunc_int_int_impl_areAll_int_1_impl_isCell.t some slices_IndexFunc_int_int_impl_areAll_int_1_impl_isCell.l2 v0 = some b) : slices_IndexFunc_int_int_impl_areAll_int_1_impl_isCell v0 = some b := tOf_intro slices_IndexFunc_int_int_impl_areAll_int_1_impl_isCell.un (fun _ => by kernel_rfl) (vlim_fn (callT_le E tab) rfl rfl rfl ((slices_IndexFunc_int_int_impl_areAll_int_1_impl_isCell.k v0).trans (slices_IndexFunc_int_int_impl_areAll_int_1_impl_isCell.s v0 b h)))
theorem slices_IndexFunc_int_int_impl_areAll_int_1_impl_isCell.s2 (v0 : List Int) (v1 : Int) (v2 : Int) : Sub slices_IndexFunc_int_int_impl_areAll_int_1_impl_isCell.mk (slices_IndexFunc_int_int_impl_areAll_int_1_impl_isCell.t2 some slices_IndexFunc_int_int_impl_areAll_int_1_impl_isCell.l2 v0 v1 v2) (slices_IndexFunc_int_int_impl_areAll_int_1_impl_isCell.t2 (fun b => some (slices_IndexFunc_int_int_impl_areAll_int_1_impl_isCell.mk b)) slices_IndexFunc_int_int_impl_areAll_int_1_impl_isCell.q2 v0 v1 v2) := by
  unfold slices_IndexFunc_int_int_impl_areAll_int_1_impl_isCell.t2
  repeat' first | exact Sub.ret | exact Sub.none | exact Sub.loop | apply Sub.cond | (apply Sub.bind; intro _)
theorem slices_IndexFunc_int_int_impl_areAll_int_1_impl_isCell.eq2 (v0 : List Int) (v1 : Int) (v2 : Int) {b : Int} (h : slices_IndexFunc_int_int_impl_areAll_int_1_impl_isCell.t2 some slices_IndexFunc_int_int_impl_areAll_int_1_impl_isCell.l2 v0 v1 v2 = some b) : slices_IndexFunc_int_int_impl_areAll_int_1_impl_isCell.l2 v0 v1 v2 = some b := tOf_intro slices_IndexFunc_int_int_impl_areAll_int_1_impl_isCell.un (fun _ => by kernel_rfl) (loopAtL_step ((slices_IndexFunc_int_int_impl_areAll_int_1_impl_isCell.k2 v0 v1 v2).trans (slices_IndexFunc_int_int_impl_areAll_int_1_impl_isCell.s2 v0 v1 v2 b h)))
noncomputable def impl_areAll_int_1_impl_isCell.t {γ : Type} (ret : (Bool) → Option γ) (v0 : Int) : Option γ :=
  (impl_isCell (v0)).bind fun (r0 : Bool) =>
  ret (!r0)
theorem impl_areAll_int_1_impl_isCell.k (v0 : Int) : topL E (callT E tab) 149 Try.f149 (impl_areAll_int_1_impl_isCell.c v0) = impl_areAll_int_1_impl_isCell.t (fun b => some (impl_areAll_int_1_impl_isCell.mk b)) v0 := by kernel_rfl
theorem impl_areAll_int_1_impl_isCell.s (v0 : Int) : Sub impl_areAll_int_1_impl_isCell.mk (impl_areAll_int_1_impl_isCell.t some v0) (impl_areAll_int_1_impl_isCell.t (fun b => some (impl_areAll_int_1_impl_isCell.mk b)) v0) := by
  unfold impl_areAll_int_1_impl_isCell.t
  repeat' first | exact Sub.ret | exact Sub.none | exact Sub.loop | apply Sub.cond | (apply Sub.bind; intro _)
theorem impl_areAll_int_1_impl_isCell.eq (v0 : Int) {b : Bool} (h : impl_areAll_int_1_impl_isCell.t some v0 = some b) : impl_areAll_int_1_impl_isCell v0 = some b := tOf_intro impl_areAll_int_1_impl_isCell.un (fun _ => by kernel_rfl) (vlim_fn (callT_le E tab) rfl rfl rfl ((impl_areAll_int_1_impl_isCell.k v0).trans (impl_areAll_int_1_impl_isCell.s v0 b h)))
noncomputable def impl_isCell.t {γ : Type} (ret : (Bool) → Option γ) (v0 : Int) : Option γ :=
  (impl_within (v0) ((-100000 : Int)) ((100000 : Int))).bind fun (r0 : Bool) =>
  ret (r0)
theorem impl_isCell.k (v0 : Int) : topL E (callT E tab) 119 Try.f119 (impl_isCell.c v0) = impl_isCell.t (fun b => some (impl_isCell.mk b)) v0 := by kernel_rfl
theorem impl_isCell.s (v0 : Int) : Sub impl_isCell.mk (impl_isCell.t some v0) (impl_isCell.t (fun b => some (impl_isCell.mk b)) v0) := by
  unfold impl_isCell.t
  repeat' first | exact Sub.ret | exact Sub.none | exact Sub.loop | apply Sub.cond | (apply Sub.bind; intro _)
theorem impl_isCell.eq (v0 : Int) {b : Bool} (h : impl_isCell.t some v0 = some b) : impl_isCell v0 = some b := tOf_intro impl_isCell.un (fun _ => by kernel_rfl) (vlim_fn (callT_le E tab) rfl rfl rfl ((impl_isCell.k v0).trans (impl_isCell.s v0 b h)))
noncomputable def impl_isWeight.t {γ : Type} (ret : (Bool) → Option γ) (v0 : Int) : Option γ :=
  (impl_within (v0) ((-1000000 : Int)) ((1000000 : Int))).bind fun (r0 : Bool) =>
  ret (r0)
theorem impl_isWeight.k (v0 : Int) : topL E (callT E tab) 92 Try.f92 (impl_isWeight.c v0) = impl_isWeight.t (fun b => some (impl_isWeight.mk b)) v0 := by kernel_rfl
theorem impl_isWeight.s (v0 : Int) : Sub impl_isWeight.mk (impl_isWeight.t some v0) (impl_isWeight.t (fun b => some (impl_isWeight.mk b)) v0) := by
  unfold impl_isWeight.t
  repeat' first | exact Sub.ret | exact Sub.none | exact Sub.loop | apply Sub.cond | (apply Sub.bind; intro _)
theorem impl_isWeight.eq (v0 : Int) {b : Bool} (h : impl_isWeight.t some v0 = some b) : impl_isWeight v0 = some b := tOf_intro impl_isWeight.un (fun _ => by kernel_rfl) (vlim_fn (callT_le E tab) rfl rfl rfl ((impl_isWeight.k v0).trans (impl_isWeight.s v0 b h)))
noncomputable def impl_summed.q7 (v0 : Int) (v1 : List (List Int × Int)) (v2 : Int) (v3 : List (List Int × Int)) (v4 : List (List Int × Int)) (v5 : Int) (v6 : Int) (v7 : Int) : Option R := loopAtL E (callT E tab) 93 Try.f93 2 [.r, .r, .r, .r, .l, .r, .b, .o, .r, .b, .r, .l, .b] (nn 4 (⟨(.box false), [iL v0, .d .deep (.sl (.pair (.sl (.int .i64)) (.int .i64))) v1], false, false, false, 0, 0⟩ :: ⟨(.box false), [iL v2, .d .deep (.sl (.pair (.sl (.int .i64)) (.int .i64))) v3], false, false, false, 0, 0⟩ :: vc (.d .sha (.sl (.pair (.sl (.int .i64)) (.int .i64))) v4) :: vc (iL v5) :: vc (iL v6) :: vc (iL v7) :: nn 55 ([])))
noncomputable def impl_summed.l7 (v0 : Int) (v1 : List (List Int × Int)) (v2 : Int) (v3 : List (List Int × Int)) (v4 : List (List Int × Int)) (v5 : Int) (v6 : Int) (v7 : Int) : Option (Int × (List (List Int × Int))) := tOf impl_summed.mk (impl_summed.q7 v0 v1 v2 v3 v4 v5 v6 v7)
noncomputable def impl_summed.q5 (v0 : Int) (v1 : List (List Int × Int)) (v2 : Int) (v3 : List (List Int × Int)) (v4 : List (List Int × Int)) (v5 : Int) : Option R := loopAtL E (callT E tab) 93 Try.f93 2 [.r, .r, .r, .r, .l, .r, .b] (nn 4 (⟨(.box false), [iL v0, .d .deep (.sl (.pair (.sl (.int .i64)) (.int .i64))) v1], false, false, false, 0, 0⟩ :: ⟨(.box false), [iL v2, .d .deep (.sl (.pair (.sl (.int .i64)) (.int .i64))) v3], false, false, false, 0, 0⟩ :: vc (.d .sha (.sl (.pair (.sl (.int .i64)) (.int .i64))) v4) :: vc (iL v5) :: nn 57 ([])))
noncomputable def impl_summed.l5 (v0 : Int) (v1 : List (List Int × Int)) (v2 : Int) (v3 : List (List Int × Int)) (v4 : List (List Int × Int)) (v5 : Int) : Option (Int × (List (List Int × Int))) := tOf impl_summed.mk (impl_summed.q5 v0 v1 v2 v3 v4 v5)
noncomputable def impl_summed.t {γ : Type} (ret : (Int × (List (List Int × Int))) → Option γ) (lp7 : Int → (List (List Int × Int)) → Int → (List (List Int × Int)) → (List (List Int × Int)) → Int → Int → Int → Option γ) (lp5 : Int → (List (List Int × Int)) → Int → (List (List Int × Int)) → (List (List Int × Int)) → Int → Option γ) (v0 : Int) (v1 : List (List (List Int × Int))) : Option γ :=
  (slices_Concat_impl_Weighted_impl_Weighted (v1)).bind fun (r0 : (List (List Int × Int))) =>
  (slices_SortStableFunc_impl_Weighted_impl_Weighted_impl_summed_1_056 (r0)).bind fun (r1 : (List (List Int × Int))) =>
  lp5 ((0 : Int)) ([]) (v0) ([]) (r1) ((0 : Int))
noncomputable def impl_summed.t7 {γ : Type} (ret : (Int × (List (List Int × Int))) → Option γ) (lp7 : Int → (List (List Int × Int)) → Int → (List (List Int × Int)) → (List (List Int × Int)) → Int → Int → Int → Option γ) (lp5 : Int → (List (List Int × Int)) → Int → (List (List Int × Int)) → (List (List Int × Int)) → Int → Option γ) (v0 : Int) (v1 : List (List Int × Int)) (v2 : Int) (v3 : List (List Int × Int)) (v4 : List (List Int × Int)) (v5 : Int) (v6 : Int) (v7 : Int) : Option γ :=
  bif Decidable.decide (v7 < (↑v4.length : Int)) then
    bif Decidable.decide ((0 : Int) ≤ v7) then
      bif Decidable.decide (v7.toNat < v4.length) then
        bif Decidable.decide (v7.toNat < v4.length) then
          bif Decidable.decide ((0 : Int) ≤ v5) then
            bif Decidable.decide (v5.toNat < v4.length) then
              bif Decidable.decide (v5.toNat < v4.length) then
                (impl_compareRows ((v4.getD v7.toNat ([], (0 : Int))).fst) ((v4.getD v5.toNat ([], (0 : Int))).fst)).bind fun (r2 : Int) =>
                bif r2 == (0 : Int) then
                  bif Decidable.decide ((0 : Int) ≤ v7) then
                    bif Decidable.decide (v7.toNat < v4.length) then
                      bif Decidable.decide (v7.toNat < v4.length) then
                        lp7 (v0) (v1) (v2) (v3) (v4) (v5) (Go.IntKind.i64.wrap (v6 + (v4.getD v7.toNat ([], (0 : Int))).snd)) (Go.IntKind.i64.wrap (v7 + (1 : Int)))
                      else
                        none
                    else
                      none
                  else
                    none
                else
                  bif v6 != (0 : Int) then
                    bif Decidable.decide ((0 : Int) ≤ v5) then
                      bif Decidable.decide (v5.toNat < v4.length) then
                        bif Decidable.decide (v5.toNat < v4.length) then
                          (impl_Row_own ((v4.getD v5.toNat ([], (0 : Int))).fst)).bind fun (r3 : (List Int)) =>
                          bif Decidable.decide (v3.length + [(r3, v6)].length ≤ (4294967296 : Nat)) then
                            lp5 (v0) (v1) (v2) (v3 ++ [(r3, v6)]) (v4) (v7)
                          else
                            none
                        else
                          none
                      else
                        none
                    else
                      none
                  else
                    lp5 (v0) (v1) (v2) (v3) (v4) (v7)
              else
                none
            else
              none
          else
            none
        else
          none
      else
        none
    else
      none
  else
    bif v6 != (0 : Int) then
      bif Decidable.decide ((0 : Int) ≤ v5) then
        bif Decidable.decide (v5.toNat < v4.length) then
          bif Decidable.decide (v5.toNat < v4.length) then
            (impl_Row_own ((v4.getD v5.toNat ([], (0 : Int))).fst)).bind fun (r4 : (List Int)) =>
            bif Decidable.decide (v3.length + [(r4, v6)].length ≤ (4294967296 : Nat)) then
              lp5 (v0) (v1) (v2) (v3 ++ [(r4, v6)]) (v4) (v7)
            else
              none
          else
            none
        else
          none
      else
        none
    else
      lp5 (v0) (v1) (v2) (v3) (v4) (v7)
noncomputable def impl_summed.t5 {γ : Type} (ret : (Int × (List (List Int × Int))) → Option γ) (lp7 : Int → (List (List Int × Int)) → Int → (List (List Int × Int)) → (List (List Int × Int)) → Int → Int → Int → Option γ) (lp5 : Int → (List (List Int × Int)) → Int → (List (List Int × Int)) → (List (List Int × Int)) → Int → Option γ) (v0 : Int) (v1 : List (List Int × Int)) (v2 : Int) (v3 : List (List Int × Int)) (v4 : List (List Int × Int)) (v5 : Int) : Option γ :=
  bif Decidable.decide (v5 < (↑v4.length : Int)) then
    lp7 (v0) (v1) (v2) (v3) (v4) (v5) ((0 : Int)) (v5)
  else
    ret (v2, v3)
theorem impl_summed.k (v0 : Int) (v1 : List (List (List Int × Int))) : topL E (callT E tab) 93 Try.f93 (impl_summed.c v0 v1) = impl_summed.t (fun b => some (impl_summed.mk b)) impl_summed.q7 impl_summed.q5 v0 v1 := by kernel_rfl
theorem impl_summed.k7 (v0 : Int) (v1 : List (List Int × Int)) (v2 : Int) (v3 : List (List Int × Int)) (v4 : List (List Int × Int)) (v5 : Int) (v6 : Int) (v7 : Int) : roundL E (callT E tab) 93 Try.f93 2 [.r, .r, .r, .r, .l, .r, .b, .o, .r, .b, .r, .l, .b] (nn 4 (⟨(.box false), [iL v0, .d .deep (.sl (.pair (.sl (.int .i64)) (.int .i64))) v1], false, false, false, 0, 0⟩ :: ⟨(.box false), [iL v2, .d .deep (.sl (.pair (.sl (.int .i64)) (.int .i64))) v3], false, false, false, 0, 0⟩ :: vc (.d .sha (.sl (.pair (.sl (.int .i64)) (.int .i64))) v4) :: vc (iL v5) :: vc (iL v6) :: vc (iL v7) :: nn 55 ([]))) = impl_summed.t7 (fun b => some (impl_summed.mk b)) impl_summed.q7 impl_summed.q5 v0 v1 v2 v3 v4 v5 v6 v7 := by kernel_rfl
theorem impl_summed.k5 (v0 : Int) (v1 : List (List Int × Int)) (v2 : Int) (v3 : List (List Int × Int)) (v4 : List (List Int × Int)) (v5 : Int) : roundL E (callT E tab) 93 Try.f93 2 [.r, .r, .r, .r, .l, .r, .b] (nn 4 (⟨(.box false), [iL v0, .d .deep (.sl (.pair (.sl (.int .i64)) (.int .i64))) v1], false, false, false, 0, 0⟩ :: ⟨(.box false), [iL v2, .d .deep (.sl (.pair (.sl (.int .i64)) (.int .i64))) v3], false, false, false, 0, 0⟩ :: vc (.d .sha (.sl (.pair (.sl (.int .i64)) (.int .i64))) v4) :: vc (iL v5) :: nn 57 ([]))) = impl_summed.t5 (fun b => some (impl_summed.mk b)) impl_summed.q7 impl_summed.q5 v0 v1 v2 v3 v4 v5 := by kernel_rfl
theorem impl_summed.s (v0 : Int) (v1 : List (List (List Int × Int))) : Sub impl_summed.mk (impl_summed.t some impl_summed.l7 impl_summed.l5 v0 v1) (impl_summed.t (fun b => some (impl_summed.mk b)) impl_summed.q7 impl_summed.q5 v0 v1) := by
  unfold impl_summed.t
  repeat' first | exact Sub.ret | exact Sub.none | exact Sub.loop | apply Sub.cond | (apply Sub.bind; intro _)
theorem impl_summed.eq (v0 : Int) (v1 : List (List (List Int × Int))) {b : Int × (List (List Int × Int))} (h : impl_summed.t some impl_summed.l7 impl_summed.l5 v0 v1 = some b) : impl_summed v0 v1 = some b := tOf_intro impl_summed.un (fun _ => by kernel_rfl) (vlim_fn (callT_le E tab) rfl rfl rfl ((impl_summed.k v0 v1).trans (impl_summed.s v0 v1 b h)))
theorem impl_summed.s7 (v0 : Int) (v1 : List (List Int × Int)) (v2 : Int) (v3 : List (List Int × Int)) (v4 : List (List Int × Int)) (v5 : Int) (v6 : Int) (v7 : Int) : Sub impl_summed.mk (impl_summed.t7 some impl_summed.l7 impl_summed.l5 v0 v1 v2 v3 v4 v5 v6 v7) (impl_summed.t7 (fun b => some (impl_summed.mk b)) impl_summed.q7 impl_summed.q5 v0 v1 v2 v3 v4 v5 v6 v7) := by
  unfold impl_summed.t7
  repeat' first | exact Sub.ret | exact Sub.none | exact Sub.loop | apply Sub.cond | (apply Sub.bind; intro _)
theorem impl_summed.eq7 (v0 : Int) (v1 : List (List Int × Int)) (v2 : Int) (v3 : List (List Int × Int)) (v4 : List (List Int × Int)) (v5 : Int) (v6 : Int) (v7 : Int) {b : Int × (List (List Int × Int))} (h : impl_summed.t7 some impl_summed.l7 impl_summed.l5 v0 v1 v2 v3 v4 v5 v6 v7 = some b) : impl_summed.l7 v0 v1 v2 v3 v4 v5 v6 v7 = some b := tOf_intro impl_summed.un (fun _ => by kernel_rfl) (loopAtL_step ((impl_summed.k7 v0 v1 v2 v3 v4 v5 v6 v7).trans (impl_summed.s7 v0 v1 v2 v3 v4 v5 v6 v7 b h)))
theorem impl_summed.s5 (v0 : Int) (v1 : List (List Int × Int)) (v2 : Int) (v3 : List (List Int × Int)) (v4 : List (List Int × Int)) (v5 : Int) : Sub impl_summed.mk (impl_summed.t5 some impl_summed.l7 impl_summed.l5 v0 v1 v2 v3 v4 v5) (impl_summed.t5 (fun b => some (impl_summed.mk b)) impl_summed.q7 impl_summed.q5 v0 v1 v2 v3 v4 v5) := by
  unfold impl_summed.t5
  repeat' first | exact Sub.ret | exact Sub.none | exact Sub.loop | apply Sub.cond | (apply Sub.bind; intro _)
theorem impl_summed.eq5 (v0 : Int) (v1 : List (List Int × Int)) (v2 : Int) (v3 : List (List Int × Int)) (v4 : List (List Int × Int)) (v5 : Int) {b : Int × (List (List Int × Int))} (h : impl_summed.t5 some impl_summed.l7 impl_summed.l5 v0 v1 v2 v3 v4 v5 = some b) : impl_summed.l5 v0 v1 v2 v3 v4 v5 = some b := tOf_intro impl_summed.un (fun _ => by kernel_rfl) (loopAtL_step ((impl_summed.k5 v0 v1 v2 v3 v4 v5).trans (impl_summed.s5 v0 v1 v2 v3 v4 v5 b h)))
noncomputable def slices_Concat_impl_Weighted_impl_Weighted.q11 (v0 : List (List Int × Int)) (v1 : List (List (List Int × Int))) (v2 : Int) (v3 : Int) : Option R := loopAtL E (callT E tab) 128 Try.f128 1 [.r, .r, .r, .r, .l, .r, .b] (nn 6 (vc (.d .sha (.sl (.pair (.sl (.int .i64)) (.int .i64))) v0) :: nn 18 (vc (.d .fro (.sl (.sl (.pair (.sl (.int .i64)) (.int .i64)))) v1) :: vc (iL v2) :: vc (iL v3) :: nn 8 ([]))))
noncomputable def slices_Concat_impl_Weighted_impl_Weighted.l11 (v0 : List (List Int × Int)) (v1 : List (List (List Int × Int))) (v2 : Int) (v3 : Int) : Option ((List (List Int × Int))) := tOf slices_Concat_impl_Weighted_impl_Weighted.mk (slices_Concat_impl_Weighted_impl_Weighted.q11 v0 v1 v2 v3)
noncomputable def slices_Concat_impl_Weighted_impl_Weighted.q3 (v0 : List (List (List Int × Int))) (v1 : Int) (v2 : List (List (List Int × Int))) (v3 : Int) (v4 : Int) : Option R := loopAtL E (callT E tab) 128 Try.f128 1 [.r, .r, .l, .r, .b] (vc (.d .fro (.sl (.sl (.pair (.sl (.int .i64)) (.int .i64)))) v0) :: nn 2 (vc (iL v1) :: nn 5 (vc (.d .fro (.sl (.sl (.pair (.sl (.int .i64)) (.int .i64)))) v2) :: vc (iL v3) :: vc (iL v4) :: nn 24 ([]))))
noncomputable def slices_Concat_impl_Weighted_impl_Weighted.l3 (v0 : List (List (List Int × Int))) (v1 : Int) (v2 : List (List (List Int × Int))) (v3 : Int) (v4 : Int) : Option ((List (List Int × Int))) := tOf slices_Concat_impl_Weighted_impl_Weighted.mk (slices_Concat_impl_Weighted_impl_Weighted.q3 v0 v1 v2 v3 v4)
noncomputable def slices_Concat_impl_Weighted_impl_Weighted.t {γ : Type} (ret : ((List (List Int × Int))) → Option γ) (lp11 : (List (List Int × Int)) → (List (List (List Int × Int))) → Int → Int → Option γ) (lp3 : (List (List (List Int × Int))) → Int → (List (List (List Int × Int))) → Int → Int → Option γ) (v0 : List (List (List Int × Int))) : Option γ :=
  lp3 (v0) ((0 : Int)) (v0) ((↑v0.length : Int)) ((0 : Int))
noncomputable def slices_Concat_impl_Weighted_impl_Weighted.t11 {γ : Type} (ret : ((List (List Int × Int))) → Option γ) (lp11 : (List (List Int × Int)) → (List (List (List Int × Int))) → Int → Int → Option γ) (lp3 : (List (List (List Int × Int))) → Int → (List (List (List Int × Int))) → Int → Int → Option γ) (v0 : List (List Int × Int)) (v1 : List (List (List Int × Int))) (v2 : Int) (v3 : Int) : Option γ :=
  bif Decidable.decide (v3 < v2) then
    bif Decidable.decide ((0 : Int) ≤ v3) then
      bif Decidable.decide (v3.toNat < v1.length) then
        bif Decidable.decide (v0.length + (v1.getD v3.toNat []).length ≤ (4294967296 : Nat)) then
          lp11 (v0 ++ v1.getD v3.toNat []) (v1) (v2) (Go.IntKind.i64.wrap (v3 + (1 : Int)))
        else
          none
      else
        none
    else
      none
  else
    ret (v0)
noncomputable def slices_Concat_impl_Weighted_impl_Weighted.t3 {γ : Type} (ret : ((List (List Int × Int))) → Option γ) (lp11 : (List (List Int × Int)) → (List (List (List Int × Int))) → Int → Int → Option γ) (lp3 : (List (List (List Int × Int))) → Int → (List (List (List Int × Int))) → Int → Int → Option γ) (v0 : List (List (List Int × Int))) (v1 : Int) (v2 : List (List (List Int × Int))) (v3 : Int) (v4 : Int) : Option γ :=
  bif Decidable.decide (v4 < v3) then
    bif Decidable.decide ((0 : Int) ≤ v4) then
      bif Decidable.decide (v4.toNat < v2.length) then
        bif Decidable.decide (Go.IntKind.i64.wrap (v1 + (↑(v2.getD v4.toNat []).length : Int)) < (0 : Int)) then
          none
        else
          lp3 (v0) (Go.IntKind.i64.wrap (v1 + (↑(v2.getD v4.toNat []).length : Int))) (v2) (v3) (Go.IntKind.i64.wrap (v4 + (1 : Int)))
      else
        none
    else
      none
  else
    (slices_Grow_impl_Weighted_impl_Weighted_1b9 (v1)).bind fun (r0 : (List (List Int × Int))) =>
    lp11 (r0) (v0) ((↑v0.length : Int)) ((0 : Int))
theorem slices_Concat_impl_Weighted_impl_Weighted.k (v0 : List (List (List Int × Int))) : topL E (callT E tab) 128 Try.f128 (slices_Concat_impl_Weighted_impl_Weighted.c v0) = slices_Concat_impl_Weighted_impl_Weighted.t (fun b => some (slices_Concat_impl_Weighted_impl_Weighted.mk b)) slices_Concat_impl_Weighted_impl_Weighted.q11 slices_Concat_impl_Weighted_impl_Weighted.q3 v0 := by kernel_rfl
theorem slices_Concat_impl_Weighted_impl_Weighted.k11 (v0 : List (List Int × Int)) (v1 : List (List (List Int × Int))) (v2 : Int) (v3 : Int) : roundL E (callT E tab) 128 Try.f128 1 [.r, .r, .r, .r, .l, .r, .b] (nn 6 (vc (.d .sha (.sl (.pair (.sl (.int .i64)) (.int .i64))) v0) :: nn 18 (vc (.d .fro (.sl (.sl (.pair (.sl (.int .i64)) (.int .i64)))) v1) :: vc (iL v2) :: vc (iL v3) :: nn 8 ([])))) = slices_Concat_impl_Weighted_impl_Weighted.t11 (fun b => some (slices_Concat_impl_Weighted_impl_Weighted.mk b)) slices_Concat_impl_Weighted_impl_Weighted.q11 slices_Concat_impl_Weighted_impl_Weighted.q3 v0 v1 v2 v3 := by kernel_rfl
theorem slices_Concat_impl_Weighted_impl_Weighted.k3 (v0 : List (List (List Int × Int))) (v1 : Int) (v2 : List (List (List Int × Int))) (v3 : Int) (v4 : Int) : roundL E (callT E tab) 128 Try.f128 1 [.r, .r, .l, .r, .b] (vc (.d .fro (.sl (.sl (.pair (.sl (.int .i64)) (.int .i64)))) v0) :: nn 2 (vc (iL v1) :: nn 5 (vc (.d .fro (.sl (.sl (.pair (.sl (.int .i64)) (.int .i64)))) v2) :: vc (iL v3) :: vc (iL v4) :: nn 24 ([])))) = slices_Concat_impl_Weighted_impl_Weighted.t3 (fun b => some (slices_Concat_impl_Weighted_impl_Weighted.mk b)) slices_Concat_impl_Weighted_impl_Weighted.q11 slices_Concat_impl_Weighted_impl_Weighted.q3 v0 v1 v2 v3 v4 := by kernel_rfl
theorem slices_Concat_impl_Weighted_impl_Weighted.s (v0 : List (List (List Int × Int))) : Sub slices_Concat_impl_Weighted_impl_Weighted.mk (slices_Concat_impl_Weighted_impl_Weighted.t some slices_Concat_impl_Weighted_impl_Weighted.l11 slices_Concat_impl_Weighted_impl_Weighted.l3 v0) (slices_Concat_impl_Weighted_impl_Weighted.t (fun b => some (slices_Concat_impl_Weighted_impl_Weighted.mk b)) slices_Concat_impl_Weighted_impl_Weighted.q11 slices_Concat_impl_Weighted_impl_Weighted.q3 v0) := by
  unfold slices_Concat_impl_Weighted_impl_Weighted.t
  repeat' first | exact Sub.ret | exact Sub.none | exact Sub.loop | apply Sub.cond | (apply Sub.bind; intro _)
theorem slices_Concat_impl_Weighted_impl_Weighted.eq (v0 : List (List (List Int × Int))) {b : (List (List Int × Int))} (h : slices_Concat_impl_Weighted_impl_Weighted.t some slices_Concat_impl_Weighted_impl_Weighted.l11 slices_Concat_impl_Weighted_impl_Weighted.l3 v0 = some b) : slices_Concat_impl_Weighted_impl_Weighted v0 = some b := tOf_intro slices_Concat_impl_Weighted_impl_Weighted.un (fun _ => by kernel_rfl) (vlim_fn (callT_le E tab) rfl rfl rfl ((slices_Concat_impl_Weighted_impl_Weighted.k v0).trans (slices_Concat_impl_Weighted_impl_Weighted.s v0 b h)))
theorem slices_Concat_impl_Weighted_impl_Weighted.s11 (v0 : List (List Int × Int)) (v1 : List (List (List Int × Int))) (v2 : Int) (v3 : Int) : Sub slices_Concat_impl_Weighted_impl_Weighted.mk (slices_Concat_impl_Weighted_impl_Weighted.t11 some slices_Concat_impl_Weighted_impl_Weighted.l11 slices_Concat_impl_Weighted_impl_Weighted.l3 v0 v1 v2 v3) (slices_Concat_impl_Weighted_impl_Weighted.t11 (fun b => some (slices_Concat_impl_Weighted_impl_Weighted.mk b)) slices_Concat_impl_Weighted_impl_Weighted.q11 slices_Concat_impl_Weighted_impl_Weighted.q3 v0 v1 v2 v3) := by
  unfold slices_Concat_impl_Weighted_impl_Weighted.t11
  repeat' first | exact Sub.ret | exact Sub.none | exact Sub.loop | apply Sub.cond | (apply Sub.bind; intro _)
theorem slices_Concat_impl_Weighted_impl_Weighted.eq11 (v0 : List (List Int × Int)) (v1 : List (List (List Int × Int))) (v2 : Int) (v3 : Int) {b : (List (List Int × Int))} (h : slices_Concat_impl_Weighted_impl_Weighted.t11 some slices_Concat_impl_Weighted_impl_Weighted.l11 slices_Concat_impl_Weighted_impl_Weighted.l3 v0 v1 v2 v3 = some b) : slices_Concat_impl_Weighted_impl_Weighted.l11 v0 v1 v2 v3 = some b := tOf_intro slices_Concat_impl_Weighted_impl_Weighted.un (fun _ => by kernel_rfl) (loopAtL_step ((slices_Concat_impl_Weighted_impl_Weighted.k11 v0 v1 v2 v3).trans (slices_Concat_impl_Weighted_impl_Weighted.s11 v0 v1 v2 v3 b h)))
theorem slices_Concat_impl_Weighted_impl_Weighted.s3 (v0 : List (List (List Int × Int))) (v1 : Int) (v2 : List (List (List Int × Int))) (v3 : Int) (v4 : Int) : Sub slices_Concat_impl_Weighted_impl_Weighted.mk (slices_Concat_impl_Weighted_impl_Weighted.t3 some slices_Concat_impl_Weighted_impl_Weighted.l11 slices_Concat_impl_Weighted_impl_Weighted.l3 v0 v1 v2 v3 v4) (slices_Concat_impl_Weighted_impl_Weighted.t3 (fun b => some (slices_Concat_impl_Weighted_impl_Weighted.mk b)) slices_Concat_impl_Weighted_impl_Weighted.q11 slices_Concat_impl_Weighted_impl_Weighted.q3 v0 v1 v2 v3 v4) := by
  unfold slices_Concat_impl_Weighted_impl_Weighted.t3
  repeat' first | exact Sub.ret | exact Sub.none | exact Sub.loop | apply Sub.cond | (apply Sub.bind; intro _)
theorem slices_Concat_impl_Weighted_impl_Weighted.eq3 (v0 : List (List (List Int × Int))) (v1 : Int) (v2 : List (List (List Int × Int))) (v3 : Int) (v4 : Int) {b : (List (List Int × Int))} (h : slices_Concat_impl_Weighted_impl_Weighted.t3 some slices_Concat_impl_Weighted_impl_Weighted.l11 slices_Concat_impl_Weighted_impl_Weighted.l3 v0 v1 v2 v3 v4 = some b) : slices_Concat_impl_Weighted_impl_Weighted.l3 v0 v1 v2 v3 v4 = some b := tOf_intro slices_Concat_impl_Weighted_impl_Weighted.un (fun _ => by kernel_rfl) (loopAtL_step ((slices_Concat_impl_Weighted_impl_Weighted.k3 v0 v1 v2 v3 v4).trans (slices_Concat_impl_Weighted_impl_Weighted.s3 v0 v1 v2 v3 v4 b h)))
noncomputable def slices_Grow_impl_Weighted_impl_Weighted_1b9.t {γ : Type} (ret : ((List (List Int × Int))) → Option γ) (v0 : Int) : Option γ :=
  bif Decidable.decide (v0 < (0 : Int)) then
    none
  else
    bif Decidable.decide (Go.IntKind.i64.wrap (v0 - Go.IntKind.i64.wrap ((0 : Int) - (0 : Int))) > (0 : Int)) then
      bif Decidable.decide ((1 : Int) ≤ Go.IntKind.i64.wrap (v0 - Go.IntKind.i64.wrap ((0 : Int) - (0 : Int)))) then
        bif Decidable.decide (Go.IntKind.i64.wrap (v0 - Go.IntKind.i64.wrap ((0 : Int) - (0 : Int))) ≤ (↑(4294967296 : Nat) : Int)) then
          ret (List.take ((0 : Int) - Option.none.getD (0 : Int)).toNat   (List.drop (Option.none.getD (0 : Int)).toNat     (List.replicate (Go.IntKind.i64.wrap (v0 - Go.IntKind.i64.wrap ((0 : Int) - (0 : Int)))).toNat ([], (0 : Int)))))
        else
          none
      else
        none
    else
      ret ([])
theorem slices_Grow_impl_Weighted_impl_Weighted_1b9.k (v0 : Int) : topL E (callT E tab) 146 Try.f146 (slices_Grow_impl_Weighted_impl_Weighted_1b9.c v0) = slices_Grow_impl_Weighted_impl_Weighted_1b9.t (fun b => some (slices_Grow_impl_Weighted_impl_Weighted_1b9.mk b)) v0 := by kernel_rfl
theorem slices_Grow_impl_Weighted_impl_Weighted_1b9.s (v0 : Int) : Sub slices_Grow_impl_Weighted_impl_Weighted_1b9.mk (slices_Grow_impl_Weighted_impl_Weighted_1b9.t some v0) (slices_Grow_impl_Weighted_impl_Weighted_1b9.t (fun b => some (slices_Grow_impl_Weighted_impl_Weighted_1b9.mk b)) v0) := by
  unfold slices_Grow_impl_Weighted_impl_Weighted_1b9.t
  repeat' first | exact Sub.ret | exact Sub.none | exact Sub.loop | apply Sub.cond | (apply Sub.bind; intro _)
theorem slices_Grow_impl_Weighted_impl_Weighted_1b9.eq (v0 : Int) {b : (List (List Int × Int))} (h : slices_Grow_impl_Weighted_impl_Weighted_1b9.t some v0 = some b) : slices_Grow_impl_Weighted_impl_Weighted_1b9 v0 = some b := tOf_intro slices_Grow_impl_Weighted_impl_Weighted_1b9.un (fun _ => by kernel_rfl) (vlim_fn (callT_le E tab) rfl rfl rfl ((slices_Grow_impl_Weighted_impl_Weighted_1b9.k v0).trans (slices_Grow_impl_Weighted_impl_Weighted_1b9.s v0 b h)))
noncomputable def slices_SortStableFunc_impl_Weighted_impl_Weighted_impl_summed_1_056.t {γ : Type} (ret : ((List (List Int × Int))) → Option γ) (v0 : List (List Int × Int)) : Option γ :=
  (slices_stableCmpFunc_impl_Weighted_impl_summed_1_6af (v0) ((↑v0.length : Int))).bind fun (r0 : (List (List Int × Int))) =>
  ret (r0)
theorem slices_SortStableFunc_impl_Weighted_impl_Weighted_impl_summed_1_056.k (v0 : List (List Int × Int)) : topL E (callT E tab) 129 Try.f129 (slices_SortStableFunc_impl_Weighted_impl_Weighted_impl_summed_1_056.c v0) = slices_SortStableFunc_impl_Weighted_impl_Weighted_impl_summed_1_056.t (fun b => some (slices_SortStableFunc_impl_Weighted_impl_Weighted_impl_summed_1_056.mk b)) v0 := by kernel_rfl
theorem slices_SortStableFunc_impl_Weighted_impl_Weighted_impl_summed_1_056.s (v0 : List (List Int × Int)) : Sub slices_SortStableFunc_impl_Weighted_impl_Weighted_impl_summed_1_056.mk (slices_SortStableFunc_impl_Weighted_impl_Weighted_impl_summed_1_056.t some v0) (slices_SortStableFunc_impl_Weighted_impl_Weighted_impl_summed_1_056.t (fun b => some (slices_SortStableFunc_impl_Weighted_impl_Weighted_impl_summed_1_056.mk b)) v0) := by
  unfold slices_SortStableFunc_impl_Weighted_impl_Weighted_impl_summed_1_056.t
  repeat' first | exact Sub.ret | exact Sub.none | exact Sub.loop | apply Sub.cond | (apply Sub.bind; intro _)
theorem slices_SortStableFunc_impl_Weighted_impl_Weighted_impl_summed_1_056.eq (v0 : List (List Int × Int)) {b : (List (List Int × Int))} (h : slices_SortStableFunc_impl_Weighted_impl_Weighted_impl_summed_1_056.t some v0 = some b) : slices_SortStableFunc_impl_Weighted_impl_Weighted_impl_summed_1_056 v0 = some b := tOf_intro slices_SortStableFunc_impl_Weighted_impl_Weighted_impl_summed_1_056.un (fun _ => by kernel_rfl) (vlim_fn (callT_le E tab) rfl rfl rfl ((slices_SortStableFunc_impl_Weighted_impl_Weighted_impl_summed_1_056.k v0).trans (slices_SortStableFunc_impl_Weighted_impl_Weighted_impl_summed_1_056.s v0 b h)))
noncomputable def slices_stableCmpFunc_impl_Weighted_impl_summed_1_6af.q9 (v0 : List (List Int × Int)) (v1 : Int) (v2 : Int) (v3 : Int) (v4 : Int) : Option R := loopAtL E (callT E tab) 147 Try.f147 3 [.r, .r, .r, .r, .b, .o, .r, .b, .r, .l, .b] (⟨(.val .one), [.d .sha (.sl (.pair (.sl (.int .i64)) (.int .i64))) v0], true, false, false, 0, 0⟩ :: vc (iL v1) :: vc (.fn 130 []) :: nn 3 (vc (iL v2) :: vc (iL v3) :: vc (iL v4) :: nn 54 ([])))
noncomputable def slices_stableCmpFunc_impl_Weighted_impl_summed_1_6af.l9 (v0 : List (List Int × Int)) (v1 : Int) (v2 : Int) (v3 : Int) (v4 : Int) : Option ((List (List Int × Int))) := tOf slices_stableCmpFunc_impl_Weighted_impl_summed_1_6af.mk (slices_stableCmpFunc_impl_Weighted_impl_summed_1_6af.q9 v0 v1 v2 v3 v4)
noncomputable def slices_stableCmpFunc_impl_Weighted_impl_summed_1_6af.q7 (v0 : List (List Int × Int)) (v1 : Int) (v2 : Int) : Option R := loopAtL E (callT E tab) 147 Try.f147 3 [.r, .r, .r, .r, .b] (⟨(.val .one), [.d .sha (.sl (.pair (.sl (.int .i64)) (.int .i64))) v0], true, false, false, 0, 0⟩ :: vc (iL v1) :: vc (.fn 130 []) :: nn 3 (vc (iL v2) :: nn 56 ([])))
noncomputable def slices_stableCmpFunc_impl_Weighted_impl_summed_1_6af.l7 (v0 : List (List Int × Int)) (v1 : Int) (v2 : Int) : Option ((List (List Int × Int))) := tOf slices_stableCmpFunc_impl_Weighted_impl_summed_1_6af.mk (slices_stableCmpFunc_impl_Weighted_impl_summed_1_6af.q7 v0 v1 v2)
noncomputable def slices_stableCmpFunc_impl_Weighted_impl_summed_1_6af.q2 (v0 : List (List Int × Int)) (v1 : Int) (v2 : Int) (v3 : Int) (v4 : Int) : Option R := loopAtL E (callT E tab) 147 Try.f147 3 [.r, .r, .l, .b] (⟨(.val .one), [.d .sha (.sl (.pair (.sl (.int .i64)) (.int .i64))) v0], true, false, false, 0, 0⟩ :: vc (iL v1) :: vc (.fn 130 []) :: nn 3 (vc (iL v2) :: vc (iL v3) :: vc (iL v4) :: nn 54 ([])))
noncomputable def slices_stableCmpFunc_impl_Weighted_impl_summed_1_6af.l2 (v0 : List (List Int × Int)) (v1 : Int) (v2 : Int) (v3 : Int) (v4 : Int) : Option ((List (List Int × Int))) := tOf slices_stableCmpFunc_impl_Weighted_impl_summed_1_6af.mk (slices_stableCmpFunc_impl_Weighted_impl_summed_1_6af.q2 v0 v1 v2 v3 v4)
noncomputable def slices_stableCmpFunc_impl_Weighted_impl_summed_1_6af.t {γ : Type} (ret : ((List (List Int × Int))) → Option γ) (lp9 : (List (List Int × Int)) → Int → Int → Int → Int → Option γ) (lp7 : (List (List Int × Int)) → Int → Int → Option γ) (lp2 : (List (List Int × Int)) → Int → Int → Int → Int → Option γ) (v0 : List (List Int × Int)) (v1 : Int) : Option γ :=
  lp2 (v0) (v1) ((20 : Int)) ((0 : Int)) ((20 : Int))
noncomputable def slices_stableCmpFunc_impl_Weighted_impl_summed_1_6af.t9 {γ : Type} (ret : ((List (List Int × Int))) → Option γ) (lp9 : (List (List Int × Int)) → Int → Int → Int → Int → Option γ) (lp7 : (List (List Int × Int)) → Int → Int → Option γ) (lp2 : (List (List Int × Int)) → Int → Int → Int → Int → Option γ) (v0 : List (List Int × Int)) (v1 : Int) (v2 : Int) (v3 : Int) (v4 : Int) : Option γ :=
  bif Decidable.decide (v4 ≤ v1) then
    (slices_symMergeCmpFunc_impl_Weighted_impl_summed_1_70b (v0) (v3) (Go.IntKind.i64.wrap (v3 + v2)) (v4)).bind fun (r2 : (List (List Int × Int))) =>
    lp9 (r2) (v1) (v2) (v4) (Go.IntKind.i64.wrap (v4 + Go.IntKind.i64.wrap ((2 : Int) * v2)))
  else
    bif Decidable.decide (Go.IntKind.i64.wrap (v3 + v2) < v1) then
      (slices_symMergeCmpFunc_impl_Weighted_impl_summed_1_70b (v0) (v3) (Go.IntKind.i64.wrap (v3 + v2)) (v1)).bind fun (r3 : (List (List Int × Int))) =>
      lp7 (r3) (v1) (Go.IntKind.i64.wrap (v2 * (2 : Int)))
    else
      lp7 (v0) (v1) (Go.IntKind.i64.wrap (v2 * (2 : Int)))
noncomputable def slices_stableCmpFunc_impl_Weighted_impl_summed_1_6af.t7 {γ : Type} (ret : ((List (List Int × Int))) → Option γ) (lp9 : (List (List Int × Int)) → Int → Int → Int → Int → Option γ) (lp7 : (List (List Int × Int)) → Int → Int → Option γ) (lp2 : (List (List Int × Int)) → Int → Int → Int → Int → Option γ) (v0 : List (List Int × Int)) (v1 : Int) (v2 : Int) : Option γ :=
  bif Decidable.decide (v2 < v1) then
    lp9 (v0) (v1) (v2) ((0 : Int)) (Go.IntKind.i64.wrap ((2 : Int) * v2))
  else
    ret (v0)
noncomputable def slices_stableCmpFunc_impl_Weighted_impl_summed_1_6af.t2 {γ : Type} (ret : ((List (List Int × Int))) → Option γ) (lp9 : (List (List Int × Int)) → Int → Int → Int → Int → Option γ) (lp7 : (List (List Int × Int)) → Int → Int → Option γ) (lp2 : (List (List Int × Int)) → Int → Int → Int → Int → Option γ) (v0 : List (List Int × Int)) (v1 : Int) (v2 : Int) (v3 : Int) (v4 : Int) : Option γ :=
  bif Decidable.decide (v4 ≤ v1) then
    (slices_insertionSortCmpFunc_impl_Weighted_impl_summed_1_c6e (v0) (v3) (v4)).bind fun (r0 : (List (List Int × Int))) =>
    lp2 (r0) (v1) (v2) (v4) (Go.IntKind.i64.wrap (v4 + v2))
  else
    (slices_insertionSortCmpFunc_impl_Weighted_impl_summed_1_c6e (v0) (v3) (v1)).bind fun (r1 : (List (List Int × Int))) =>
    lp7 (r1) (v1) (v2)
theorem slices_stableCmpFunc_impl_Weighted_impl_summed_1_6af.k (v0 : List (List Int × Int)) (v1 : Int) : topL E (callT E tab) 147 Try.f147 (slices_stableCmpFunc_impl_Weighted_impl_summed_1_6af.c v0 v1) = slices_stableCmpFunc_impl_Weighted_impl_summed_1_6af.t (fun b => some (slices_stableCmpFunc_impl_Weighted_impl_summed_1_6af.mk b)) slices_stableCmpFunc_impl_Weighted_impl_summed_1_6af.q9 slices_stableCmpFunc_impl_Weighted_impl_summed_1_6af.q7 slices_stableCmpFunc_impl_Weighted_impl_summed_1_6af.q2 v0 v1 := by kernel_rfl
theorem slices_stableCmpFunc_impl_Weighted_impl_summed_1_6af.k9 (v0 : List (List Int × Int)) (v1 : Int) (v2 : Int) (v3 : Int) (v4 : Int) : roundL E (callT E tab) 147 Try.f147 3 [.r, .r, .r, .r, .b, .o, .r, .b, .r, .l, .b] (⟨(.val .one), [.d .sha (.sl (.pair (.sl (.int .i64)) (.int .i64))) v0], true, false, false, 0, 0⟩ :: vc (iL v1) :: vc (.fn 130 []) :: nn 3 (vc (iL v2) :: vc (iL v3) :: vc (iL v4) :: nn 54 ([]))) = slices_stableCmpFunc_impl_Weighted_impl_summed_1_6af.t9 (fun b => some (slices_stableCmpFunc_impl_Weighted_impl_summed_1_6af.mk b)) slices_stableCmpFunc_impl_Weighted_impl_summed_1_6af.q9 slices_stableCmpFunc_impl_Weighted_impl_summed_1_6af.q7 slices_stableCmpFunc_impl_Weighted_impl_summed_1_6af.q2 v0 v1 v2 v3 v4 := by kernel_rfl
theorem slices_stableCmpFunc_impl_Weighted_impl_summed_1_6af.k7 (v0 : List (List Int × Int)) (v1 : Int) (v2 : Int) : roundL E (callT E tab) 147 Try.f147 3 [.r, .r, .r, .r, .b] (⟨(.val .one), [.d .sha (.sl (.pair (.sl (.int .i64)) (.int .i64))) v0], true, false, false, 0, 0⟩ :: vc (iL v1) :: vc (.fn 130 []) :: nn 3 (vc (iL v2) :: nn 56 ([]))) = slices_stableCmpFunc_impl_Weighted_impl_summed_1_6af.t7 (fun b => some (slices_stableCmpFunc_impl_Weighted_impl_summed_1_6af.mk b)) slices_stableCmpFunc_impl_Weighted_impl_summed_1_6af.q9 slices_stableCmpFunc_impl_Weighted_impl_summed_1_6af.q7 slices_stableCmpFunc_impl_Weighted_impl_summed_1_6af.q2 v0 v1 v2 := by kernel_rfl
theorem slices_stableCmpFunc_impl_Weighted_impl_summed_1_6af.k2 (v0 : List (List Int × Int)) (v1 : Int) (v2 : Int) (v3 : Int) (v4 : Int) : roundL E (callT E tab) 147 Try.f147 3 [.r, .r, .l, .b] (⟨(.val .one), [.d .sha (.sl (.pair (.sl (.int .i64)) (.int .i64))) v0], true, false, false, 0, 0⟩ :: vc (iL v1) :: vc (.fn 130 []) :: nn 3 (vc (iL v2) :: vc (iL v3) :: vc (iL v4) :: nn 54 ([]))) = slices_stableCmpFunc_impl_Weighted_impl_summed_1_6af.t2 (fun b => some (slices_stableCmpFunc_impl_Weighted_impl_summed_1_6af.mk b)) slices_stableCmpFunc_impl_Weighted_impl_summed_1_6af.q9 slices_stableCmpFunc_impl_Weighted_impl_summed_1_6af.q7 slices_stableCmpFunc_impl_Weighted_impl_summed_1_6af.q2 v0 v1 v2 v3 v4 := by kernel_rfl
theorem slices_stableCmpFunc_impl_Weighted_impl_summed_1_6af.s (v0 : List (List Int × Int)) (v1 : Int) : Sub slices_stableCmpFunc_impl_Weighted_impl_summed_1_6af.mk (slices_stableCmpFunc_impl_Weighted_impl_summed_1_6af.t some slices_stableCmpFunc_impl_Weighted_impl_summed_1_6af.l9 slices_stableCmpFunc_impl_Weighted_impl_summed_1_6af.l7 slices_stableCmpFunc_impl_Weighted_impl_summed_1_6af.l2 v0 v1) (slices_stableCmpFunc_impl_Weighted_impl_summed_1_6af.t (fun b => some (slices_stableCmpFunc_impl_Weighted_impl_summed_1_6af.mk b)) slices_stableCmpFunc_impl_Weighted_impl_summed_1_6af.q9 slices_stableCmpFunc_impl_Weighted_impl_summed_1_6af.q7 slices_stableCmpFunc_impl_Weighted_impl_summed_1_6af.q2 v0 v1) := by
  unfold slices_stableCmpFunc_impl_Weighted_impl_summed_1_6af.t
  repeat' first | exact Sub.ret | exact Sub.none | exact Sub.loop | apply Sub.cond | (apply Sub.bind; intro _)
theorem slices_stableCmpFunc_impl_Weighted_impl_summed_1_6af.eq (v0 : List (List Int × Int)) (v1 : Int) {b : (List (List Int × Int))} (h : slices_stableCmpFunc_impl_Weighted_impl_summed_1_6af.t some slices_stableCmpFunc_impl_Weighted_impl_summed_1_6af.l9 slices_stableCmpFunc_impl_Weighted_impl_summed_1_6af.l7 slices_stableCmpFunc_impl_Weighted_impl_summed_1_6af.l2 v0 v1 = some b) : slices_stableCmpFunc_impl_Weighted_impl_summed_1_6af v0 v1 = some b := tOf_intro slices_stableCmpFunc_impl_Weighted_impl_summed_1_6af.un (fun _ => by kernel_rfl) (vlim_fn (callT_le E tab) rfl rfl rfl ((slices_stableCmpFunc_impl_Weighted_impl_summed_1_6af.k v0 v1).trans (slices_stableCmpFunc_impl_Weighted_impl_summed_1_6af.s v0 v1 b h)))
theorem slices_stableCmpFunc_impl_Weighted_impl_summed_1_6af.s9 (v0 : List (List Int × Int)) (v1 : Int) (v2 : Int) (v3 : Int) (v4 : Int) : Sub slices_stableCmpFunc_impl_Weighted_impl_summed_1_6af.mk (slices_stableCmpFunc_impl_Weighted_impl_summed_1_6af.t9 some slices_stableCmpFunc_impl_Weighted_impl_summed_1_6af.l9 slices_stableCmpFunc_impl_Weighted_impl_summed_1_6af.l7 slices_stableCmpFunc_impl_Weighted_impl_summed_1_6af.l2 v0 v1 v2 v3 v4) (slices_stableCmpFunc_impl_Weighted_impl_summed_1_6af.t9 (fun b => some (slices_stableCmpFunc_impl_Weighted_impl_summed_1_6af.mk b)) slices_stableCmpFunc_impl_Weighted_impl_summed_1_6af.q9 slices_stableCmpFunc_impl_Weighted_impl_summed_1_6af.q7 slices_stableCmpFunc_impl_Weighted_impl_summed_1_6af.q2 v0 v1 v2 v3 v4) := by
  unfold slices_stableCmpFunc_impl_Weighted_impl_summed_1_6af.t9
  repeat' first | exact Sub.ret | exact Sub.none | exact Sub.loop | apply Sub.cond | (apply Sub.bind; intro _)
theorem slices_stableCmpFunc_impl_Weighted_impl_summed_1_6af.eq9 (v0 : List (List Int × Int)) (v1 : Int) (v2 : Int) (v3 : Int) (v4 : Int) {b : (List (List Int × Int))} (h : slices_stableCmpFunc_impl_Weighted_impl_summed_1_6af.t9 some slices_stableCmpFunc_impl_Weighted_impl_summed_1_6af.l9 slices_stableCmpFunc_impl_Weighted_impl_summed_1_6af.l7 slices_stableCmpFunc_impl_Weighted_impl_summed_1_6af.l2 v0 v1 v2 v3 v4 = some b) : slices_stableCmpFunc_impl_Weighted_impl_summed_1_6af.l9 v0 v1 v2 v3 v4 = some b := tOf_intro slices_stableCmpFunc_impl_Weighted_impl_summed_1_6af.un (fun _ => by kernel_rfl) (loopAtL_step ((slices_stableCmpFunc_impl_Weighted_impl_summed_1_6af.k9 v0 v1 v2 v3 v4).trans (slices_stableCmpFunc_impl_Weighted_impl_summed_1_6af.s9 v0 v1 v2 v3 v4 b h)))
theorem slices_stableCmpFunc_impl_Weighted_impl_summed_1_6af.s7 (v0 : List (List Int × Int)) (v1 : Int) (v2 : Int) : Sub slices_stableCmpFunc_impl_Weighted_impl_summed_1_6af.mk (slices_stableCmpFunc_impl_Weighted_impl_summed_1_6af.t7 some slices_stableCmpFunc_impl_Weighted_impl_summed_1_6af.l9 slices_stableCmpFunc_impl_Weighted_impl_summed_1_6af.l7 slices_stableCmpFunc_impl_Weighted_impl_summed_1_6af.l2 v0 v1 v2) (slices_stableCmpFunc_impl_Weighted_impl_summed_1_6af.t7 (fun b => some (slices_stableCmpFunc_impl_Weighted_impl_summed_1_6af.mk b)) slices_stableCmpFunc_impl_Weighted_impl_summed_1_6af.q9 slices_stableCmpFunc_impl_Weighted_impl_summed_1_6af.q7 slices_stableCmpFunc_impl_Weighted_impl_summed_1_6af.q2 v0 v1 v2) := by
  unfold slices_stableCmpFunc_impl_Weighted_impl_summed_1_6af.t7
  repeat' first | exact Sub.ret | exact Sub.none | exact Sub.loop | apply Sub.cond | (apply Sub.bind; intro _)
theorem slices_stableCmpFunc_impl_Weighted_impl_summed_1_6af.eq7 (v0 : List (List Int × Int)) (v1 : Int) (v2 : Int) {b : (List (List Int × Int))} (h : slices_stableCmpFunc_impl_Weighted_impl_summed_1_6af.t7 some slices_stableCmpFunc_impl_Weighted_impl_summed_1_6af.l9 slices_stableCmpFunc_impl_Weighted_impl_summed_1_6af.l7 slices_stableCmpFunc_impl_Weighted_impl_summed_1_6af.l2 v0 v1 v2 = some b) : slices_stableCmpFunc_impl_Weighted_impl_summed_1_6af.l7 v0 v1 v2 = some b := tOf_intro slices_stableCmpFunc_impl_Weighted_impl_summed_1_6af.un (fun _ => by kernel_rfl) (loopAtL_step ((slices_stableCmpFunc_impl_Weighted_impl_summed_1_6af.k7 v0 v1 v2).trans (slices_stableCmpFunc_impl_Weighted_impl_summed_1_6af.s7 v0 v1 v2 b h)))
theorem slices_stableCmpFunc_impl_Weighted_impl_summed_1_6af.s2 (v0 : List (List Int × Int)) (v1 : Int) (v2 : Int) (v3 : Int) (v4 : Int) : Sub slices_stableCmpFunc_impl_Weighted_impl_summed_1_6af.mk (slices_stableCmpFunc_impl_Weighted_impl_summed_1_6af.t2 some slices_stableCmpFunc_impl_Weighted_impl_summed_1_6af.l9 slices_stableCmpFunc_impl_Weighted_impl_summed_1_6af.l7 slices_stableCmpFunc_impl_Weighted_impl_summed_1_6af.l2 v0 v1 v2 v3 v4) (slices_stableCmpFunc_impl_Weighted_impl_summed_1_6af.t2 (fun b => some (slices_stableCmpFunc_impl_Weighted_impl_summed_1_6af.mk b)) slices_stableCmpFunc_impl_Weighted_impl_summed_1_6af.q9 slices_stableCmpFunc_impl_Weighted_impl_summed_1_6af.q7 slices_stableCmpFunc_impl_Weighted_impl_summed_1_6af.q2 v0 v1 v2 v3 v4) := by
  unfold slices_stableCmpFunc_impl_Weighted_impl_summed_1_6af.t2
  repeat' first | exact Sub.ret | exact Sub.none | exact Sub.loop | apply Sub.cond | (apply Sub.bind; intro _)
theorem slices_stableCmpFunc_impl_Weighted_impl_summed_1_6af.eq2 (v0 : List (List Int × Int)) (v1 : Int) (v2 : Int) (v3 : Int) (v4 : Int) {b : (List (List Int × Int))} (h : slices_stableCmpFunc_impl_Weighted_impl_summed_1_6af.t2 some slices_stableCmpFunc_impl_Weighted_impl_summed_1_6af.l9 slices_stableCmpFunc_impl_Weighted_impl_summed_1_6af.l7 slices_stableCmpFunc_impl_Weighted_impl_summed_1_6af.l2 v0 v1 v2 v3 v4 = some b) : slices_stableCmpFunc_impl_Weighted_impl_summed_1_6af.l2 v0 v1 v2 v3 v4 = some b := tOf_intro slices_stableCmpFunc_impl_Weighted_impl_summed_1_6af.un (fun _ => by kernel_rfl) (loopAtL_step ((slices_stableCmpFunc_impl_Weighted_impl_summed_1_6af.k2 v0 v1 v2 v3 v4).trans (slices_stableCmpFunc_impl_Weighted_impl_summed_1_6af.s2 v0 v1 v2 v3 v4 b h)))
noncomputable def slices_insertionSortCmpFunc_impl_Weighted_impl_summed_1_c6e.q4 (v0 : List (List Int × Int)) (v1 : Int) (v2 : Int) (v3 : Int) (v4 : Int) : Option R := loopAtL E (callT E tab) 157 Try.f157 4 [.r, .b, .o, .r, .l, .b, .r, .b] (⟨(.val .one), [.d .sha (.sl (.pair (.sl (.int .i64)) (.int .i64))) v0], true, false, false, 0, 0⟩ :: vc (iL v1) :: vc (iL v2) :: vc (.fn 130 []) :: nn 4 (vc (iL v3) :: vc (iL v4) :: nn 43 ([])))
noncomputable def slices_insertionSortCmpFunc_impl_Weighted_impl_summed_1_c6e.l4 (v0 : List (List Int × Int)) (v1 : Int) (v2 : Int) (v3 : Int) (v4 : Int) : Option ((List (List Int × Int))) := tOf slices_insertionSortCmpFunc_impl_Weighted_impl_summed_1_c6e.mk (slices_insertionSortCmpFunc_impl_Weighted_impl_summed_1_c6e.q4 v0 v1 v2 v3 v4)
noncomputable def slices_insertionSortCmpFunc_impl_Weighted_impl_summed_1_c6e.q1 (v0 : List (List Int × Int)) (v1 : Int) (v2 : Int) (v3 : Int) : Option R := loopAtL E (callT E tab) 157 Try.f157 4 [.r, .b] (⟨(.val .one), [.d .sha (.sl (.pair (.sl (.int .i64)) (.int .i64))) v0], true, false, false, 0, 0⟩ :: vc (iL v1) :: vc (iL v2) :: vc (.fn 130 []) :: nn 4 (vc (iL v3) :: nn 44 ([])))
noncomputable def slices_insertionSortCmpFunc_impl_Weighted_impl_summed_1_c6e.l1 (v0 : List (List Int × Int)) (v1 : Int) (v2 : Int) (v3 : Int) : Option ((List (List Int × Int))) := tOf slices_insertionSortCmpFunc_impl_Weighted_impl_summed_1_c6e.mk (slices_insertionSortCmpFunc_impl_Weighted_impl_summed_1_c6e.q1 v0 v1 v2 v3)
noncomputable def slices_insertionSortCmpFunc_impl_Weighted_impl_summed_1_c6e.t {γ : Type} (ret : ((List (List Int × Int))) → Option γ) (lp4 : (List (List Int × Int)) → Int → Int → Int → Int → Option γ) (lp1 : (List (List Int × Int)) → Int → Int → Int → Option γ) (v0 : List (List Int × Int)) (v1 : Int) (v2 : Int) : Option γ :=
  lp1 (v0) (v1) (v2) (Go.IntKind.i64.wrap (v1 + (1 : Int)))
noncomputable def slices_insertionSortCmpFunc_impl_Weighted_impl_summed_1_c6e.t4 {γ : Type} (ret : ((List (List Int × Int))) → Option γ) (lp4 : (List (List Int × Int)) → Int → Int → Int → Int → Option γ) (lp1 : (List (List Int × Int)) → Int → Int → Int → Option γ) (v0 : List (List Int × Int)) (v1 : Int) (v2 : Int) (v3 : Int) (v4 : Int) : Option γ :=
  bif Decidable.decide (v4 > v1) then
    bif Decidable.decide ((0 : Int) ≤ v4) then
      bif Decidable.decide (v4.toNat < v0.length) then
        bif Decidable.decide (v4.toNat < v0.length) then
          bif Decidable.decide ((0 : Int) ≤ Go.IntKind.i64.wrap (v4 - (1 : Int))) then
            bif Decidable.decide ((Go.IntKind.i64.wrap (v4 - (1 : Int))).toNat < v0.length) then
              bif Decidable.decide ((Go.IntKind.i64.wrap (v4 - (1 : Int))).toNat < v0.length) then
                (impl_summed_1 ((v0.getD v4.toNat ([], (0 : Int))).fst) ((v0.getD v4.toNat ([], (0 : Int))).snd) ((v0.getD (Go.IntKind.i64.wrap (v4 - (1 : Int))).toNat ([], (0 : Int))).fst) ((v0.getD (Go.IntKind.i64.wrap (v4 - (1 : Int))).toNat ([], (0 : Int))).snd)).bind fun (r0 : Int) =>
                bif Decidable.decide (r0 < (0 : Int)) then
                  bif Decidable.decide ((0 : Int) ≤ Go.IntKind.i64.wrap (v4 - (1 : Int))) then
                    bif Decidable.decide ((Go.IntKind.i64.wrap (v4 - (1 : Int))).toNat < v0.length) then
                      bif Decidable.decide ((Go.IntKind.i64.wrap (v4 - (1 : Int))).toNat < v0.length) then
                        bif Decidable.decide ((0 : Int) ≤ v4) then
                          bif Decidable.decide (v4.toNat < v0.length) then
                            bif Decidable.decide (v4.toNat < v0.length) then
                              bif Decidable.decide ((0 : Int) ≤ v4) then
                                bif Decidable.decide (v4.toNat < v0.length) then
                                  bif Decidable.decide (v4.toNat < v0.length) then
                                    bif Decidable.decide ((0 : Int) ≤ Go.IntKind.i64.wrap (v4 - (1 : Int))) then
                                      bif Decidable.decide   ((Go.IntKind.i64.wrap (v4 - (1 : Int))).toNat <     (v0.set v4.toNat         ((v0.getD (Go.IntKind.i64.wrap (v4 - (1 : Int))).toNat ([], (0 : Int))).fst,           (v0.getD (Go.IntKind.i64.wrap (v4 - (1 : Int))).toNat ([], (0 : Int))).snd)).length) then
                                        bif Decidable.decide   ((Go.IntKind.i64.wrap (v4 - (1 : Int))).toNat <     (v0.set v4.toNat         ((v0.getD (Go.IntKind.i64.wrap (v4 - (1 : Int))).toNat ([], (0 : Int))).fst,           (v0.getD (Go.IntKind.i64.wrap (v4 - (1 : Int))).toNat ([], (0 : Int))).snd)).length) then
                                          lp4 ((v0.set v4.toNat       ((v0.getD (Go.IntKind.i64.wrap (v4 - (1 : Int))).toNat ([], (0 : Int))).fst,         (v0.getD (Go.IntKind.i64.wrap (v4 - (1 : Int))).toNat ([], (0 : Int))).snd)).set   (Go.IntKind.i64.wrap (v4 - (1 : Int))).toNat   ((v0.getD v4.toNat ([], (0 : Int))).fst, (v0.getD v4.toNat ([], (0 : Int))).snd)) (v1) (v2) (v3) (Go.IntKind.i64.wrap (v4 - (1 : Int)))
                                        else
                                          none
                                      else
                                        none
                                    else
                                      none
                                  else
                                    none
                                else
                                  none
                              else
                                none
                            else
                              none
                          else
                            none
                        else
                          none
                      else
                        none
                    else
                      none
                  else
                    none
                else
                  lp1 (v0) (v1) (v2) (Go.IntKind.i64.wrap (v3 + (1 : Int)))
              else
                none
            else
              none
          else
            none
        else
          none
      else
        none
    else
      none
  else
    lp1 (v0) (v1) (v2) (Go.IntKind.i64.wrap (v3 + (1 : Int)))
noncomputable def slices_insertionSortCmpFunc_impl_Weighted_impl_summed_1_c6e.t1 {γ : Type} (ret : ((List (List Int × Int))) → Option γ) (lp4 : (List (List Int × Int)) → Int → Int → Int → Int → Option γ) (lp1 : (List (List Int × Int)) → Int → Int → Int → Option γ) (v0 : List (List Int × Int)) (v1 : Int) (v2 : Int) (v3 : Int) : Option γ :=
  bif Decidable.decide (v3 < v2) then
    lp4 (v0) (v1) (v2) (v3) (v3)
  else
    ret (v0)
theorem slices_insertionSortCmpFunc_impl_Weighted_impl_summed_1_c6e.k (v0 : List (List Int × Int)) (v1 : Int) (v2 : Int) : topL E (callT E tab) 157 Try.f157 (slices_insertionSortCmpFunc_impl_Weighted_impl_summed_1_c6e.c v0 v1 v2) = slices_insertionSortCmpFunc_impl_Weighted_impl_summed_1_c6e.t (fun b => some (slices_insertionSortCmpFunc_impl_Weighted_impl_summed_1_c6e.mk b)) slices_insertionSortCmpFunc_impl_Weighted_impl_summed_1_c6e.q4 slices_insertionSortCmpFunc_impl_Weighted_impl_summed_1_c6e.q1 v0 v1 v2 := by kernel_rfl
theorem slices_insertionSortCmpFunc_impl_Weighted_impl_summed_1_c6e.k4 (v0 : List (List Int × Int)) (v1 : Int) (v2 : Int) (v3 : Int) (v4 : Int) : roundL E (callT E tab) 157 Try.f157 4 [.r, .b, .o, .r, .l, .b, .r, .b] (⟨(.val .one), [.d .sha (.sl (.pair (.sl (.int .i64)) (.int .i64))) v0], true, false, false, 0, 0⟩ :: vc (iL v1) :: vc (iL v2) :: vc (.fn 130 []) :: nn 4 (vc (iL v3) :: vc (iL v4) :: nn 43 ([]))) = slices_insertionSortCmpFunc_impl_Weighted_impl_summed_1_c6e.t4 (fun b => some (slices_insertionSortCmpFunc_impl_Weighted_impl_summed_1_c6e.mk b)) slices_insertionSortCmpFunc_impl_Weighted_impl_summed_1_c6e.q4 slices_insertionSortCmpFunc_impl_Weighted_impl_summed_1_c6e.q1 v0 v1 v2 v3 v4 := by kernel_rfl
theorem slices_insertionSortCmpFunc_impl_Weighted_impl_summed_1_c6e.k1 (v0 : List (List Int × Int)) (v1 : Int) (v2 : Int) (v3 : Int) : roundL E (callT E tab) 157 Try.f157 4 [.r, .b] (⟨(.val .one), [.d .sha (.sl (.pair (.sl (.int .i64)) (.int .i64))) v0], true, false, false, 0, 0⟩ :: vc (iL v1) :: vc (iL v2) :: vc (.fn 130 []) :: nn 4 (vc (iL v3) :: nn 44 ([]))) = slices_insertionSortCmpFunc_impl_Weighted_impl_summed_1_c6e.t1 (fun b => some (slices_insertionSortCmpFunc_impl_Weighted_impl_summed_1_c6e.mk b)) slices_insertionSortCmpFunc_impl_Weighted_impl_summed_1_c6e.q4 slices_insertionSortCmpFunc_impl_Weighted_impl_summed_1_c6e.q1 v0 v1 v2 v3 := by kernel_rfl
theorem slices_insertionSortCmpFunc_impl_Weighted_impl_summed_1_c6e.s (v0 : List (List Int × Int)) (v1 : Int) (v2 : Int) : Sub slices_insertionSortCmpFunc_impl_Weighted_impl_summed_1_c6e.mk (slices_insertionSortCmpFunc_impl_Weighted_impl_summed_1_c6e.t some slices_insertionSortCmpFunc_impl_Weighted_impl_summed_1_c6e.l4 slices_insertionSortCmpFunc_impl_Weighted_impl_summed_1_c6e.l1 v0 v1 v2) (slices_insertionSortCmpFunc_impl_Weighted_impl_summed_1_c6e.t (fun b => some (slices_insertionSortCmpFunc_impl_Weighted_impl_summed_1_c6e.mk b)) slices_insertionSortCmpFunc_impl_Weighted_impl_summed_1_c6e.q4 slices_insertionSortCmpFunc_impl_Weighted_impl_summed_1_c6e.q1 v0 v1 v2) := by
  unfold slices_insertionSortCmpFunc_impl_Weighted_impl_summed_1_c6e.t
  repeat' first | exact Sub.ret | exact Sub.none | exact Sub.loop | apply Sub.cond | (apply Sub.bind; intro _)
theorem slices_insertionSortCmpFunc_impl_Weighted_impl_summed_1_c6e.eq (v0 : List (List Int × Int)) (v1 : Int) (v2 : Int) {b : (List (List Int × Int))} (h : slices_insertionSortCmpFunc_impl_Weighted_impl_summed_1_c6e.t some slices_insertionSortCmpFunc_impl_Weighted_impl_summed_1_c6e.l4 slices_insertionSortCmpFunc_impl_Weighted_impl_summed_1_c6e.l1 v0 v1 v2 = some b) : slices_insertionSortCmpFunc_impl_Weighted_impl_summed_1_c6e v0 v1 v2 = some b := tOf_intro slices_insertionSortCmpFunc_impl_Weighted_impl_summed_1_c6e.un (fun _ => by kernel_rfl) (vlim_fn (callT_le E tab) rfl rfl rfl ((slices_insertionSortCmpFunc_impl_Weighted_impl_summed_1_c6e.k v0 v1 v2).trans (slices_insertionSortCmpFunc_impl_Weighted_impl_summed_1_c6e.s v0 v1 v2 b h)))
theorem slices_insertionSortCmpFunc_impl_Weighted_impl_summed_1_c6e.s4 (v0 : List (List Int × Int)) (v1 : Int) (v2 : Int) (v3 : Int) (v4 : Int) : Sub slices_insertionSortCmpFunc_impl_Weighted_impl_summed_1_c6e.mk (slices_insertionSortCmpFunc_impl_Weighted_impl_summed_1_c6e.t4 some slices_insertionSortCmpFunc_impl_Weighted_impl_summed_1_c6e.l4 slices_insertionSortCmpFunc_impl_Weighted_impl_summed_1_c6e.l1 v0 v1 v2 v3 v4) (slices_insertionSortCmpFunc_impl_Weighted_impl_summed_1_c6e.t4 (fun b => some (slices_insertionSortCmpFunc_impl_Weighted_impl_summed_1_c6e.mk b)) slices_insertionSortCmpFunc_impl_Weighted_impl_summed_1_c6e.q4 slices_insertionSortCmpFunc_impl_Weighted_impl_summed_1_c6e.q1 v0 v1 v2 v3 v4) := by
  unfold slices_insertionSortCmpFunc_impl_Weighted_impl_summed_1_c6e.t4
  repeat' first | exact Sub.ret | exact Sub.none | exact Sub.loop | apply Sub.cond | (apply Sub.bind; intro _)
theorem slices_insertionSortCmpFunc_impl_Weighted_impl_summed_1_c6e.eq4 (v0 : List (List Int × Int)) (v1 : Int) (v2 : Int) (v3 : Int) (v4 : Int) {b : (List (List Int × Int))} (h : slices_insertionSortCmpFunc_impl_Weighted_impl_summed_1_c6e.t4 some slices_insertionSortCmpFunc_impl_Weighted_impl_summed_1_c6e.l4 slices_insertionSortCmpFunc_impl_Weighted_impl_summed_1_c6e.l1 v0 v1 v2 v3 v4 = some b) : slices_insertionSortCmpFunc_impl_Weighted_impl_summed_1_c6e.l4 v0 v1 v2 v3 v4 = some b := tOf_intro slices_insertionSortCmpFunc_impl_Weighted_impl_summed_1_c6e.un (fun _ => by kernel_rfl) (loopAtL_step ((slices_insertionSortCmpFunc_impl_Weighted_impl_summed_1_c6e.k4 v0 v1 v2 v3 v4).trans (slices_insertionSortCmpFunc_impl_Weighted_impl_summed_1_c6e.s4 v0 v1 v2 v3 v4 b h)))
theorem slices_insertionSortCmpFunc_impl_Weighted_impl_summed_1_c6e.s1 (v0 : List (List Int × Int)) (v1 : Int) (v2 : Int) (v3 : Int) : Sub slices_insertionSortCmpFunc_impl_Weighted_impl_summed_1_c6e.mk (slices_insertionSortCmpFunc_impl_Weighted_impl_summed_1_c6e.t1 some slices_insertionSortCmpFunc_impl_Weighted_impl_summed_1_c6e.l4 slices_insertionSortCmpFunc_impl_Weighted_impl_summed_1_c6e.l1 v0 v1 v2 v3) (slices_insertionSortCmpFunc_impl_Weighted_impl_summed_1_c6e.t1 (fun b => some (slices_insertionSortCmpFunc_impl_Weighted_impl_summed_1_c6e.mk b)) slices_insertionSortCmpFunc_impl_Weighted_impl_summed_1_c6e.q4 slices_insertionSortCmpFunc_impl_Weighted_impl_summed_1_c6e.q1 v0 v1 v2 v3) := by
  unfold slices_insertionSortCmpFunc_impl_Weighted_impl_summed_1_c6e.t1
  repeat' first | exact Sub.ret | exact Sub.none | exact Sub.loop | apply Sub.cond | (apply Sub.bind; intro _)
theorem slices_insertionSortCmpFunc_impl_Weighted_impl_summed_1_c6e.eq1 (v0 : List (List Int × Int)) (v1 : Int) (v2 : Int) (v3 : Int) {b : (List (List Int × Int))} (h : slices_insertionSortCmpFunc_impl_Weighted_impl_summed_1_c6e.t1 some slices_insertionSortCmpFunc_impl_Weighted_impl_summed_1_c6e.l4 slices_insertionSortCmpFunc_impl_Weighted_impl_summed_1_c6e.l1 v0 v1 v2 v3 = some b) : slices_insertionSortCmpFunc_impl_Weighted_impl_summed_1_c6e.l1 v0 v1 v2 v3 = some b := tOf_intro slices_insertionSortCmpFunc_impl_Weighted_impl_summed_1_c6e.un (fun _ => by kernel_rfl) (loopAtL_step ((slices_insertionSortCmpFunc_impl_Weighted_impl_summed_1_c6e.k1 v0 v1 v2 v3).trans (slices_insertionSortCmpFunc_impl_Weighted_impl_summed_1_c6e.s1 v0 v1 v2 v3 b h)))
noncomputable def impl_summed_1.t {γ : Type} (ret : (Int) → Option γ) (v0 : List Int) (v1 : Int) (v2 : List Int) (v3 : Int) : Option γ :=
  (impl_compareRows (v0) (v2)).bind fun (r0 : Int) =>
  ret (r0)
theorem impl_summed_1.k (v0 : List Int) (v1 : Int) (v2 : List Int) (v3 : Int) : topL E (callT E tab) 130 Try.f130 (impl_summed_1.c v0 v1 v2 v3) = impl_summed_1.t (fun b => some (impl_summed_1.mk b)) v0 v1 v2 v3 := by kernel_rfl
theorem impl_summed_1.s (v0 : List Int) (v1 : Int) (v2 : List Int) (v3 : Int) : Sub impl_summed_1.mk (impl_summed_1.t some v0 v1 v2 v3) (impl_summed_1.t (fun b => some (impl_summed_1.mk b)) v0 v1 v2 v3) := by
  unfold impl_summed_1.t
  repeat' first | exact Sub.ret | exact Sub.none | exact Sub.loop | apply Sub.cond | (apply Sub.bind; intro _)
theorem impl_summed_1.eq (v0 : List Int) (v1 : Int) (v2 : List Int) (v3 : Int) {b : Int} (h : impl_summed_1.t some v0 v1 v2 v3 = some b) : impl_summed_1 v0 v1 v2 v3 = some b := tOf_intro impl_summed_1.un (fun _ => by kernel_rfl) (vlim_fn (callT_le E tab) rfl rfl rfl ((impl_summed_1.k v0 v1 v2 v3).trans (impl_summed_1.s v0 v1 v2 v3 b h)))
noncomputable def impl_compareRows.t {γ : Type} (ret : (Int) → Option γ) (v0 : List Int) (v1 : List Int) : Option γ :=
  (slices_Compare_int_int (v0) (v1)).bind fun (r0 : Int) =>
  ret (r0)
theorem impl_compareRows.k (v0 : List Int) (v1 : List Int) : topL E (callT E tab) 108 Try.f108 (impl_compareRows.c v0 v1) = impl_compareRows.t (fun b => some (impl_compareRows.mk b)) v0 v1 := by kernel_rfl
theorem impl_compareRows.s (v0 : List Int) (v1 : List Int) : Sub impl_compareRows.mk (impl_compareRows.t some v0 v1) (impl_compareRows.t (fun b => some (impl_compareRows.mk b)) v0 v1) := by
  unfold impl_compareRows.t
  repeat' first | exact Sub.ret | exact Sub.none | exact Sub.loop | apply Sub.cond | (apply Sub.bind; intro _)
theorem impl_compareRows.eq (v0 : List Int) (v1 : List Int) {b : Int} (h : impl_compareRows.t some v0 v1 = some b) : impl_compareRows v0 v1 = some b := tOf_intro impl_compareRows.un (fun _ => by kernel_rfl) (vlim_fn (callT_le E tab) rfl rfl rfl ((impl_compareRows.k v0 v1).trans (impl_compareRows.s v0 v1 b h)))
noncomputable def slices_Compare_int_int.q2 (v0 : List Int) (v1 : List Int) (v2 : List Int) (v3 : Int) (v4 : Int) : Option R := loopAtL E (callT E tab) 141 Try.f141 2 [.r, .l, .r, .b] (vc (.d .fro (.sl (.int .i64)) v0) :: vc (.d .fro (.sl (.int .i64)) v1) :: nn 7 (vc (.d .fro (.sl (.int .i64)) v2) :: vc (iL v3) :: vc (iL v4) :: nn 24 ([])))
noncomputable def slices_Compare_int_int.l2 (v0 : List Int) (v1 : List Int) (v2 : List Int) (v3 : Int) (v4 : Int) : Option (Int) := tOf slices_Compare_int_int.mk (slices_Compare_int_int.q2 v0 v1 v2 v3 v4)
noncomputable def slices_Compare_int_int.t {γ : Type} (ret : (Int) → Option γ) (lp2 : (List Int) → (List Int) → (List Int) → Int → Int → Option γ) (v0 : List Int) (v1 : List Int) : Option γ :=
  lp2 (v0) (v1) (v0) ((↑v0.length : Int)) ((0 : Int))
noncomputable def slices_Compare_int_int.t2 {γ : Type} (ret : (Int) → Option γ) (lp2 : (List Int) → (List Int) → (List Int) → Int → Int → Option γ) (v0 : List Int) (v1 : List Int) (v2 : List Int) (v3 : Int) (v4 : Int) : Option γ :=
  bif Decidable.decide (v4 < v3) then
    bif Decidable.decide ((0 : Int) ≤ v4) then
      bif Decidable.decide (v4.toNat < v2.length) then
        bif Decidable.decide (v4 ≥ (↑v1.length : Int)) then
          ret ((1 : Int))
        else
          bif Decidable.decide ((0 : Int) ≤ v4) then
            bif Decidable.decide (v4.toNat < v1.length) then
              (cmp_Compare_int (v2.getD v4.toNat (0 : Int)) (v1.getD v4.toNat (0 : Int))).bind fun (r0 : Int) =>
              bif r0 != (0 : Int) then
                ret (r0)
              else
                lp2 (v0) (v1) (v2) (v3) (Go.IntKind.i64.wrap (v4 + (1 : Int)))
            else
              none
          else
            none
      else
        none
    else
      none
  else
    bif Decidable.decide ((↑v0.length : Int) < (↑v1.length : Int)) then
      ret ((-1 : Int))
    else
      ret ((0 : Int))
theorem slices_Compare_int_int.k (v0 : List Int) (v1 : List Int) : topL E (callT E tab) 141 Try.f141 (slices_Compare_int_int.c v0 v1) = slices_Compare_int_int.t (fun b => some (slices_Compare_int_int.mk b)) slices_Compare_int_int.q2 v0 v1 := by kernel_rfl
theorem slices_Compare_int_int.k2 (v0 : List Int) (v1 : List Int) (v2 : List Int) (v3 : Int) (v4 : Int) : roundL E (callT E tab) 141 Try.f141 2 [.r, .l, .r, .b] (vc (.d .fro (.sl (.int .i64)) v0) :: vc (.d .fro (.sl (.int .i64)) v1) :: nn 7 (vc (.d .fro (.sl (.int .i64)) v2) :: vc (iL v3) :: vc (iL v4) :: nn 24 ([]))) = slices_Compare_int_int.t2 (fun b => some (slices_Compare_int_int.mk b)) slices_Compare_int_int.q2 v0 v1 v2 v3 v4 := by kernel_rfl
theorem slices_Compare_int_int.s (v0 : List Int) (v1 : List Int) : Sub slices_Compare_int_int.mk (slices_Compare_int_int.t some slices_Compare_int_int.l2 v0 v1) (slices_Compare_int_int.t (fun b => some (slices_Compare_int_int.mk b)) slices_Compare_int_int.q2 v0 v1) := by
  unfold slices_Compare_int_int.t
  repeat' first | exact Sub.ret | exact Sub.none | exact Sub.loop | apply Sub.cond | (apply Sub.bind; intro _)
theorem slices_Compare_int_int.eq (v0 : List Int) (v1 : List Int) {b : Int} (h : slices_Compare_int_int.t some slices_Compare_int_int.l2 v0 v1 = some b) : slices_Compare_int_int v0 v1 = some b := tOf_intro slices_Compare_int_int.un (fun _ => by kernel_rfl) (vlim_fn (callT_le E tab) rfl rfl rfl ((slices_Compare_int_int.k v0 v1).trans (slices_Compare_int_int.s v0 v1 b h)))
theorem slices_Compare_int_int.s2 (v0 : List Int) (v1 : List Int) (v2 : List Int) (v3 : Int) (v4 : Int) : Sub slices_Compare_int_int.mk (slices_Compare_int_int.t2 some slices_Compare_int_int.l2 v0 v1 v2 v3 v4) (slices_Compare_int_int.t2 (fun b => some (slices_Compare_int_int.mk b)) slices_Compare_int_int.q2 v0 v1 v2 v3 v4) := by
  unfold slices_Compare_int_int.t2
  repeat' first | exact Sub.ret | exact Sub.none | exact Sub.loop | apply Sub.cond | (apply Sub.bind; intro _)
theorem slices_Compare_int_int.eq2 (v0 : List Int) (v1 : List Int) (v2 : List Int) (v3 : Int) (v4 : Int) {b : Int} (h : slices_Compare_int_int.t2 some slices_Compare_int_int.l2 v0 v1 v2 v3 v4 = some b) : slices_Compare_int_int.l2 v0 v1 v2 v3 v4 = some b := tOf_intro slices_Compare_int_int.un (fun _ => by kernel_rfl) (loopAtL_step ((slices_Compare_int_int.k2 v0 v1 v2 v3 v4).trans (slices_Compare_int_int.s2 v0 v1 v2 v3 v4 b h)))
noncomputable def cmp_Compare_int.t {γ : Type} (ret : (Int) → Option γ) (v0 : Int) (v1 : Int) : Option γ :=
  (cmp_isNaN_int (v0)).bind fun (r0 : Bool) =>
  (cmp_isNaN_int (v1)).bind fun (r1 : Bool) =>
  bif r0 then
    bif r1 then
      ret ((0 : Int))
    else
      ret ((-1 : Int))
  else
    bif r1 then
      ret ((1 : Int))
    else
      bif Decidable.decide (v0 < v1) then
        ret ((-1 : Int))
      else
        bif Decidable.decide (v0 > v1) then
          ret ((1 : Int))
        else
          ret ((0 : Int))
theorem cmp_Compare_int.k (v0 : Int) (v1 : Int) : topL E (callT E tab) 155 Try.f155 (cmp_Compare_int.c v0 v1) = cmp_Compare_int.t (fun b => some (cmp_Compare_int.mk b)) v0 v1 := by kernel_rfl
theorem cmp_Compare_int.s (v0 : Int) (v1 : Int) : Sub cmp_Compare_int.mk (cmp_Compare_int.t some v0 v1) (cmp_Compare_int.t (fun b => some (cmp_Compare_int.mk b)) v0 v1) := by
  unfold cmp_Compare_int.t
  repeat' first | exact Sub.ret | exact Sub.none | exact Sub.loop | apply Sub.cond | (apply Sub.bind; intro _)
theorem cmp_Compare_int.eq (v0 : Int) (v1 : Int) {b : Int} (h : cmp_Compare_int.t some v0 v1 = some b) : cmp_Compare_int v0 v1 = some b := tOf_intro cmp_Compare_int.un (fun _ => by kernel_rfl) (vlim_fn (callT_le E tab) rfl rfl rfl ((cmp_Compare_int.k v0 v1).trans (cmp_Compare_int.s v0 v1 b h)))
noncomputable def cmp_isNaN_int.t {γ : Type} (ret : (Bool) → Option γ) (v0 : Int) : Option γ :=
  ret (v0 != v0)
theorem cmp_isNaN_int.k (v0 : Int) : topL E (callT E tab) 163 Try.f163 (cmp_isNaN_int.c v0) = cmp_isNaN_int.t (fun b => some (cmp_isNaN_int.mk b)) v0 := by kernel_rfl
theorem cmp_isNaN_int.s (v0 : Int) : Sub cmp_isNaN_int.mk (cmp_isNaN_int.t some v0) (cmp_isNaN_int.t (fun b => some (cmp_isNaN_int.mk b)) v0) := by
  unfold cmp_isNaN_int.t
  repeat' first | exact Sub.ret | exact Sub.none | exact Sub.loop | apply Sub.cond | (apply Sub.bind; intro _)
theorem cmp_isNaN_int.eq (v0 : Int) {b : Bool} (h : cmp_isNaN_int.t some v0 = some b) : cmp_isNaN_int v0 = some b := tOf_intro cmp_isNaN_int.un (fun _ => by kernel_rfl) (vlim_fn (callT_le E tab) rfl rfl rfl ((cmp_isNaN_int.k v0).trans (cmp_isNaN_int.s v0 b h)))
noncomputable def slices_symMergeCmpFunc_impl_Weighted_impl_summed_1_70b.q9 (v0 : List (List Int × Int)) (v1 : Int) (v2 : Int) : Option R := loopAtL E (callT E tab) 158 Try.f158 5 [.l, .r, .l, .r, .r, .r, .l, .r, .b] (⟨(.val .one), [.d .sha (.sl (.pair (.sl (.int .i64)) (.int .i64))) v0], true, false, false, 0, 0⟩ :: nn 9 (vc (iL v1) :: nn 2 (vc (iL v2) :: nn 206 ([]))))
noncomputable def slices_symMergeCmpFunc_impl_Weighted_impl_summed_1_70b.l9 (v0 : List (List Int × Int)) (v1 : Int) (v2 : Int) : Option ((List (List Int × Int))) := tOf slices_symMergeCmpFunc_impl_Weighted_impl_summed_1_70b.mk (slices_symMergeCmpFunc_impl_Weighted_impl_summed_1_70b.q9 v0 v1 v2)
noncomputable def slices_symMergeCmpFunc_impl_Weighted_impl_summed_1_70b.q3 (v0 : List (List Int × Int)) (v1 : Int) (v2 : Int) (v3 : Int) : Option R := loopAtL E (callT E tab) 158 Try.f158 5 [.l, .r, .l, .r, .r, .l, .b] (⟨(.val .one), [.d .sha (.sl (.pair (.sl (.int .i64)) (.int .i64))) v0], true, false, false, 0, 0⟩ :: vc (iL v1) :: nn 2 (vc (.fn 130 []) :: nn 5 (vc (iL v2) :: vc (iL v3) :: nn 208 ([]))))
noncomputable def slices_symMergeCmpFunc_impl_Weighted_impl_summed_1_70b.l3 (v0 : List (List Int × Int)) (v1 : Int) (v2 : Int) (v3 : Int) : Option ((List (List Int × Int))) := tOf slices_symMergeCmpFunc_impl_Weighted_impl_summed_1_70b.mk (slices_symMergeCmpFunc_impl_Weighted_impl_summed_1_70b.q3 v0 v1 v2 v3)
noncomputable def slices_symMergeCmpFunc_impl_Weighted_impl_summed_1_70b.q21 (v0 : List (List Int × Int)) (v1 : Int) (v2 : Int) : Option R := loopAtL E (callT E tab) 158 Try.f158 5 [.r, .l, .r, .l, .r, .r, .r, .l, .r, .b] (⟨(.val .one), [.d .sha (.sl (.pair (.sl (.int .i64)) (.int .i64))) v0], true, false, false, 0, 0⟩ :: nn 13 (vc (iL v1) :: nn 2 (vc (iL v2) :: nn 202 ([]))))
noncomputable def slices_symMergeCmpFunc_impl_Weighted_impl_summed_1_70b.l21 (v0 : List (List Int × Int)) (v1 : Int) (v2 : Int) : Option ((List (List Int × Int))) := tOf slices_symMergeCmpFunc_impl_Weighted_impl_summed_1_70b.mk (slices_symMergeCmpFunc_impl_Weighted_impl_summed_1_70b.q21 v0 v1 v2)
noncomputable def slices_symMergeCmpFunc_impl_Weighted_impl_summed_1_70b.q15 (v0 : List (List Int × Int)) (v1 : Int) (v2 : Int) (v3 : Int) : Option R := loopAtL E (callT E tab) 158 Try.f158 5 [.r, .l, .r, .l, .r, .r, .l, .b] (⟨(.val .one), [.d .sha (.sl (.pair (.sl (.int .i64)) (.int .i64))) v0], true, false, false, 0, 0⟩ :: nn 1 (vc (iL v1) :: nn 1 (vc (.fn 130 []) :: nn 9 (vc (iL v2) :: vc (iL v3) :: nn 204 ([])))))
noncomputable def slices_symMergeCmpFunc_impl_Weighted_impl_summed_1_70b.l15 (v0 : List (List Int × Int)) (v1 : Int) (v2 : Int) (v3 : Int) : Option ((List (List Int × Int))) := tOf slices_symMergeCmpFunc_impl_Weighted_impl_summed_1_70b.mk (slices_symMergeCmpFunc_impl_Weighted_impl_summed_1_70b.q15 v0 v1 v2 v3)
noncomputable def slices_symMergeCmpFunc_impl_Weighted_impl_summed_1_70b.q33 (v0 : List (List Int × Int)) (v1 : Int) (v2 : Int) (v3 : Int) (v4 : Int) (v5 : Int) (v6 : Int) (v7 : Int) (v8 : Int) : Option R := loopAtL E (callT E tab) 158 Try.f158 5 [.r, .r, .r, .r, .r, .r, .r, .l, .b] (⟨(.val .one), [.d .sha (.sl (.pair (.sl (.int .i64)) (.int .i64))) v0], true, false, false, 0, 0⟩ :: vc (iL v1) :: vc (iL v2) :: vc (iL v3) :: vc (.fn 130 []) :: nn 13 (vc (iL v4) :: vc (iL v5) :: vc (iL v6) :: vc (iL v7) :: vc (iL v8) :: nn 197 ([])))
noncomputable def slices_symMergeCmpFunc_impl_Weighted_impl_summed_1_70b.l33 (v0 : List (List Int × Int)) (v1 : Int) (v2 : Int) (v3 : Int) (v4 : Int) (v5 : Int) (v6 : Int) (v7 : Int) (v8 : Int) : Option ((List (List Int × Int))) := tOf slices_symMergeCmpFunc_impl_Weighted_impl_summed_1_70b.mk (slices_symMergeCmpFunc_impl_Weighted_impl_summed_1_70b.q33 v0 v1 v2 v3 v4 v5 v6 v7 v8)
noncomputable def slices_symMergeCmpFunc_impl_Weighted_impl_summed_1_70b.t {γ : Type} (ret : ((List (List Int × Int))) → Option γ) (lp9 : (List (List Int × Int)) → Int → Int → Option γ) (lp3 : (List (List Int × Int)) → Int → Int → Int → Option γ) (lp21 : (List (List Int × Int)) → Int → Int → Option γ) (lp15 : (List (List Int × Int)) → Int → Int → Int → Option γ) (lp33 : (List (List Int × Int)) → Int → Int → Int → Int → Int → Int → Int → Int → Option γ) (v0 : List (List Int × Int)) (v1 : Int) (v2 : Int) (v3 : Int) : Option γ :=
  bif Go.IntKind.i64.wrap (v2 - v1) == (1 : Int) then
    lp3 (v0) (v1) (v2) (v3)
  else
    bif Go.IntKind.i64.wrap (v3 - v2) == (1 : Int) then
      lp15 (v0) (v2) (v1) (v2)
    else
      bif Decidable.decide   (v2 >     Go.IntKind.i64.wrap       ((Go.IntKind.u64.wrap (Go.IntKind.i64.wrap (v1 + v3))).fdiv         ((2 : Int) ^ Min.min (Int.toNat (1 : Int)) Go.IntKind.u64.bits))) then
        lp33 (v0) (v1) (v2) (v3) (Go.IntKind.i64.wrap   ((Go.IntKind.u64.wrap (Go.IntKind.i64.wrap (v1 + v3))).fdiv     ((2 : Int) ^ Min.min (Int.toNat (1 : Int)) Go.IntKind.u64.bits))) (Go.IntKind.i64.wrap   (Go.IntKind.i64.wrap       ((Go.IntKind.u64.wrap (Go.IntKind.i64.wrap (v1 + v3))).fdiv         ((2 : Int) ^ Min.min (Int.toNat (1 : Int)) Go.IntKind.u64.bits)) +     v2)) (Go.IntKind.i64.wrap   (Go.IntKind.i64.wrap       (Go.IntKind.i64.wrap           ((Go.IntKind.u64.wrap (Go.IntKind.i64.wrap (v1 + v3))).fdiv             ((2 : Int) ^ Min.min (Int.toNat (1 : Int)) Go.IntKind.u64.bits)) +         v2) -     v3)) (Go.IntKind.i64.wrap   ((Go.IntKind.u64.wrap (Go.IntKind.i64.wrap (v1 + v3))).fdiv     ((2 : Int) ^ Min.min (Int.toNat (1 : Int)) Go.IntKind.u64.bits))) (Go.IntKind.i64.wrap   (Go.IntKind.i64.wrap       (Go.IntKind.i64.wrap           ((Go.IntKind.u64.wrap (Go.IntKind.i64.wrap (v1 + v3))).fdiv             ((2 : Int) ^ Min.min (Int.toNat (1 : Int)) Go.IntKind.u64.bits)) +         v2) -     (1 : Int)))
      else
        lp33 (v0) (v1) (v2) (v3) (Go.IntKind.i64.wrap   ((Go.IntKind.u64.wrap (Go.IntKind.i64.wrap (v1 + v3))).fdiv     ((2 : Int) ^ Min.min (Int.toNat (1 : Int)) Go.IntKind.u64.bits))) (Go.IntKind.i64.wrap   (Go.IntKind.i64.wrap       ((Go.IntKind.u64.wrap (Go.IntKind.i64.wrap (v1 + v3))).fdiv         ((2 : Int) ^ Min.min (Int.toNat (1 : Int)) Go.IntKind.u64.bits)) +     v2)) (v1) (v2) (Go.IntKind.i64.wrap   (Go.IntKind.i64.wrap       (Go.IntKind.i64.wrap           ((Go.IntKind.u64.wrap (Go.IntKind.i64.wrap (v1 + v3))).fdiv             ((2 : Int) ^ Min.min (Int.toNat (1 : Int)) Go.IntKind.u64.bits)) +         v2) -     (1 : Int)))
noncomputable def slices_symMergeCmpFunc_impl_Weighted_impl_summed_1_70b.t9 {γ : Type} (ret : ((List (List Int × Int))) → Option γ) (lp9 : (List (List Int × Int)) → Int → Int → Option γ) (lp3 : (List (List Int × Int)) → Int → Int → Int → Option γ) (lp21 : (List (List Int × Int)) → Int → Int → Option γ) (lp15 : (List (List Int × Int)) → Int → Int → Int → Option γ) (lp33 : (List (List Int × Int)) → Int → Int → Int → Int → Int → Int → Int → Int → Option γ) (v0 : List (List Int × Int)) (v1 : Int) (v2 : Int) : Option γ :=
  bif Decidable.decide (v2 < Go.IntKind.i64.wrap (v1 - (1 : Int))) then
    bif Decidable.decide ((0 : Int) ≤ Go.IntKind.i64.wrap (v2 + (1 : Int))) then
      bif Decidable.decide ((Go.IntKind.i64.wrap (v2 + (1 : Int))).toNat < v0.length) then
        bif Decidable.decide ((Go.IntKind.i64.wrap (v2 + (1 : Int))).toNat < v0.length) then
          bif Decidable.decide ((0 : Int) ≤ v2) then
            bif Decidable.decide (v2.toNat < v0.length) then
              bif Decidable.decide (v2.toNat < v0.length) then
                bif Decidable.decide ((0 : Int) ≤ v2) then
                  bif Decidable.decide (v2.toNat < v0.length) then
                    bif Decidable.decide (v2.toNat < v0.length) then
                      bif Decidable.decide ((0 : Int) ≤ Go.IntKind.i64.wrap (v2 + (1 : Int))) then
                        bif Decidable.decide   ((Go.IntKind.i64.wrap (v2 + (1 : Int))).toNat <     (v0.set v2.toNat         ((v0.getD (Go.IntKind.i64.wrap (v2 + (1 : Int))).toNat ([], (0 : Int))).fst,           (v0.getD (Go.IntKind.i64.wrap (v2 + (1 : Int))).toNat ([], (0 : Int))).snd)).length) then
                          bif Decidable.decide   ((Go.IntKind.i64.wrap (v2 + (1 : Int))).toNat <     (v0.set v2.toNat         ((v0.getD (Go.IntKind.i64.wrap (v2 + (1 : Int))).toNat ([], (0 : Int))).fst,           (v0.getD (Go.IntKind.i64.wrap (v2 + (1 : Int))).toNat ([], (0 : Int))).snd)).length) then
                            lp9 ((v0.set v2.toNat       ((v0.getD (Go.IntKind.i64.wrap (v2 + (1 : Int))).toNat ([], (0 : Int))).fst,         (v0.getD (Go.IntKind.i64.wrap (v2 + (1 : Int))).toNat ([], (0 : Int))).snd)).set   (Go.IntKind.i64.wrap (v2 + (1 : Int))).toNat   ((v0.getD v2.toNat ([], (0 : Int))).fst, (v0.getD v2.toNat ([], (0 : Int))).snd)) (v1) (Go.IntKind.i64.wrap (v2 + (1 : Int)))
                          else
                            none
                        else
                          none
                      else
                        none
                    else
                      none
                  else
                    none
                else
                  none
              else
                none
            else
              none
          else
            none
        else
          none
      else
        none
    else
      none
  else
    ret (v0)
noncomputable def slices_symMergeCmpFunc_impl_Weighted_impl_summed_1_70b.t3 {γ : Type} (ret : ((List (List Int × Int))) → Option γ) (lp9 : (List (List Int × Int)) → Int → Int → Option γ) (lp3 : (List (List Int × Int)) → Int → Int → Int → Option γ) (lp21 : (List (List Int × Int)) → Int → Int → Option γ) (lp15 : (List (List Int × Int)) → Int → Int → Int → Option γ) (lp33 : (List (List Int × Int)) → Int → Int → Int → Int → Int → Int → Int → Int → Option γ) (v0 : List (List Int × Int)) (v1 : Int) (v2 : Int) (v3 : Int) : Option γ :=
  bif Decidable.decide (v2 < v3) then
    bif Decidable.decide   ((0 : Int) ≤     Go.IntKind.i64.wrap       ((Go.IntKind.u64.wrap (Go.IntKind.i64.wrap (v2 + v3))).fdiv         ((2 : Int) ^ Min.min (Int.toNat (1 : Int)) Go.IntKind.u64.bits))) then
      bif Decidable.decide   ((Go.IntKind.i64.wrap         ((Go.IntKind.u64.wrap (Go.IntKind.i64.wrap (v2 + v3))).fdiv           ((2 : Int) ^ Min.min (Int.toNat (1 : Int)) Go.IntKind.u64.bits))).toNat <     v0.length) then
        bif Decidable.decide   ((Go.IntKind.i64.wrap         ((Go.IntKind.u64.wrap (Go.IntKind.i64.wrap (v2 + v3))).fdiv           ((2 : Int) ^ Min.min (Int.toNat (1 : Int)) Go.IntKind.u64.bits))).toNat <     v0.length) then
          bif Decidable.decide ((0 : Int) ≤ v1) then
            bif Decidable.decide (v1.toNat < v0.length) then
              bif Decidable.decide (v1.toNat < v0.length) then
                (impl_summed_1 ((v0.getD     (Go.IntKind.i64.wrap         ((Go.IntKind.u64.wrap (Go.IntKind.i64.wrap (v2 + v3))).fdiv           ((2 : Int) ^ Min.min (Int.toNat (1 : Int)) Go.IntKind.u64.bits))).toNat     ([], (0 : Int))).fst) ((v0.getD     (Go.IntKind.i64.wrap         ((Go.IntKind.u64.wrap (Go.IntKind.i64.wrap (v2 + v3))).fdiv           ((2 : Int) ^ Min.min (Int.toNat (1 : Int)) Go.IntKind.u64.bits))).toNat     ([], (0 : Int))).snd) ((v0.getD v1.toNat ([], (0 : Int))).fst) ((v0.getD v1.toNat ([], (0 : Int))).snd)).bind fun (r0 : Int) =>
                bif Decidable.decide (r0 < (0 : Int)) then
                  lp3 (v0) (v1) (Go.IntKind.i64.wrap   (Go.IntKind.i64.wrap       ((Go.IntKind.u64.wrap (Go.IntKind.i64.wrap (v2 + v3))).fdiv         ((2 : Int) ^ Min.min (Int.toNat (1 : Int)) Go.IntKind.u64.bits)) +     (1 : Int))) (v3)
                else
                  lp3 (v0) (v1) (v2) (Go.IntKind.i64.wrap   ((Go.IntKind.u64.wrap (Go.IntKind.i64.wrap (v2 + v3))).fdiv     ((2 : Int) ^ Min.min (Int.toNat (1 : Int)) Go.IntKind.u64.bits)))
              else
                none
            else
              none
          else
            none
        else
          none
      else
        none
    else
      none
  else
    lp9 (v0) (v2) (v1)
noncomputable def slices_symMergeCmpFunc_impl_Weighted_impl_summed_1_70b.t21 {γ : Type} (ret : ((List (List Int × Int))) → Option γ) (lp9 : (List (List Int × Int)) → Int → Int → Option γ) (lp3 : (List (List Int × Int)) → Int → Int → Int → Option γ) (lp21 : (List (List Int × Int)) → Int → Int → Option γ) (lp15 : (List (List Int × Int)) → Int → Int → Int → Option γ) (lp33 : (List (List Int × Int)) → Int → Int → Int → Int → Int → Int → Int → Int → Option γ) (v0 : List (List Int × Int)) (v1 : Int) (v2 : Int) : Option γ :=
  bif Decidable.decide (v2 > v1) then
    bif Decidable.decide ((0 : Int) ≤ Go.IntKind.i64.wrap (v2 - (1 : Int))) then
      bif Decidable.decide ((Go.IntKind.i64.wrap (v2 - (1 : Int))).toNat < v0.length) then
        bif Decidable.decide ((Go.IntKind.i64.wrap (v2 - (1 : Int))).toNat < v0.length) then
          bif Decidable.decide ((0 : Int) ≤ v2) then
            bif Decidable.decide (v2.toNat < v0.length) then
              bif Decidable.decide (v2.toNat < v0.length) then
                bif Decidable.decide ((0 : Int) ≤ v2) then
                  bif Decidable.decide (v2.toNat < v0.length) then
                    bif Decidable.decide (v2.toNat < v0.length) then
                      bif Decidable.decide ((0 : Int) ≤ Go.IntKind.i64.wrap (v2 - (1 : Int))) then
                        bif Decidable.decide   ((Go.IntKind.i64.wrap (v2 - (1 : Int))).toNat <     (v0.set v2.toNat         ((v0.getD (Go.IntKind.i64.wrap (v2 - (1 : Int))).toNat ([], (0 : Int))).fst,           (v0.getD (Go.IntKind.i64.wrap (v2 - (1 : Int))).toNat ([], (0 : Int))).snd)).length) then
                          bif Decidable.decide   ((Go.IntKind.i64.wrap (v2 - (1 : Int))).toNat <     (v0.set v2.toNat         ((v0.getD (Go.IntKind.i64.wrap (v2 - (1 : Int))).toNat ([], (0 : Int))).fst,           (v0.getD (Go.IntKind.i64.wrap (v2 - (1 : Int))).toNat ([], (0 : Int))).snd)).length) then
                            lp21 ((v0.set v2.toNat       ((v0.getD (Go.IntKind.i64.wrap (v2 - (1 : Int))).toNat ([], (0 : Int))).fst,         (v0.getD (Go.IntKind.i64.wrap (v2 - (1 : Int))).toNat ([], (0 : Int))).snd)).set   (Go.IntKind.i64.wrap (v2 - (1 : Int))).toNat   ((v0.getD v2.toNat ([], (0 : Int))).fst, (v0.getD v2.toNat ([], (0 : Int))).snd)) (v1) (Go.IntKind.i64.wrap (v2 - (1 : Int)))
                          else
                            none
                        else
                          none
                      else
                        none
                    else
                      none
                  else
                    none
                else
                  none
              else
                none
            else
              none
          else
            none
        else
          none
      else
        none
    else
      none
  else
    ret (v0)
noncomputable def slices_symMergeCmpFunc_impl_Weighted_impl_summed_1_70b.t15 {γ : Type} (ret : ((List (List Int × Int))) → Option γ) (lp9 : (List (List Int × Int)) → Int → Int → Option γ) (lp3 : (List (List Int × Int)) → Int → Int → Int → Option γ) (lp21 : (List (List Int × Int)) → Int → Int → Option γ) (lp15 : (List (List Int × Int)) → Int → Int → Int → Option γ) (lp33 : (List (List Int × Int)) → Int → Int → Int → Int → Int → Int → Int → Int → Option γ) (v0 : List (List Int × Int)) (v1 : Int) (v2 : Int) (v3 : Int) : Option γ :=
  bif Decidable.decide (v2 < v3) then
    bif Decidable.decide ((0 : Int) ≤ v1) then
      bif Decidable.decide (v1.toNat < v0.length) then
        bif Decidable.decide (v1.toNat < v0.length) then
          bif Decidable.decide   ((0 : Int) ≤     Go.IntKind.i64.wrap       ((Go.IntKind.u64.wrap (Go.IntKind.i64.wrap (v2 + v3))).fdiv         ((2 : Int) ^ Min.min (Int.toNat (1 : Int)) Go.IntKind.u64.bits))) then
            bif Decidable.decide   ((Go.IntKind.i64.wrap         ((Go.IntKind.u64.wrap (Go.IntKind.i64.wrap (v2 + v3))).fdiv           ((2 : Int) ^ Min.min (Int.toNat (1 : Int)) Go.IntKind.u64.bits))).toNat <     v0.length) then
              bif Decidable.decide   ((Go.IntKind.i64.wrap         ((Go.IntKind.u64.wrap (Go.IntKind.i64.wrap (v2 + v3))).fdiv           ((2 : Int) ^ Min.min (Int.toNat (1 : Int)) Go.IntKind.u64.bits))).toNat <     v0.length) then
                (impl_summed_1 ((v0.getD v1.toNat ([], (0 : Int))).fst) ((v0.getD v1.toNat ([], (0 : Int))).snd) ((v0.getD     (Go.IntKind.i64.wrap         ((Go.IntKind.u64.wrap (Go.IntKind.i64.wrap (v2 + v3))).fdiv           ((2 : Int) ^ Min.min (Int.toNat (1 : Int)) Go.IntKind.u64.bits))).toNat     ([], (0 : Int))).fst) ((v0.getD     (Go.IntKind.i64.wrap         ((Go.IntKind.u64.wrap (Go.IntKind.i64.wrap (v2 + v3))).fdiv           ((2 : Int) ^ Min.min (Int.toNat (1 : Int)) Go.IntKind.u64.bits))).toNat     ([], (0 : Int))).snd)).bind fun (r1 : Int) =>
                bif !Decidable.decide (r1 < (0 : Int)) then
                  lp15 (v0) (v1) (Go.IntKind.i64.wrap   (Go.IntKind.i64.wrap       ((Go.IntKind.u64.wrap (Go.IntKind.i64.wrap (v2 + v3))).fdiv         ((2 : Int) ^ Min.min (Int.toNat (1 : Int)) Go.IntKind.u64.bits)) +     (1 : Int))) (v3)
                else
                  lp15 (v0) (v1) (v2) (Go.IntKind.i64.wrap   ((Go.IntKind.u64.wrap (Go.IntKind.i64.wrap (v2 + v3))).fdiv     ((2 : Int) ^ Min.min (Int.toNat (1 : Int)) Go.IntKind.u64.bits)))
              else
                none
            else
              none
          else
            none
        else
          none
      else
        none
    else
      none
  else
    lp21 (v0) (v2) (v1)
noncomputable def slices_symMergeCmpFunc_impl_Weighted_impl_summed_1_70b.t33 {γ : Type} (ret : ((List (List Int × Int))) → Option γ) (lp9 : (List (List Int × Int)) → Int → Int → Option γ) (lp3 : (List (List Int × Int)) → Int → Int → Int → Option γ) (lp21 : (List (List Int × Int)) → Int → Int → Option γ) (lp15 : (List (List Int × Int)) → Int → Int → Int → Option γ) (lp33 : (List (List Int × Int)) → Int → Int → Int → Int → Int → Int → Int → Int → Option γ) (v0 : List (List Int × Int)) (v1 : Int) (v2 : Int) (v3 : Int) (v4 : Int) (v5 : Int) (v6 : Int) (v7 : Int) (v8 : Int) : Option γ :=
  bif Decidable.decide (v6 < v7) then
    bif Decidable.decide   ((0 : Int) ≤     Go.IntKind.i64.wrap       (v8 -         Go.IntKind.i64.wrap           ((Go.IntKind.u64.wrap (Go.IntKind.i64.wrap (v6 + v7))).fdiv             ((2 : Int) ^ Min.min (Int.toNat (1 : Int)) Go.IntKind.u64.bits)))) then
      bif Decidable.decide   ((Go.IntKind.i64.wrap         (v8 -           Go.IntKind.i64.wrap             ((Go.IntKind.u64.wrap (Go.IntKind.i64.wrap (v6 + v7))).fdiv               ((2 : Int) ^ Min.min (Int.toNat (1 : Int)) Go.IntKind.u64.bits)))).toNat <     v0.length) then
        bif Decidable.decide   ((Go.IntKind.i64.wrap         (v8 -           Go.IntKind.i64.wrap             ((Go.IntKind.u64.wrap (Go.IntKind.i64.wrap (v6 + v7))).fdiv               ((2 : Int) ^ Min.min (Int.toNat (1 : Int)) Go.IntKind.u64.bits)))).toNat <     v0.length) then
          bif Decidable.decide   ((0 : Int) ≤     Go.IntKind.i64.wrap       ((Go.IntKind.u64.wrap (Go.IntKind.i64.wrap (v6 + v7))).fdiv         ((2 : Int) ^ Min.min (Int.toNat (1 : Int)) Go.IntKind.u64.bits))) then
            bif Decidable.decide   ((Go.IntKind.i64.wrap         ((Go.IntKind.u64.wrap (Go.IntKind.i64.wrap (v6 + v7))).fdiv           ((2 : Int) ^ Min.min (Int.toNat (1 : Int)) Go.IntKind.u64.bits))).toNat <     v0.length) then
              bif Decidable.decide   ((Go.IntKind.i64.wrap         ((Go.IntKind.u64.wrap (Go.IntKind.i64.wrap (v6 + v7))).fdiv           ((2 : Int) ^ Min.min (Int.toNat (1 : Int)) Go.IntKind.u64.bits))).toNat <     v0.length) then
                (impl_summed_1 ((v0.getD     (Go.IntKind.i64.wrap         (v8 -           Go.IntKind.i64.wrap             ((Go.IntKind.u64.wrap (Go.IntKind.i64.wrap (v6 + v7))).fdiv               ((2 : Int) ^ Min.min (Int.toNat (1 : Int)) Go.IntKind.u64.bits)))).toNat     ([], (0 : Int))).fst) ((v0.getD     (Go.IntKind.i64.wrap         (v8 -           Go.IntKind.i64.wrap             ((Go.IntKind.u64.wrap (Go.IntKind.i64.wrap (v6 + v7))).fdiv               ((2 : Int) ^ Min.min (Int.toNat (1 : Int)) Go.IntKind.u64.bits)))).toNat     ([], (0 : Int))).snd) ((v0.getD     (Go.IntKind.i64.wrap         ((Go.IntKind.u64.wrap (Go.IntKind.i64.wrap (v6 + v7))).fdiv           ((2 : Int) ^ Min.min (Int.toNat (1 : Int)) Go.IntKind.u64.bits))).toNat     ([], (0 : Int))).fst) ((v0.getD     (Go.IntKind.i64.wrap         ((Go.IntKind.u64.wrap (Go.IntKind.i64.wrap (v6 + v7))).fdiv           ((2 : Int) ^ Min.min (Int.toNat (1 : Int)) Go.IntKind.u64.bits))).toNat     ([], (0 : Int))).snd)).bind fun (r2 : Int) =>
                bif !Decidable.decide (r2 < (0 : Int)) then
                  lp33 (v0) (v1) (v2) (v3) (v4) (v5) (Go.IntKind.i64.wrap   (Go.IntKind.i64.wrap       ((Go.IntKind.u64.wrap (Go.IntKind.i64.wrap (v6 + v7))).fdiv         ((2 : Int) ^ Min.min (Int.toNat (1 : Int)) Go.IntKind.u64.bits)) +     (1 : Int))) (v7) (v8)
                else
                  lp33 (v0) (v1) (v2) (v3) (v4) (v5) (v6) (Go.IntKind.i64.wrap   ((Go.IntKind.u64.wrap (Go.IntKind.i64.wrap (v6 + v7))).fdiv     ((2 : Int) ^ Min.min (Int.toNat (1 : Int)) Go.IntKind.u64.bits))) (v8)
              else
                none
            else
              none
          else
            none
        else
          none
      else
        none
    else
      none
  else
    bif Decidable.decide (v6 < v2) then
      bif Decidable.decide (v2 < Go.IntKind.i64.wrap (v5 - v6)) then
        (slices_rotateCmpFunc_impl_Weighted_impl_summed_1_70b (v0) (v6) (v2) (Go.IntKind.i64.wrap (v5 - v6))).bind fun (r3 : (List (List Int × Int))) =>
        bif Decidable.decide (v1 < v6) then
          bif Decidable.decide (v6 < v4) then
            (slices_symMergeCmpFunc_impl_Weighted_impl_summed_1_70b (r3) (v1) (v6) (v4)).bind fun (r4 : (List (List Int × Int))) =>
            bif Decidable.decide (v4 < Go.IntKind.i64.wrap (v5 - v6)) then
              bif Decidable.decide (Go.IntKind.i64.wrap (v5 - v6) < v3) then
                (slices_symMergeCmpFunc_impl_Weighted_impl_summed_1_70b (r4) (v4) (Go.IntKind.i64.wrap (v5 - v6)) (v3)).bind fun (r5 : (List (List Int × Int))) =>
                ret (r5)
              else
                ret (r4)
            else
              ret (r4)
          else
            bif Decidable.decide (v4 < Go.IntKind.i64.wrap (v5 - v6)) then
              bif Decidable.decide (Go.IntKind.i64.wrap (v5 - v6) < v3) then
                (slices_symMergeCmpFunc_impl_Weighted_impl_summed_1_70b (r3) (v4) (Go.IntKind.i64.wrap (v5 - v6)) (v3)).bind fun (r6 : (List (List Int × Int))) =>
                ret (r6)
              else
                ret (r3)
            else
              ret (r3)
        else
          bif Decidable.decide (v4 < Go.IntKind.i64.wrap (v5 - v6)) then
            bif Decidable.decide (Go.IntKind.i64.wrap (v5 - v6) < v3) then
              (slices_symMergeCmpFunc_impl_Weighted_impl_summed_1_70b (r3) (v4) (Go.IntKind.i64.wrap (v5 - v6)) (v3)).bind fun (r7 : (List (List Int × Int))) =>
              ret (r7)
            else
              ret (r3)
          else
            ret (r3)
      else
        bif Decidable.decide (v1 < v6) then
          bif Decidable.decide (v6 < v4) then
            (slices_symMergeCmpFunc_impl_Weighted_impl_summed_1_70b (v0) (v1) (v6) (v4)).bind fun (r8 : (List (List Int × Int))) =>
            bif Decidable.decide (v4 < Go.IntKind.i64.wrap (v5 - v6)) then
              bif Decidable.decide (Go.IntKind.i64.wrap (v5 - v6) < v3) then
                (slices_symMergeCmpFunc_impl_Weighted_impl_summed_1_70b (r8) (v4) (Go.IntKind.i64.wrap (v5 - v6)) (v3)).bind fun (r9 : (List (List Int × Int))) =>
                ret (r9)
              else
                ret (r8)
            else
              ret (r8)
          else
            bif Decidable.decide (v4 < Go.IntKind.i64.wrap (v5 - v6)) then
              bif Decidable.decide (Go.IntKind.i64.wrap (v5 - v6) < v3) then
                (slices_symMergeCmpFunc_impl_Weighted_impl_summed_1_70b (v0) (v4) (Go.IntKind.i64.wrap (v5 - v6)) (v3)).bind fun (r10 : (List (List Int × Int))) =>
                ret (r10)
              else
                ret (v0)
            else
              ret (v0)
        else
          bif Decidable.decide (v4 < Go.IntKind.i64.wrap (v5 - v6)) then
            bif Decidable.decide (Go.IntKind.i64.wrap (v5 - v6) < v3) then
              (slices_symMergeCmpFunc_impl_Weighted_impl_summed_1_70b (v0) (v4) (Go.IntKind.i64.wrap (v5 - v6)) (v3)).bind fun (r11 : (List (List Int × Int))) =>
              ret (r11)
            else
              ret (v0)
          else
            ret (v0)
    else
      bif Decidable.decide (v1 < v6) then
        bif Decidable.decide (v6 < v4) then
          (slices_symMergeCmpFunc_impl_Weighted_impl_summed_1_70b (v0) (v1) (v6) (v4)).bind fun (r12 : (List (List Int × Int))) =>
          bif Decidable.decide (v4 < Go.IntKind.i64.wrap (v5 - v6)) then
            bif Decidable.decide (Go.IntKind.i64.wrap (v5 - v6) < v3) then
              (slices_symMergeCmpFunc_impl_Weighted_impl_summed_1_70b (r12) (v4) (Go.IntKind.i64.wrap (v5 - v6)) (v3)).bind fun (r13 : (List (List Int × Int))) =>
              ret (r13)
            else
              ret (r12)
          else
            ret (r12)
        else
          bif Decidable.decide (v4 < Go.IntKind.i64.wrap (v5 - v6)) then
            bif Decidable.decide (Go.IntKind.i64.wrap (v5 - v6) < v3) then
              (slices_symMergeCmpFunc_impl_Weighted_impl_summed_1_70b (v0) (v4) (Go.IntKind.i64.wrap (v5 - v6)) (v3)).bind fun (r14 : (List (List Int × Int))) =>
              ret (r14)
            else
              ret (v0)
          else
            ret (v0)
      else
        bif Decidable.decide (v4 < Go.IntKind.i64.wrap (v5 - v6)) then
          bif Decidable.decide (Go.IntKind.i64.wrap (v5 - v6) < v3) then
            (slices_symMergeCmpFunc_impl_Weighted_impl_summed_1_70b (v0) (v4) (Go.IntKind.i64.wrap (v5 - v6)) (v3)).bind fun (r15 : (List (List Int × Int))) =>
            ret (r15)
          else
            ret (v0)
        else
          ret (v0)
theorem slices_symMergeCmpFunc_impl_Weighted_impl_summed_1_70b.k (v0 : List (List Int × Int)) (v1 : Int) (v2 : Int) (v3 : Int) : topL E (callT E tab) 158 Try.f158 (slices_symMergeCmpFunc_impl_Weighted_impl_summed_1_70b.c v0 v1 v2 v3) = slices_symMergeCmpFunc_impl_Weighted_impl_summed_1_70b.t (fun b => some (slices_symMergeCmpFunc_impl_Weighted_impl_summed_1_70b.mk b)) slices_symMergeCmpFunc_impl_Weighted_impl_summed_1_70b.q9 slices_symMergeCmpFunc_impl_Weighted_impl_summed_1_70b.q3 slices_symMergeCmpFunc_impl_Weighted_impl_summed_1_70b.q21 slices_symMergeCmpFunc_impl_Weighted_impl_summed_1_70b.q15 slices_symMergeCmpFunc_impl_Weighted_impl_summed_1_70b.q33 v0 v1 v2 v3 := by kernel_rfl
theorem slices_symMergeCmpFunc_impl_Weighted_impl_summed_1_70b.k9 (v0 : List (List Int × Int)) (v1 : Int) (v2 : Int) : roundL E (callT E tab) 158 Try.f158 5 [.l, .r, .l, .r, .r, .r, .l, .r, .b] (⟨(.val .one), [.d .sha (.sl (.pair (.sl (.int .i64)) (.int .i64))) v0], true, false, false, 0, 0⟩ :: nn 9 (vc (iL v1) :: nn 2 (vc (iL v2) :: nn 206 ([])))) = slices_symMergeCmpFunc_impl_Weighted_impl_summed_1_70b.t9 (fun b => some (slices_symMergeCmpFunc_impl_Weighted_impl_summed_1_70b.mk b)) slices_symMergeCmpFunc_impl_Weighted_impl_summed_1_70b.q9 slices_symMergeCmpFunc_impl_Weighted_impl_summed_1_70b.q3 slices_symMergeCmpFunc_impl_Weighted_impl_summed_1_70b.q21 slices_symMergeCmpFunc_impl_Weighted_impl_summed_1_70b.q15 slices_symMergeCmpFunc_impl_Weighted_impl_summed_1_70b.q33 v0 v1 v2 := by kernel_rfl
theorem slices_symMergeCmpFunc_impl_Weighted_impl_summed_1_70b.k3 (v0 : List (List Int × Int)) (v1 : Int) (v2 : Int) (v3 : Int) : roundL E (callT E tab) 158 Try.f158 5 [.l, .r, .l, .r, .r, .l, .b] (⟨(.val .one), [.d .sha (.sl (.pair (.sl (.int .i64)) (.int .i64))) v0], true, false, false, 0, 0⟩ :: vc (iL v1) :: nn 2 (vc (.fn 130 []) :: nn 5 (vc (iL v2) :: vc (iL v3) :: nn 208 ([])))) = slices_symMergeCmpFunc_impl_Weighted_impl_summed_1_70b.t3 (fun b => some (slices_symMergeCmpFunc_impl_Weighted_impl_summed_1_70b.mk b)) slices_symMergeCmpFunc_impl_Weighted_impl_summed_1_70b.q9 slices_symMergeCmpFunc_impl_Weighted_impl_summed_1_70b.q3 slices_symMergeCmpFunc_impl_Weighted_impl_summed_1_70b.q21 slices_symMergeCmpFunc_impl_Weighted_impl_summed_1_70b.q15 slices_symMergeCmpFunc_impl_Weighted_impl_summed_1_70b.q33 v0 v1 v2 v3 := by kernel_rfl
theorem slices_symMergeCmpFunc_impl_Weighted_impl_summed_1_70b.k21 (v0 : List (List Int × Int)) (v1 : Int) (v2 : Int) : roundL E (callT E tab) 158 Try.f158 5 [.r, .l, .r, .l, .r, .r, .r, .l, .r, .b] (⟨(.val .one), [.d .sha (.sl (.pair (.sl (.int .i64)) (.int .i64))) v0], true, false, false, 0, 0⟩ :: nn 13 (vc (iL v1) :: nn 2 (vc (iL v2) :: nn 202 ([])))) = slices_symMergeCmpFunc_impl_Weighted_impl_summed_1_70b.t21 (fun b => some (slices_symMergeCmpFunc_impl_Weighted_impl_summed_1_70b.mk b)) slices_symMergeCmpFunc_impl_Weighted_impl_summed_1_70b.q9 slices_symMergeCmpFunc_impl_Weighted_impl_summed_1_70b.q3 slices_symMergeCmpFunc_impl_Weighted_impl_summed_1_70b.q21 slices_symMergeCmpFunc_impl_Weighted_impl_summed_1_70b.q15 slices_symMergeCmpFunc_impl_Weighted_impl_summed_1_70b.q33 v0 v1 v2 := by kernel_rfl
theorem slices_symMergeCmpFunc_impl_Weighted_impl_summed_1_70b.k15 (v0 : List (List Int × Int)) (v1 : Int) (v2 : Int) (v3 : Int) : roundL E (callT E tab) 158 Try.f158 5 [.r, .l, .r, .l, .r, .r, .l, .b] (⟨(.val .one), [.d .sha (.sl (.pair (.sl (.int .i64)) (.int .i64))) v0], true, false, false, 0, 0⟩ :: nn 1 (vc (iL v1) :: nn 1 (vc (.fn 130 []) :: nn 9 (vc (iL v2) :: vc (iL v3) :: nn 204 ([]))))) = slices_symMergeCmpFunc_impl_Weighted_impl_summed_1_70b.t15 (fun b => some (slices_symMergeCmpFunc_impl_Weighted_impl_summed_1_70b.mk b)) slices_symMergeCmpFunc_impl_Weighted_impl_summed_1_70b.q9 slices_symMergeCmpFunc_impl_Weighted_impl_summed_1_70b.q3 slices_symMergeCmpFunc_impl_Weighted_impl_summed_1_70b.q21 slices_symMergeCmpFunc_impl_Weighted_impl_summed_1_70b.q15 slices_symMergeCmpFunc_impl_Weighted_impl_summed_1_70b.q33 v0 v1 v2 v3 := by kernel_rfl
theorem slices_symMergeCmpFunc_impl_Weighted_impl_summed_1_70b.k33 (v0 : List (List Int × Int)) (v1 : Int) (v2 : Int) (v3 : Int) (v4 : Int) (v5 : Int) (v6 : Int) (v7 : Int) (v8 : Int) : roundL E (callT E tab) 158 Try.f158 5 [.r, .r, .r, .r, .r, .r, .r, .l, .b] (⟨(.val .one), [.d .sha (.sl (.pair (.sl (.int .i64)) (.int .i64))) v0], true, false, false, 0, 0⟩ :: vc (iL v1) :: vc (iL v2) :: vc (iL v3) :: vc (.fn 130 []) :: nn 13 (vc (iL v4) :: vc (iL v5) :: vc (iL v6) :: vc (iL v7) :: vc (iL v8) :: nn 197 ([]))) = slices_symMergeCmpFunc_impl_Weighted_impl_summed_1_70b.t33 (fun b => some (slices_symMergeCmpFunc_impl_Weighted_impl_summed_1_70b.mk b)) slices_symMergeCmpFunc_impl_Weighted_impl_summed_1_70b.q9 slices_symMergeCmpFunc_impl_Weighted_impl_summed_1_70b.q3 slices_symMergeCmpFunc_impl_Weighted_impl_summed_1_70b.q21 slices_symMergeCmpFunc_impl_Weighted_impl_summed_1_70b.q15 slices_symMergeCmpFunc_impl_Weighted_impl_summed_1_70b.q33 v0 v1 v2 v3 v4 v5 v6 v7 v8 := by kernel_rfl
theorem slices_symMergeCmpFunc_impl_Weighted_impl_summed_1_70b.s (v0 : List (List Int × Int)) (v1 : Int) (v2 : Int) (v3 : Int) : Sub slices_symMergeCmpFunc_impl_Weighted_impl_summed_1_70b.mk (slices_symMergeCmpFunc_impl_Weighted_impl_summed_1_70b.t some slices_symMergeCmpFunc_impl_Weighted_impl_summed_1_70b.l9 slices_symMergeCmpFunc_impl_Weighted_impl_summed_1_70b.l3 slices_symMergeCmpFunc_impl_Weighted_impl_summed_1_70b.l21 slices_symMergeCmpFunc_impl_Weighted_impl_summed_1_70b.l15 slices_symMergeCmpFunc_impl_Weighted_impl_summed_1_70b.l33 v0 v1 v2 v3) (slices_symMergeCmpFunc_impl_Weighted_impl_summed_1_70b.t (fun b => some (slices_symMergeCmpFunc_impl_Weighted_impl_summed_1_70b.mk b)) slices_symMergeCmpFunc_impl_Weighted_impl_summed_1_70b.q9 slices_symMergeCmpFunc_impl_Weighted_impl_summed_1_70b.q3 slices_symMergeCmpFunc_impl_Weighted_impl_summed_1_70b.q21 slices_symMergeCmpFunc_impl_Weighted_impl_summed_1_70b.q15 slices_symMergeCmpFunc_impl_Weighted_impl_summed_1_70b.q33 v0 v1 v2 v3) := by
  unfold slices_symMergeCmpFunc_impl_Weighted_impl_summed_1_70b.t
  repeat' first | exact Sub.ret | exact Sub.none | exact Sub.loop | apply Sub.cond | (apply Sub.bind; intro _)
theorem slices_symMergeCmpFunc_impl_Weighted_impl_summed_1_70b.eq (v0 : List (List Int × Int)) (v1 : Int) (v2 : Int) (v3 : Int) {b : (List (List Int × Int))} (h : slices_symMergeCmpFunc_impl_Weighted_impl_summed_1_70b.t some slices_symMergeCmpFunc_impl_Weighted_impl_summed_1_70b.l9 slices_symMergeCmpFunc_impl_Weighted_impl_summed_1_70b.l3 slices_symMergeCmpFunc_impl_Weighted_impl_summed_1_70b.l21 slices_symMergeCmpFunc_impl_Weighted_impl_summed_1_70b.l15 slices_symMergeCmpFunc_impl_Weighted_impl_summed_1_70b.l33 v0 v1 v2 v3 = some b) : slices_symMergeCmpFunc_impl_Weighted_impl_summed_1_70b v0 v1 v2 v3 = some b := tOf_intro slices_symMergeCmpFunc_impl_Weighted_impl_summed_1_70b.un (fun _ => by kernel_rfl) (vlim_fn (callT_le E tab) rfl rfl rfl ((slices_symMergeCmpFunc_impl_Weighted_impl_summed_1_70b.k v0 v1 v2 v3).trans (slices_symMergeCmpFunc_impl_Weighted_impl_summed_1_70b.s v0 v1 v2 v3 b h)))
theorem slices_symMergeCmpFunc_impl_Weighted_impl_summed_1_70b.s9 (v0 : List (List Int × Int)) (v1 : Int) (v2 : Int) : Sub slices_symMergeCmpFunc_impl_Weighted_impl_summed_1_70b.mk (slices_symMergeCmpFunc_impl_Weighted_impl_summed_1_70b.t9 some slices_symMergeCmpFunc_impl_Weighted_impl_summed_1_70b.l9 slices_symMergeCmpFunc_impl_Weighted_impl_summed_1_70b.l3 slices_symMergeCmpFunc_impl_Weighted_impl_summed_1_70b.l21 slices_symMergeCmpFunc_impl_Weighted_impl_summed_1_70b.l15 slices_symMergeCmpFunc_impl_Weighted_impl_summed_1_70b.l33 v0 v1 v2) (slices_symMergeCmpFunc_impl_Weighted_impl_summed_1_70b.t9 (fun b => some (slices_symMergeCmpFunc_impl_Weighted_impl_summed_1_70b.mk b)) slices_symMergeCmpFunc_impl_Weighted_impl_summed_1_70b.q9 slices_symMergeCmpFunc_impl_Weighted_impl_summed_1_70b.q3 slices_symMergeCmpFunc_impl_Weighted_impl_summed_1_70b.q21 slices_symMergeCmpFunc_impl_Weighted_impl_summed_1_70b.q15 slices_symMergeCmpFunc_impl_Weighted_impl_summed_1_70b.q33 v0 v1 v2) := by
  unfold slices_symMergeCmpFunc_impl_Weighted_impl_summed_1_70b.t9
  repeat' first | exact Sub.ret | exact Sub.none | exact Sub.loop | apply Sub.cond | (apply Sub.bind; intro _)
theorem slices_symMergeCmpFunc_impl_Weighted_impl_summed_1_70b.eq9 (v0 : List (List Int × Int)) (v1 : Int) (v2 : Int) {b : (List (List Int × Int))} (h : slices_symMergeCmpFunc_impl_Weighted_impl_summed_1_70b.t9 some slices_symMergeCmpFunc_impl_Weighted_impl_summed_1_70b.l9 slices_symMergeCmpFunc_impl_Weighted_impl_summed_1_70b.l3 slices_symMergeCmpFunc_impl_Weighted_impl_summed_1_70b.l21 slices_symMergeCmpFunc_impl_Weighted_impl_summed_1_70b.l15 slices_symMergeCmpFunc_impl_Weighted_impl_summed_1_70b.l33 v0 v1 v2 = some b) : slices_symMergeCmpFunc_impl_Weighted_impl_summed_1_70b.l9 v0 v1 v2 = some b := tOf_intro slices_symMergeCmpFunc_impl_Weighted_impl_summed_1_70b.un (fun _ => by kernel_rfl) (loopAtL_step ((slices_symMergeCmpFunc_impl_Weighted_impl_summed_1_70b.k9 v0 v1 v2).trans (slices_symMergeCmpFunc_impl_Weighted_impl_summed_1_70b.s9 v0 v1 v2 b h)))
theorem slices_symMergeCmpFunc_impl_Weighted_impl_summed_1_70b.s3 (v0 : List (List Int × Int)) (v1 : Int) (v2 : Int) (v3 : Int) : Sub slices_symMergeCmpFunc_impl_Weighted_impl_summed_1_70b.mk (slices_symMergeCmpFunc_impl_Weighted_impl_summed_1_70b.t3 some slices_symMergeCmpFunc_impl_Weighted_impl_summed_1_70b.l9 slices_symMergeCmpFunc_impl_Weighted_impl_summed_1_70b.l3 slices_symMergeCmpFunc_impl_Weighted_impl_summed_1_70b.l21 slices_symMergeCmpFunc_impl_Weighted_impl_summed_1_70b.l15 slices_symMergeCmpFunc_impl_Weighted_impl_summed_1_70b.l33 v0 v1 v2 v3) (slices_symMergeCmpFunc_impl_Weighted_impl_summed_1_70b.t3 (fun b => some (slices_symMergeCmpFunc_impl_Weighted_impl_summed_1_70b.mk b)) slices_symMergeCmpFunc_impl_Weighted_impl_summed_1_70b.q9 slices_symMergeCmpFunc_impl_Weighted_impl_summed_1_70b.q3 slices_symMergeCmpFunc_impl_Weighted_impl_summed_1_70b.q21 slices_symMergeCmpFunc_impl_Weighted_impl_summed_1_70b.q15 slices_symMergeCmpFunc_impl_Weighted_impl_summed_1_70b.q33 v0 v1 v2 v3) := by
  unfold slices_symMergeCmpFunc_impl_Weighted_impl_summed_1_70b.t3
  repeat' first | exact Sub.ret | exact Sub.none | exact Sub.loop | apply Sub.cond | (apply Sub.bind; intro _)
theorem slices_symMergeCmpFunc_impl_Weighted_impl_summed_1_70b.eq3 (v0 : List (List Int × Int)) (v1 : Int) (v2 : Int) (v3 : Int) {b : (List (List Int × Int))} (h : slices_symMergeCmpFunc_impl_Weighted_impl_summed_1_70b.t3 some slices_symMergeCmpFunc_impl_Weighted_impl_summed_1_70b.l9 slices_symMergeCmpFunc_impl_Weighted_impl_summed_1_70b.l3 slices_symMergeCmpFunc_impl_Weighted_impl_summed_1_70b.l21 slices_symMergeCmpFunc_impl_Weighted_impl_summed_1_70b.l15 slices_symMergeCmpFunc_impl_Weighted_impl_summed_1_70b.l33 v0 v1 v2 v3 = some b) : slices_symMergeCmpFunc_impl_Weighted_impl_summed_1_70b.l3 v0 v1 v2 v3 = some b := tOf_intro slices_symMergeCmpFunc_impl_Weighted_impl_summed_1_70b.un (fun _ => by kernel_rfl) (loopAtL_step ((slices_symMergeCmpFunc_impl_Weighted_impl_summed_1_70b.k3 v0 v1 v2 v3).trans (slices_symMergeCmpFunc_impl_Weighted_impl_summed_1_70b.s3 v0 v1 v2 v3 b h)))
theorem slices_symMergeCmpFunc_impl_Weighted_impl_summed_1_70b.s21 (v0 : List (List Int × Int)) (v1 : Int) (v2 : Int) : Sub slices_symMergeCmpFunc_impl_Weighted_impl_summed_1_70b.mk (slices_symMergeCmpFunc_impl_Weighted_impl_summed_1_70b.t21 some slices_symMergeCmpFunc_impl_Weighted_impl_summed_1_70b.l9 slices_symMergeCmpFunc_impl_Weighted_impl_summed_1_70b.l3 slices_symMergeCmpFunc_impl_Weighted_impl_summed_1_70b.l21 slices_symMergeCmpFunc_impl_Weighted_impl_summed_1_70b.l15 slices_symMergeCmpFunc_impl_Weighted_impl_summed_1_70b.l33 v0 v1 v2) (slices_symMergeCmpFunc_impl_Weighted_impl_summed_1_70b.t21 (fun b => some (slices_symMergeCmpFunc_impl_Weighted_impl_summed_1_70b.mk b)) slices_symMergeCmpFunc_impl_Weighted_impl_summed_1_70b.q9 slices_symMergeCmpFunc_impl_Weighted_impl_summed_1_70b.q3 slices_symMergeCmpFunc_impl_Weighted_impl_summed_1_70b.q21 slices_symMergeCmpFunc_impl_Weighted_impl_summed_1_70b.q15 slices_symMergeCmpFunc_impl_Weighted_impl_summed_1_70b.q33 v0 v1 v2) := by
  unfold slices_symMergeCmpFunc_impl_Weighted_impl_summed_1_70b.t21
  repeat' first | exact Sub.ret | exact Sub.none | exact Sub.loop | apply Sub.cond | (apply Sub.bind; intro _)
theorem slices_symMergeCmpFunc_impl_Weighted_impl_summed_1_70b.eq21 (v0 : List (List Int × Int)) (v1 : Int) (v2 : Int) {b : (List (List Int × Int))} (h : slices_symMergeCmpFunc_impl_Weighted_impl_summed_1_70b.t21 some slices_symMergeCmpFunc_impl_Weighted_impl_summed_1_70b.l9 slices_symMergeCmpFunc_impl_Weighted_impl_summed_1_70b.l3 slices_symMergeCmpFunc_impl_Weighted_impl_summed_1_70b.l21 slices_symMergeCmpFunc_impl_Weighted_impl_summed_1_70b.l15 slices_symMergeCmpFunc_impl_Weighted_impl_summed_1_70b.l33 v0 v1 v2 = some b) : slices_symMergeCmpFunc_impl_Weighted_impl_summed_1_70b.l21 v0 v1 v2 = some b := tOf_intro slices_symMergeCmpFunc_impl_Weighted_impl_summed_1_70b.un (fun _ => by kernel_rfl) (loopAtL_step ((slices_symMergeCmpFunc_impl_Weighted_impl_summed_1_70b.k21 v0 v1 v2).trans (slices_symMergeCmpFunc_impl_Weighted_impl_summed_1_70b.s21 v0 v1 v2 b h)))
theorem slices_symMergeCmpFunc_impl_Weighted_impl_summed_1_70b.s15 (v0 : List (List Int × Int)) (v1 : Int) (v2 : Int) (v3 : Int) : Sub slices_symMergeCmpFunc_impl_Weighted_impl_summed_1_70b.mk (slices_symMergeCmpFunc_impl_Weighted_impl_summed_1_70b.t15 some slices_symMergeCmpFunc_impl_Weighted_impl_summed_1_70b.l9 slices_symMergeCmpFunc_impl_Weighted_impl_summed_1_70b.l3 slices_symMergeCmpFunc_impl_Weighted_impl_summed_1_70b.l21 slices_symMergeCmpFunc_impl_Weighted_impl_summed_1_70b.l15 slices_symMergeCmpFunc_impl_Weighted_impl_summed_1_70b.l33 v0 v1 v2 v3) (slices_symMergeCmpFunc_impl_Weighted_impl_summed_1_70b.t15 (fun b => some (slices_symMergeCmpFunc_impl_Weighted_impl_summed_1_70b.mk b)) slices_symMergeCmpFunc_impl_Weighted_impl_summed_1_70b.q9 slices_symMergeCmpFunc_impl_Weighted_impl_summed_1_70b.q3 slices_symMergeCmpFunc_impl_Weighted_impl_summed_1_70b.q21 slices_symMergeCmpFunc_impl_Weighted_impl_summed_1_70b.q15 slices_symMergeCmpFunc_impl_Weighted_impl_summed_1_70b.q33 v0 v1 v2 v3) := by
  unfold slices_symMergeCmpFunc_impl_Weighted_impl_summed_1_70b.t15
  repeat' first | exact Sub.ret | exact Sub.none | exact Sub.loop | apply Sub.cond | (apply Sub.bind; intro _)
theorem slices_symMergeCmpFunc_impl_Weighted_impl_summed_1_70b.eq15 (v0 : List (List Int × Int)) (v1 : Int) (v2 : Int) (v3 : Int) {b : (List (List Int × Int))} (h : slices_symMergeCmpFunc_impl_Weighted_impl_summed_1_70b.t15 some slices_symMergeCmpFunc_impl_Weighted_impl_summed_1_70b.l9 slices_symMergeCmpFunc_impl_Weighted_impl_summed_1_70b.l3 slices_symMergeCmpFunc_impl_Weighted_impl_summed_1_70b.l21 slices_symMergeCmpFunc_impl_Weighted_impl_summed_1_70b.l15 slices_symMergeCmpFunc_impl_Weighted_impl_summed_1_70b.l33 v0 v1 v2 v3 = some b) : slices_symMergeCmpFunc_impl_Weighted_impl_summed_1_70b.l15 v0 v1 v2 v3 = some b := tOf_intro slices_symMergeCmpFunc_impl_Weighted_impl_summed_1_70b.un (fun _ => by kernel_rfl) (loopAtL_step ((slices_symMergeCmpFunc_impl_Weighted_impl_summed_1_70b.k15 v0 v1 v2 v3).trans (slices_symMergeCmpFunc_impl_Weighted_impl_summed_1_70b.s15 v0 v1 v2 v3 b h)))
theorem slices_symMergeCmpFunc_impl_Weighted_impl_summed_1_70b.s33 (v0 : List (List Int × Int)) (v1 : Int) (v2 : Int) (v3 : Int) (v4 : Int) (v5 : Int) (v6 : Int) (v7 : Int) (v8 : Int) : Sub slices_symMergeCmpFunc_impl_Weighted_impl_summed_1_70b.mk (slices_symMergeCmpFunc_impl_Weighted_impl_summed_1_70b.t33 some slices_symMergeCmpFunc_impl_Weighted_impl_summed_1_70b.l9 slices_symMergeCmpFunc_impl_Weighted_impl_summed_1_70b.l3 slices_symMergeCmpFunc_impl_Weighted_impl_summed_1_70b.l21 slices_symMergeCmpFunc_impl_Weighted_impl_summed_1_70b.l15 slices_symMergeCmpFunc_impl_Weighted_impl_summed_1_70b.l33 v0 v1 v2 v3 v4 v5 v6 v7 v8) (slices_symMergeCmpFunc_impl_Weighted_impl_summed_1_70b.t33 (fun b => some (slices_symMergeCmpFunc_impl_Weighted_impl_summed_1_70b.mk b)) slices_symMergeCmpFunc_impl_Weighted_impl_summed_1_70b.q9 slices_symMergeCmpFunc_impl_Weighted_impl_summed_1_70b.q3 slices_symMergeCmpFunc_impl_Weighted_impl_summed_1_70b.q21 slices_symMergeCmpFunc_impl_Weighted_impl_summed_1_70b.q15 slices_symMergeCmpFunc_impl_Weighted_impl_summed_1_70b.q33 v0 v1 v2 v3 v4 v5 v6 v7 v8) := by
  unfold slices_symMergeCmpFunc_impl_Weighted_impl_summed_1_70b.t33
  repeat' first | exact Sub.ret | exact Sub.none | exact Sub.loop | apply Sub.cond | (apply Sub.bind; intro _)
theorem slices_symMergeCmpFunc_impl_Weighted_impl_summed_1_70b.eq33 (v0 : List (List Int × Int)) (v1 : Int) (v2 : Int) (v3 : Int) (v4 : Int) (v5 : Int) (v6 : Int) (v7 : Int) (v8 : Int) {b : (List (List Int × Int))} (h : slices_symMergeCmpFunc_impl_Weighted_impl_summed_1_70b.t33 some slices_symMergeCmpFunc_impl_Weighted_impl_summed_1_70b.l9 slices_symMergeCmpFunc_impl_Weighted_impl_summed_1_70b.l3 slices_symMergeCmpFunc_impl_Weighted_impl_summed_1_70b.l21 slices_symMergeCmpFunc_impl_Weighted_impl_summed_1_70b.l15 slices_symMergeCmpFunc_impl_Weighted_impl_summed_1_70b.l33 v0 v1 v2 v3 v4 v5 v6 v7 v8 = some b) : slices_symMergeCmpFunc_impl_Weighted_impl_summed_1_70b.l33 v0 v1 v2 v3 v4 v5 v6 v7 v8 = some b := tOf_intro slices_symMergeCmpFunc_impl_Weighted_impl_summed_1_70b.un (fun _ => by kernel_rfl) (loopAtL_step ((slices_symMergeCmpFunc_impl_Weighted_impl_summed_1_70b.k33 v0 v1 v2 v3 v4 v5 v6 v7 v8).trans (slices_symMergeCmpFunc_impl_Weighted_impl_summed_1_70b.s33 v0 v1 v2 v3 v4 v5 v6 v7 v8 b h)))
noncomputable def slices_rotateCmpFunc_impl_Weighted_impl_summed_1_70b.q2 (v0 : List (List Int × Int)) (v1 : Int) (v2 : Int) (v3 : Int) : Option R := loopAtL E (callT E tab) 164 Try.f164 5 [.r, .r, .l, .b] (⟨(.val .one), [.d .sha (.sl (.pair (.sl (.int .i64)) (.int .i64))) v0], true, false, false, 0, 0⟩ :: nn 1 (vc (iL v1) :: nn 1 (vc (.fn 130 []) :: nn 5 (vc (iL v2) :: vc (iL v3) :: nn 46 ([])))))
noncomputable def slices_rotateCmpFunc_impl_Weighted_impl_summed_1_70b.l2 (v0 : List (List Int × Int)) (v1 : Int) (v2 : Int) (v3 : Int) : Option ((List (List Int × Int))) := tOf slices_rotateCmpFunc_impl_Weighted_impl_summed_1_70b.mk (slices_rotateCmpFunc_impl_Weighted_impl_summed_1_70b.q2 v0 v1 v2 v3)
noncomputable def slices_rotateCmpFunc_impl_Weighted_impl_summed_1_70b.t {γ : Type} (ret : ((List (List Int × Int))) → Option γ) (lp2 : (List (List Int × Int)) → Int → Int → Int → Option γ) (v0 : List (List Int × Int)) (v1 : Int) (v2 : Int) (v3 : Int) : Option γ :=
  lp2 (v0) (v2) (Go.IntKind.i64.wrap (v2 - v1)) (Go.IntKind.i64.wrap (v3 - v2))
noncomputable def slices_rotateCmpFunc_impl_Weighted_impl_summed_1_70b.t2 {γ : Type} (ret : ((List (List Int × Int))) → Option γ) (lp2 : (List (List Int × Int)) → Int → Int → Int → Option γ) (v0 : List (List Int × Int)) (v1 : Int) (v2 : Int) (v3 : Int) : Option γ :=
  bif v2 != v3 then
    bif Decidable.decide (v2 > v3) then
      (slices_swapRangeCmpFunc_impl_Weighted_impl_summed_1_70b (v0) (Go.IntKind.i64.wrap (v1 - v2)) (v1) (v3)).bind fun (r0 : (List (List Int × Int))) =>
      lp2 (r0) (v1) (Go.IntKind.i64.wrap (v2 - v3)) (v3)
    else
      (slices_swapRangeCmpFunc_impl_Weighted_impl_summed_1_70b (v0) (Go.IntKind.i64.wrap (v1 - v2)) (Go.IntKind.i64.wrap (Go.IntKind.i64.wrap (v1 + v3) - v2)) (v2)).bind fun (r1 : (List (List Int × Int))) =>
      lp2 (r1) (v1) (v2) (Go.IntKind.i64.wrap (v3 - v2))
  else
    (slices_swapRangeCmpFunc_impl_Weighted_impl_summed_1_70b (v0) (Go.IntKind.i64.wrap (v1 - v2)) (v1) (v2)).bind fun (r2 : (List (List Int × Int))) =>
    ret (r2)
theorem slices_rotateCmpFunc_impl_Weighted_impl_summed_1_70b.k (v0 : List (List Int × Int)) (v1 : Int) (v2 : Int) (v3 : Int) : topL E (callT E tab) 164 Try.f164 (slices_rotateCmpFunc_impl_Weighted_impl_summed_1_70b.c v0 v1 v2 v3) = slices_rotateCmpFunc_impl_Weighted_impl_summed_1_70b.t (fun b => some (slices_rotateCmpFunc_impl_Weighted_impl_summed_1_70b.mk b)) slices_rotateCmpFunc_impl_Weighted_impl_summed_1_70b.q2 v0 v1 v2 v3 := by kernel_rfl
theorem slices_rotateCmpFunc_impl_Weighted_impl_summed_1_70b.k2 (v0 : List (List Int × Int)) (v1 : Int) (v2 : Int) (v3 : Int) : roundL E (callT E tab) 164 Try.f164 5 [.r, .r, .l, .b] (⟨(.val .one), [.d .sha (.sl (.pair (.sl (.int .i64)) (.int .i64))) v0], true, false, false, 0, 0⟩ :: nn 1 (vc (iL v1) :: nn 1 (vc (.fn 130 []) :: nn 5 (vc (iL v2) :: vc (iL v3) :: nn 46 ([]))))) = slices_rotateCmpFunc_impl_Weighted_impl_summed_1_70b.t2 (fun b => some (slices_rotateCmpFunc_impl_Weighted_impl_summed_1_70b.mk b)) slices_rotateCmpFunc_impl_Weighted_impl_summed_1_70b.q2 v0 v1 v2 v3 := by kernel_rfl
theorem slices_rotateCmpFunc_impl_Weighted_impl_summed_1_70b.s (v0 : List (List Int × Int)) (v1 : Int) (v2 : Int) (v3 : Int) : Sub slices_rotateCmpFunc_impl_Weighted_impl_summed_1_70b.mk (slices_rotateCmpFunc_impl_Weighted_impl_summed_1_70b.t some slices_rotateCmpFunc_impl_Weighted_impl_summed_1_70b.l2 v0 v1 v2 v3) (slices_rotateCmpFunc_impl_Weighted_impl_summed_1_70b.t (fun b => some (slices_rotateCmpFunc_impl_Weighted_impl_summed_1_70b.mk b)) slices_rotateCmpFunc_impl_Weighted_impl_summed_1_70b.q2 v0 v1 v2 v3) := by
  unfold slices_rotateCmpFunc_impl_Weighted_impl_summed_1_70b.t
  repeat' first | exact Sub.ret | exact Sub.none | exact Sub.loop | apply Sub.cond | (apply Sub.bind; intro _)
theorem slices_rotateCmpFunc_impl_Weighted_impl_summed_1_70b.eq (v0 : List (List Int × Int)) (v1 : Int) (v2 : Int) (v3 : Int) {b : (List (List Int × Int))} (h : slices_rotateCmpFunc_impl_Weighted_impl_summed_1_70b.t some slices_rotateCmpFunc_impl_Weighted_impl_summed_1_70b.l2 v0 v1 v2 v3 = some b) : slices_rotateCmpFunc_impl_Weighted_impl_summed_1_70b v0 v1 v2 v3 = some b := tOf_intro slices_rotateCmpFunc_impl_Weighted_impl_summed_1_70b.un (fun _ => by kernel_rfl) (vlim_fn (callT_le E tab) rfl rfl rfl ((slices_rotateCmpFunc_impl_Weighted_impl_summed_1_70b.k v0 v1 v2 v3).trans (slices_rotateCmpFunc_impl_Weighted_impl_summed_1_70b.s v0 v1 v2 v3 b h)))
theorem slices_rotateCmpFunc_impl_Weighted_impl_summed_1_70b.s2 (v0 : List (List Int × Int)) (v1 : Int) (v2 : Int) (v3 : Int) : Sub slices_rotateCmpFunc_impl_Weighted_impl_summed_1_70b.mk (slices_rotateCmpFunc_impl_Weighted_impl_summed_1_70b.t2 some slices_rotateCmpFunc_impl_Weighted_impl_summed_1_70b.l2 v0 v1 v2 v3) (slices_rotateCmpFunc_impl_Weighted_impl_summed_1_70b.t2 (fun b => some (slices_rotateCmpFunc_impl_Weighted_impl_summed_1_70b.mk b)) slices_rotateCmpFunc_impl_Weighted_impl_summed_1_70b.q2 v0 v1 v2 v3) := by
  unfold slices_rotateCmpFunc_impl_Weighted_impl_summed_1_70b.t2
  repeat' first | exact Sub.ret | exact Sub.none | exact Sub.loop | apply Sub.cond | (apply Sub.bind; intro _)
theorem slices_rotateCmpFunc_impl_Weighted_impl_summed_1_70b.eq2 (v0 : List (List Int × Int)) (v1 : Int) (v2 : Int) (v3 : Int) {b : (List (List Int × Int))} (h : slices_rotateCmpFunc_impl_Weighted_impl_summed_1_70b.t2 some slices_rotateCmpFunc_impl_Weighted_impl_summed_1_70b.l2 v0 v1 v2 v3 = some b) : slices_rotateCmpFunc_impl_Weighted_impl_summed_1_70b.l2 v0 v1 v2 v3 = some b := tOf_intro slices_rotateCmpFunc_impl_Weighted_impl_summed_1_70b.un (fun _ => by kernel_rfl) (loopAtL_step ((slices_rotateCmpFunc_impl_Weighted_impl_summed_1_70b.k2 v0 v1 v2 v3).trans (slices_rotateCmpFunc_impl_Weighted_impl_summed_1_70b.s2 v0 v1 v2 v3 b h)))
noncomputable def slices_swapRangeCmpFunc_impl_Weighted_impl_summed_1_70b.q1 (v0 : List (List Int × Int)) (v1 : Int) (v2 : Int) (v3 : Int) (v4 : Int) : Option R := loopAtL E (callT E tab) 165 Try.f165 5 [.r, .b] (⟨(.val .one), [.d .sha (.sl (.pair (.sl (.int .i64)) (.int .i64))) v0], true, false, false, 0, 0⟩ :: vc (iL v1) :: vc (iL v2) :: vc (iL v3) :: nn 6 (vc (iL v4) :: nn 27 ([])))
noncomputable def slices_swapRangeCmpFunc_impl_Weighted_impl_summed_1_70b.l1 (v0 : List (List Int × Int)) (v1 : Int) (v2 : Int) (v3 : Int) (v4 : Int) : Option ((List (List Int × Int))) := tOf slices_swapRangeCmpFunc_impl_Weighted_impl_summed_1_70b.mk (slices_swapRangeCmpFunc_impl_Weighted_impl_summed_1_70b.q1 v0 v1 v2 v3 v4)
noncomputable def slices_swapRangeCmpFunc_impl_Weighted_impl_summed_1_70b.t {γ : Type} (ret : ((List (List Int × Int))) → Option γ) (lp1 : (List (List Int × Int)) → Int → Int → Int → Int → Option γ) (v0 : List (List Int × Int)) (v1 : Int) (v2 : Int) (v3 : Int) : Option γ :=
  lp1 (v0) (v1) (v2) (v3) ((0 : Int))
noncomputable def slices_swapRangeCmpFunc_impl_Weighted_impl_summed_1_70b.t1 {γ : Type} (ret : ((List (List Int × Int))) → Option γ) (lp1 : (List (List Int × Int)) → Int → Int → Int → Int → Option γ) (v0 : List (List Int × Int)) (v1 : Int) (v2 : Int) (v3 : Int) (v4 : Int) : Option γ :=
  bif Decidable.decide (v4 < v3) then
    bif Decidable.decide ((0 : Int) ≤ Go.IntKind.i64.wrap (v2 + v4)) then
      bif Decidable.decide ((Go.IntKind.i64.wrap (v2 + v4)).toNat < v0.length) then
        bif Decidable.decide ((Go.IntKind.i64.wrap (v2 + v4)).toNat < v0.length) then
          bif Decidable.decide ((0 : Int) ≤ Go.IntKind.i64.wrap (v1 + v4)) then
            bif Decidable.decide ((Go.IntKind.i64.wrap (v1 + v4)).toNat < v0.length) then
              bif Decidable.decide ((Go.IntKind.i64.wrap (v1 + v4)).toNat < v0.length) then
                bif Decidable.decide ((0 : Int) ≤ Go.IntKind.i64.wrap (v1 + v4)) then
                  bif Decidable.decide ((Go.IntKind.i64.wrap (v1 + v4)).toNat < v0.length) then
                    bif Decidable.decide ((Go.IntKind.i64.wrap (v1 + v4)).toNat < v0.length) then
                      bif Decidable.decide ((0 : Int) ≤ Go.IntKind.i64.wrap (v2 + v4)) then
                        bif Decidable.decide   ((Go.IntKind.i64.wrap (v2 + v4)).toNat <     (v0.set (Go.IntKind.i64.wrap (v1 + v4)).toNat         ((v0.getD (Go.IntKind.i64.wrap (v2 + v4)).toNat ([], (0 : Int))).fst,           (v0.getD (Go.IntKind.i64.wrap (v2 + v4)).toNat ([], (0 : Int))).snd)).length) then
                          bif Decidable.decide   ((Go.IntKind.i64.wrap (v2 + v4)).toNat <     (v0.set (Go.IntKind.i64.wrap (v1 + v4)).toNat         ((v0.getD (Go.IntKind.i64.wrap (v2 + v4)).toNat ([], (0 : Int))).fst,           (v0.getD (Go.IntKind.i64.wrap (v2 + v4)).toNat ([], (0 : Int))).snd)).length) then
                            lp1 ((v0.set (Go.IntKind.i64.wrap (v1 + v4)).toNat       ((v0.getD (Go.IntKind.i64.wrap (v2 + v4)).toNat ([], (0 : Int))).fst,         (v0.getD (Go.IntKind.i64.wrap (v2 + v4)).toNat ([], (0 : Int))).snd)).set   (Go.IntKind.i64.wrap (v2 + v4)).toNat   ((v0.getD (Go.IntKind.i64.wrap (v1 + v4)).toNat ([], (0 : Int))).fst,     (v0.getD (Go.IntKind.i64.wrap (v1 + v4)).toNat ([], (0 : Int))).snd)) (v1) (v2) (v3) (Go.IntKind.i64.wrap (v4 + (1 : Int)))
                          else
                            none
                        else
                          none
                      else
                        none
                    else
                      none
                  else
                    none
                else
                  none
              else
                none
            else
              none
          else
            none
        else
          none
      else
        none
    else
      none
  else
    ret (v0)
theorem slices_swapRangeCmpFunc_impl_Weighted_impl_summed_1_70b.k (v0 : List (List Int × Int)) (v1 : Int) (v2 : Int) (v3 : Int) : topL E (callT E tab) 165 Try.f165 (slices_swapRangeCmpFunc_impl_Weighted_impl_summed_1_70b.c v0 v1 v2 v3) = slices_swapRangeCmpFunc_impl_Weighted_impl_summed_1_70b.t (fun b => some (slices_swapRangeCmpFunc_impl_Weighted_impl_summed_1_70b.mk b)) slices_swapRangeCmpFunc_impl_Weighted_impl_summed_1_70b.q1 v0 v1 v2 v3 := by kernel_rfl
theorem slices_swapRangeCmpFunc_impl_Weighted_impl_summed_1_70b.k1 (v0 : List (List Int × Int)) (v1 : Int) (v2 : Int) (v3 : Int) (v4 : Int) : roundL E (callT E tab) 165 Try.f165 5 [.r, .b] (⟨(.val .one), [.d .sha (.sl (.pair (.sl (.int .i64)) (.int .i64))) v0], true, false, false, 0, 0⟩ :: vc (iL v1) :: vc (iL v2) :: vc (iL v3) :: nn 6 (vc (iL v4) :: nn 27 ([]))) = slices_swapRangeCmpFunc_impl_Weighted_impl_summed_1_70b.t1 (fun b => some (slices_swapRangeCmpFunc_impl_Weighted_impl_summed_1_70b.mk b)) slices_swapRangeCmpFunc_impl_Weighted_impl_summed_1_70b.q1 v0 v1 v2 v3 v4 := by kernel_rfl
theorem slices_swapRangeCmpFunc_impl_Weighted_impl_summed_1_70b.s (v0 : List (List Int × Int)) (v1 : Int) (v2 : Int) (v3 : Int) : Sub slices_swapRangeCmpFunc_impl_Weighted_impl_summed_1_70b.mk (slices_swapRangeCmpFunc_impl_Weighted_impl_summed_1_70b.t some slices_swapRangeCmpFunc_impl_Weighted_impl_summed_1_70b.l1 v0 v1 v2 v3) (slices_swapRangeCmpFunc_impl_Weighted_impl_summed_1_70b.t (fun b => some (slices_swapRangeCmpFunc_impl_Weighted_impl_summed_1_70b.mk b)) slices_swapRangeCmpFunc_impl_Weighted_impl_summed_1_70b.q1 v0 v1 v2 v3) := by
  unfold slices_swapRangeCmpFunc_impl_Weighted_impl_summed_1_70b.t
  repeat' first | exact Sub.ret | exact Sub.none | exact Sub.loop | apply Sub.cond | (apply Sub.bind; intro _)
theorem slices_swapRangeCmpFunc_impl_Weighted_impl_summed_1_70b.eq (v0 : List (List Int × Int)) (v1 : Int) (v2 : Int) (v3 : Int) {b : (List (List Int × Int))} (h : slices_swapRangeCmpFunc_impl_Weighted_impl_summed_1_70b.t some slices_swapRangeCmpFunc_impl_Weighted_impl_summed_1_70b.l1 v0 v1 v2 v3 = some b) : slices_swapRangeCmpFunc_impl_Weighted_impl_summed_1_70b v0 v1 v2 v3 = some b := tOf_intro slices_swapRangeCmpFunc_impl_Weighted_impl_summed_1_70b.un (fun _ => by kernel_rfl) (vlim_fn (callT_le E tab) rfl rfl rfl ((slices_swapRangeCmpFunc_impl_Weighted_impl_summed_1_70b.k v0 v1 v2 v3).trans (slices_swapRangeCmpFunc_impl_Weighted_impl_summed_1_70b.s v0 v1 v2 v3 b h)))
theorem slices_swapRangeCmpFunc_impl_Weighted_impl_summed_1_70b.s1 (v0 : List (List Int × Int)) (v1 : Int) (v2 : Int) (v3 : Int) (v4 : Int) : Sub slices_swapRangeCmpFunc_impl_Weighted_impl_summed_1_70b.mk (slices_swapRangeCmpFunc_impl_Weighted_impl_summed_1_70b.t1 some slices_swapRangeCmpFunc_impl_Weighted_impl_summed_1_70b.l1 v0 v1 v2 v3 v4) (slices_swapRangeCmpFunc_impl_Weighted_impl_summed_1_70b.t1 (fun b => some (slices_swapRangeCmpFunc_impl_Weighted_impl_summed_1_70b.mk b)) slices_swapRangeCmpFunc_impl_Weighted_impl_summed_1_70b.q1 v0 v1 v2 v3 v4) := by
  unfold slices_swapRangeCmpFunc_impl_Weighted_impl_summed_1_70b.t1
  repeat' first | exact Sub.ret | exact Sub.none | exact Sub.loop | apply Sub.cond | (apply Sub.bind; intro _)
theorem slices_swapRangeCmpFunc_impl_Weighted_impl_summed_1_70b.eq1 (v0 : List (List Int × Int)) (v1 : Int) (v2 : Int) (v3 : Int) (v4 : Int) {b : (List (List Int × Int))} (h : slices_swapRangeCmpFunc_impl_Weighted_impl_summed_1_70b.t1 some slices_swapRangeCmpFunc_impl_Weighted_impl_summed_1_70b.l1 v0 v1 v2 v3 v4 = some b) : slices_swapRangeCmpFunc_impl_Weighted_impl_summed_1_70b.l1 v0 v1 v2 v3 v4 = some b := tOf_intro slices_swapRangeCmpFunc_impl_Weighted_impl_summed_1_70b.un (fun _ => by kernel_rfl) (loopAtL_step ((slices_swapRangeCmpFunc_impl_Weighted_impl_summed_1_70b.k1 v0 v1 v2 v3 v4).trans (slices_swapRangeCmpFunc_impl_Weighted_impl_summed_1_70b.s1 v0 v1 v2 v3 v4 b h)))
end GoV
