/- A part of the proof of FnExactJoinTables: an interpreter of the model over plain data, its soundness, and what it makes of the functions that the statement reaches. Conditions: none beyond what the given statement itself says. -/
import Derived.Test.YtgblilbjpjidfaaTH
set_option linter.unusedVariables false
set_option linter.unusedSimpArgs false
set_option linter.unnecessarySimpa false
set_option linter.unusedSectionVars false
/- The functions of the program, each told by what it answers in the end (printed by wip/tools/emit.py). -/
/-! Names of functions here: xs00 = slices_SortStableFunc_impl_Weighted_impl_Weighted_impl_summed_1_056, xs01 = slices_ContainsFunc_int_int_impl_areAll_int_1_impl_arePairs_1, xs02 = slices_ContainsFunc_int_int_impl_areAll_int_1_impl_joined_1, xs03 = slices_insertionSortCmpFunc_impl_Weighted_impl_summed_1_c6e, xs04 = slices_IndexFunc_int_int_impl_areAll_int_1_impl_arePairs_1, xs05 = slices_ContainsFunc_int_int_impl_areAll_int_1_impl_isCell, xs06 = slices_IndexFunc_int_int_impl_areAll_int_1_impl_joined_1, xs07 = slices_swapRangeCmpFunc_impl_Weighted_impl_summed_1_70b, xs08 = slices_IndexFunc_int_int_impl_areAll_int_1_impl_isCell, xs09 = slices_symMergeCmpFunc_impl_Weighted_impl_summed_1_70b, xs0a = slices_rotateCmpFunc_impl_Weighted_impl_summed_1_70b, xs0b = slices_stableCmpFunc_impl_Weighted_impl_summed_1_6af, xs0c = slices_ContainsFunc_int_int_impl_unpaired_1, xs0d = slices_Grow_impl_Weighted_impl_Weighted_1b9, xs0e = slices_Concat_impl_Weighted_impl_Weighted, xs0f = slices_IndexFunc_int_int_impl_unpaired_1, xi0g = impl_areAll_int_1_impl_arePairs_1, xi0h = impl_areAll_int_1_impl_joined_1, xi0i = impl_areAll_int_impl_arePairs_1, xi0j = impl_areAll_int_1_impl_isCell, xi0k = impl_areAll_int_impl_joined_1, xi0l = impl_areAll_int_impl_isCell, xs0m = slices_Grow_int_int_c0f, xl0n = laws_FnExactJoinTables, xl0o = laws_markWeightedS_d97, xs0p = slices_Compare_int_int, xs0q = slices_Concat_int_int, xs0r = slices_Clone_int_int, xi0s = impl_goodOrNone_467 -/
namespace GoV
open Go Go.Proofs
set_option maxRecDepth 100000

def laws_szWeightedS.c (v0 : List (List Int × Int)) (v1 : Int) : List Cell := vc (.d .fro (.sl (.pair (.sl (.int .i64)) (.int .i64))) v0) :: vc (iL v1) :: []
def laws_szWeightedS.mk (b : Int) : R := (⟨.one, [iL b]⟩, nn 2 ([]))
def laws_szWeightedS.un (r : R) : Int := ((leafR r 0).dat (.int .i64))
noncomputable def laws_szWeightedS (v0 : List (List Int × Int)) (v1 : Int) : Option (Int) := tOf laws_szWeightedS.mk (vlim E 36 (laws_szWeightedS.c v0 v1))
def laws_szWeighted.c (v0 : List Int) (v1 : Int) (v2 : Int) : List Cell := ac [.d .fro (.sl (.int .i64)) v0, iL v1] :: vc (iL v2) :: []
def laws_szWeighted.mk (b : Int) : R := (⟨.one, [iL b]⟩, nn 2 ([]))
def laws_szWeighted.un (r : R) : Int := ((leafR r 0).dat (.int .i64))
noncomputable def laws_szWeighted (v0 : List Int) (v1 : Int) (v2 : Int) : Option (Int) := tOf laws_szWeighted.mk (vlim E 83 (laws_szWeighted.c v0 v1 v2))
def laws_szRow.c (v0 : List Int) (v1 : Int) : List Cell := ac [.d .fro (.sl (.int .i64)) v0] :: vc (iL v1) :: []
def laws_szRow.mk (b : Int) : R := (⟨.one, [iL b]⟩, nn 2 ([]))
def laws_szRow.un (r : R) : Int := ((leafR r 0).dat (.int .i64))
noncomputable def laws_szRow (v0 : List Int) (v1 : Int) : Option (Int) := tOf laws_szRow.mk (vlim E 123 (laws_szRow.c v0 v1))
def laws_szIntS.c (v0 : List Int) (v1 : Int) : List Cell := vc (.d .fro (.sl (.int .i64)) v0) :: vc (iL v1) :: []
def laws_szIntS.mk (b : Int) : R := (⟨.one, [iL b]⟩, nn 2 ([]))
def laws_szIntS.un (r : R) : Int := ((leafR r 0).dat (.int .i64))
noncomputable def laws_szIntS (v0 : List Int) (v1 : Int) : Option (Int) := tOf laws_szIntS.mk (vlim E 100 (laws_szIntS.c v0 v1))
def laws_toWeightedS.c (v0 : List (List Int × Int)) : List Cell := vc (.d .fro (.sl (.pair (.sl (.int .i64)) (.int .i64))) v0) :: []
def laws_toWeightedS.mk (b : (List (List Int × Int))) : R := (⟨.one, [.d .deep (.sl (.pair (.sl (.int .i64)) (.int .i64))) b]⟩, nn 1 ([]))
def laws_toWeightedS.un (r : R) : (List (List Int × Int)) := ((leafR r 0).dat (.sl (.pair (.sl (.int .i64)) (.int .i64))))
noncomputable def laws_toWeightedS (v0 : List (List Int × Int)) : Option ((List (List Int × Int))) := tOf laws_toWeightedS.mk (vlim E 38 (laws_toWeightedS.c v0))
def laws_toWeighted.c (v0 : List Int) (v1 : Int) : List Cell := ac [.d .fro (.sl (.int .i64)) v0, iL v1] :: []
def laws_toWeighted.mk (b : (List Int) × Int) : R := (⟨.agg, [.d .deep (.sl (.int .i64)) b.1, iL b.2]⟩, nn 1 ([]))
def laws_toWeighted.un (r : R) : (List Int) × Int := ((leafR r 0).dat (.sl (.int .i64)), (leafR r 1).dat (.int .i64))
noncomputable def laws_toWeighted (v0 : List Int) (v1 : Int) : Option ((List Int) × Int) := tOf laws_toWeighted.mk (vlim E 87 (laws_toWeighted.c v0 v1))
def laws_toRow.c (v0 : List Int) : List Cell := ac [.d .fro (.sl (.int .i64)) v0] :: []
def laws_toRow.mk (b : (List Int)) : R := (⟨.agg, [.d .deep (.sl (.int .i64)) b]⟩, nn 1 ([]))
def laws_toRow.un (r : R) : (List Int) := ((leafR r 0).dat (.sl (.int .i64)))
noncomputable def laws_toRow (v0 : List Int) : Option ((List Int)) := tOf laws_toRow.mk (vlim E 124 (laws_toRow.c v0))
def laws_toIntS.c (v0 : List Int) : List Cell := vc (.d .fro (.sl (.int .i64)) v0) :: []
def laws_toIntS.mk (b : (List Int)) : R := (⟨.one, [.d .deep (.sl (.int .i64)) b]⟩, nn 1 ([]))
def laws_toIntS.un (r : R) : (List Int) := ((leafR r 0).dat (.sl (.int .i64)))
noncomputable def laws_toIntS (v0 : List Int) : Option ((List Int)) := tOf laws_toIntS.mk (vlim E 45 (laws_toIntS.c v0))
def spec_l1In.c (v0 : Int) (v1 : Int) (v2 : Int) : List Cell := vc (iL v0) :: vc (iL v1) :: vc (iL v2) :: []
def spec_l1In.mk (b : Bool) : R := (⟨.one, [bL b]⟩, nn 3 ([]))
def spec_l1In.un (r : R) : Bool := ((leafR r 0).dat .bool)
noncomputable def spec_l1In (v0 : Int) (v1 : Int) (v2 : Int) : Option (Bool) := tOf spec_l1In.mk (vlim E 65 (spec_l1In.c v0 v1 v2))
def spec_GoodRow.c (v0 : List Int) : List Cell := ac [.d .fro (.sl (.int .i64)) v0] :: []
def spec_GoodRow.mk (b : Bool) : R := (⟨.one, [bL b]⟩, nn 1 ([]))
def spec_GoodRow.un (r : R) : Bool := ((leafR r 0).dat .bool)
noncomputable def spec_GoodRow (v0 : List Int) : Option (Bool) := tOf spec_GoodRow.mk (vlim E 84 (spec_GoodRow.c v0))
def spec_l2Weight.c (v0 : Int) : List Cell := vc (iL v0) :: []
def spec_l2Weight.mk (b : Bool) : R := (⟨.one, [bL b]⟩, nn 1 ([]))
def spec_l2Weight.un (r : R) : Bool := ((leafR r 0).dat .bool)
noncomputable def spec_l2Weight (v0 : Int) : Option (Bool) := tOf spec_l2Weight.mk (vlim E 85 (spec_l2Weight.c v0))
def spec_l2Put.c (v0 : List (List Int × Int)) (v1 : List Int) (v2 : Int) : List Cell := vc (.d .fro (.sl (.pair (.sl (.int .i64)) (.int .i64))) v0) :: ac [.d .fro (.sl (.int .i64)) v1] :: vc (iL v2) :: []
def spec_l2Put.mk (b : (List (List Int × Int))) : R := (⟨.one, [.d .sha (.sl (.pair (.sl (.int .i64)) (.int .i64))) b]⟩, nn 3 ([]))
def spec_l2Put.un (r : R) : (List (List Int × Int)) := ((leafR r 0).dat (.sl (.pair (.sl (.int .i64)) (.int .i64))))
noncomputable def spec_l2Put (v0 : List (List Int × Int)) (v1 : List Int) (v2 : Int) : Option ((List (List Int × Int))) := tOf spec_l2Put.mk (vlim E 86 (spec_l2Put.c v0 v1 v2))
def spec_l1Compare.c (v0 : List Int) (v1 : List Int) : List Cell := ac [.d .fro (.sl (.int .i64)) v0] :: ac [.d .fro (.sl (.int .i64)) v1] :: []
def spec_l1Compare.mk (b : Int) : R := (⟨.one, [iL b]⟩, nn 2 ([]))
def spec_l1Compare.un (r : R) : Int := ((leafR r 0).dat (.int .i64))
noncomputable def spec_l1Compare (v0 : List Int) (v1 : List Int) : Option (Int) := tOf spec_l1Compare.mk (vlim E 106 (spec_l1Compare.c v0 v1))
def spec_l2OwnRow.c (v0 : List Int) : List Cell := ac [.d .fro (.sl (.int .i64)) v0] :: []
def spec_l2OwnRow.mk (b : (List Int)) : R := (⟨.agg, [.d .deep (.sl (.int .i64)) b]⟩, nn 1 ([]))
def spec_l2OwnRow.un (r : R) : (List Int) := ((leafR r 0).dat (.sl (.int .i64)))
noncomputable def spec_l2OwnRow (v0 : List Int) : Option ((List Int)) := tOf spec_l2OwnRow.mk (vlim E 107 (spec_l2OwnRow.c v0))
def spec_l2Tell.c (v0 : Int) (v1 : List (List Int × Int)) : List Cell := vc (iL v0) :: vc (.d .fro (.sl (.pair (.sl (.int .i64)) (.int .i64))) v1) :: []
def spec_l2Tell.mk (b : Int × (List (List Int × Int)) × Bool) : R := (⟨(.tup [some 2, none]), [iL b.1, .d .deep (.sl (.pair (.sl (.int .i64)) (.int .i64))) b.2.1, bL b.2.2]⟩, nn 2 ([]))
def spec_l2Tell.un (r : R) : Int × (List (List Int × Int)) × Bool := ((leafR r 0).dat (.int .i64), (leafR r 1).dat (.sl (.pair (.sl (.int .i64)) (.int .i64))), (leafR r 2).dat .bool)
noncomputable def spec_l2Tell (v0 : Int) (v1 : List (List Int × Int)) : Option (Int × (List (List Int × Int)) × Bool) := tOf spec_l2Tell.mk (vlim E 60 (spec_l2Tell.c v0 v1))
def spec_GoodTable.c (v0 : Int) (v1 : List (List Int × Int)) : List Cell := ac [iL v0, .d .fro (.sl (.pair (.sl (.int .i64)) (.int .i64))) v1] :: []
def spec_GoodTable.mk (b : Bool) : R := (⟨.one, [bL b]⟩, nn 1 ([]))
def spec_GoodTable.un (r : R) : Bool := ((leafR r 0).dat .bool)
noncomputable def spec_GoodTable (v0 : Int) (v1 : List (List Int × Int)) : Option (Bool) := tOf spec_GoodTable.mk (vlim E 59 (spec_GoodTable.c v0 v1))
def impl_isColumns.c (v0 : Int) : List Cell := vc (iL v0) :: []
def impl_isColumns.mk (b : Bool) : R := (⟨.one, [bL b]⟩, nn 1 ([]))
def impl_isColumns.un (r : R) : Bool := ((leafR r 0).dat .bool)
noncomputable def impl_isColumns (v0 : Int) : Option (Bool) := tOf impl_isColumns.mk (vlim E 88 (impl_isColumns.c v0))
def impl_within.c (v0 : Int) (v1 : Int) (v2 : Int) : List Cell := vc (iL v0) :: vc (iL v1) :: vc (iL v2) :: []
def impl_within.mk (b : Bool) : R := (⟨.one, [bL b]⟩, nn 3 ([]))
def impl_within.un (r : R) : Bool := ((leafR r 0).dat .bool)
noncomputable def impl_within (v0 : Int) (v1 : Int) (v2 : Int) : Option (Bool) := tOf impl_within.mk (vlim E 66 (impl_within.c v0 v1 v2))
def impl_isRowOf.c (v0 : List Int) (v1 : Int) : List Cell := ac [.d .fro (.sl (.int .i64)) v0] :: vc (iL v1) :: []
def impl_isRowOf.mk (b : Bool) : R := (⟨.one, [bL b]⟩, nn 2 ([]))
def impl_isRowOf.un (r : R) : Bool := ((leafR r 0).dat .bool)
noncomputable def impl_isRowOf (v0 : List Int) (v1 : Int) : Option (Bool) := tOf impl_isRowOf.mk (vlim E 91 (impl_isRowOf.c v0 v1))
def impl_GoodRow.c (v0 : List Int) : List Cell := ac [.d .fro (.sl (.int .i64)) v0] :: []
def impl_GoodRow.mk (b : Bool) : R := (⟨.one, [bL b]⟩, nn 1 ([]))
def impl_GoodRow.un (r : R) : Bool := ((leafR r 0).dat .bool)
noncomputable def impl_GoodRow (v0 : List Int) : Option (Bool) := tOf impl_GoodRow.mk (vlim E 127 (impl_GoodRow.c v0))
def xi0l.c (v0 : List Int) : List Cell := vc (.d .fro (.sl (.int .i64)) v0) :: vc (.fn 119 []) :: []
def xi0l.mk (b : Bool) : R := (⟨.one, [bL b]⟩, nn 2 ([]))
def xi0l.un (r : R) : Bool := ((leafR r 0).dat .bool)
noncomputable def xi0l (v0 : List Int) : Option (Bool) := tOf xi0l.mk (vlim E 133 (xi0l.c v0))
def xs05.c (v0 : List Int) : List Cell := vc (.d .fro (.sl (.int .i64)) v0) :: vc (.fn 149 [.rp [.fn 119 []] 0]) :: []
def xs05.mk (b : Bool) : R := (⟨.one, [bL b]⟩, nn 2 ([]))
def xs05.un (r : R) : Bool := ((leafR r 0).dat .bool)
noncomputable def xs05 (v0 : List Int) : Option (Bool) := tOf xs05.mk (vlim E 148 (xs05.c v0))
def xs08.c (v0 : List Int) : List Cell := vc (.d .fro (.sl (.int .i64)) v0) :: vc (.fn 149 [.rp [.fn 119 []] 0]) :: []
def xs08.mk (b : Int) : R := (⟨.one, [iL b]⟩, nn 2 ([]))
def xs08.un (r : R) : Int := ((leafR r 0).dat (.int .i64))
noncomputable def xs08 (v0 : List Int) : Option (Int) := tOf xs08.mk (vlim E 159 (xs08.c v0))
def xi0j.c (v0 : Int) : List Cell := vc (iL v0) :: vc (.rp [.fn 119 []] 0) :: []
def xi0j.mk (b : Bool) : R := (⟨.one, [bL b]⟩, nn 2 ([]))
def xi0j.un (r : R) : Bool := ((leafR r 0).dat .bool)
noncomputable def xi0j (v0 : Int) : Option (Bool) := tOf xi0j.mk (vlim E 149 (xi0j.c v0))
def impl_isCell.c (v0 : Int) : List Cell := vc (iL v0) :: []
def impl_isCell.mk (b : Bool) : R := (⟨.one, [bL b]⟩, nn 1 ([]))
def impl_isCell.un (r : R) : Bool := ((leafR r 0).dat .bool)
noncomputable def impl_isCell (v0 : Int) : Option (Bool) := tOf impl_isCell.mk (vlim E 119 (impl_isCell.c v0))
def impl_isWeight.c (v0 : Int) : List Cell := vc (iL v0) :: []
def impl_isWeight.mk (b : Bool) : R := (⟨.one, [bL b]⟩, nn 1 ([]))
def impl_isWeight.un (r : R) : Bool := ((leafR r 0).dat .bool)
noncomputable def impl_isWeight (v0 : Int) : Option (Bool) := tOf impl_isWeight.mk (vlim E 92 (impl_isWeight.c v0))
def impl_summed.c (v0 : Int) (v1 : List (List (List Int × Int))) : List Cell := vc (iL v0) :: vc (.d .fro (.sl (.sl (.pair (.sl (.int .i64)) (.int .i64)))) v1) :: []
def impl_summed.mk (b : Int × (List (List Int × Int))) : R := (⟨.agg, [iL b.1, .d .deep (.sl (.pair (.sl (.int .i64)) (.int .i64))) b.2]⟩, nn 2 ([]))
def impl_summed.un (r : R) : Int × (List (List Int × Int)) := ((leafR r 0).dat (.int .i64), (leafR r 1).dat (.sl (.pair (.sl (.int .i64)) (.int .i64))))
noncomputable def impl_summed (v0 : Int) (v1 : List (List (List Int × Int))) : Option (Int × (List (List Int × Int))) := tOf impl_summed.mk (vlim E 93 (impl_summed.c v0 v1))
def xs0e.c (v0 : List (List (List Int × Int))) : List Cell := vc (.d .fro (.sl (.sl (.pair (.sl (.int .i64)) (.int .i64)))) v0) :: []
def xs0e.mk (b : (List (List Int × Int))) : R := (⟨.one, [.d .sha (.sl (.pair (.sl (.int .i64)) (.int .i64))) b]⟩, nn 1 ([]))
def xs0e.un (r : R) : (List (List Int × Int)) := ((leafR r 0).dat (.sl (.pair (.sl (.int .i64)) (.int .i64))))
noncomputable def xs0e (v0 : List (List (List Int × Int))) : Option ((List (List Int × Int))) := tOf xs0e.mk (vlim E 128 (xs0e.c v0))
def xs0d.c (v0 : Int) : List Cell := vc (.nil (.pair (.sl (.int .i64)) (.int .i64))) :: vc (iL v0) :: []
def xs0d.mk (b : (List (List Int × Int))) : R := (⟨.one, [.d .deep (.sl (.pair (.sl (.int .i64)) (.int .i64))) b]⟩, nn 2 ([]))
def xs0d.un (r : R) : (List (List Int × Int)) := ((leafR r 0).dat (.sl (.pair (.sl (.int .i64)) (.int .i64))))
noncomputable def xs0d (v0 : Int) : Option ((List (List Int × Int))) := tOf xs0d.mk (vlim E 146 (xs0d.c v0))
def xs00.c (v0 : List (List Int × Int)) : List Cell := ⟨(.val .one), [.d .sha (.sl (.pair (.sl (.int .i64)) (.int .i64))) v0], true, false, false, 0, 0⟩ :: vc (.fn 130 []) :: []
def xs00.mk (b : (List (List Int × Int))) : R := (⟨(.tup []), []⟩, ⟨(.val .one), [.d .sha (.sl (.pair (.sl (.int .i64)) (.int .i64))) b], true, false, false, 0, 0⟩ :: nn 1 ([]))
def xs00.un (r : R) : (List (List Int × Int)) := ((leafF r 0 0).dat (.sl (.pair (.sl (.int .i64)) (.int .i64))))
noncomputable def xs00 (v0 : List (List Int × Int)) : Option ((List (List Int × Int))) := tOf xs00.mk (vlim E 129 (xs00.c v0))
def xs0b.c (v0 : List (List Int × Int)) (v1 : Int) : List Cell := ⟨(.val .one), [.d .sha (.sl (.pair (.sl (.int .i64)) (.int .i64))) v0], true, false, false, 0, 0⟩ :: vc (iL v1) :: vc (.fn 130 []) :: []
def xs0b.mk (b : (List (List Int × Int))) : R := (⟨(.tup []), []⟩, ⟨(.val .one), [.d .sha (.sl (.pair (.sl (.int .i64)) (.int .i64))) b], true, false, false, 0, 0⟩ :: nn 2 ([]))
def xs0b.un (r : R) : (List (List Int × Int)) := ((leafF r 0 0).dat (.sl (.pair (.sl (.int .i64)) (.int .i64))))
noncomputable def xs0b (v0 : List (List Int × Int)) (v1 : Int) : Option ((List (List Int × Int))) := tOf xs0b.mk (vlim E 147 (xs0b.c v0 v1))
def xs03.c (v0 : List (List Int × Int)) (v1 : Int) (v2 : Int) : List Cell := ⟨(.val .one), [.d .sha (.sl (.pair (.sl (.int .i64)) (.int .i64))) v0], true, false, false, 0, 0⟩ :: vc (iL v1) :: vc (iL v2) :: vc (.fn 130 []) :: []
def xs03.mk (b : (List (List Int × Int))) : R := (⟨(.tup []), []⟩, ⟨(.val .one), [.d .sha (.sl (.pair (.sl (.int .i64)) (.int .i64))) b], true, false, false, 0, 0⟩ :: nn 3 ([]))
def xs03.un (r : R) : (List (List Int × Int)) := ((leafF r 0 0).dat (.sl (.pair (.sl (.int .i64)) (.int .i64))))
noncomputable def xs03 (v0 : List (List Int × Int)) (v1 : Int) (v2 : Int) : Option ((List (List Int × Int))) := tOf xs03.mk (vlim E 157 (xs03.c v0 v1 v2))
def impl_summed_1.c (v0 : List Int) (v1 : Int) (v2 : List Int) (v3 : Int) : List Cell := ac [.d .fro (.sl (.int .i64)) v0, iL v1] :: ac [.d .fro (.sl (.int .i64)) v2, iL v3] :: []
def impl_summed_1.mk (b : Int) : R := (⟨.one, [iL b]⟩, nn 2 ([]))
def impl_summed_1.un (r : R) : Int := ((leafR r 0).dat (.int .i64))
noncomputable def impl_summed_1 (v0 : List Int) (v1 : Int) (v2 : List Int) (v3 : Int) : Option (Int) := tOf impl_summed_1.mk (vlim E 130 (impl_summed_1.c v0 v1 v2 v3))
def impl_compareRows.c (v0 : List Int) (v1 : List Int) : List Cell := ac [.d .fro (.sl (.int .i64)) v0] :: ac [.d .fro (.sl (.int .i64)) v1] :: []
def impl_compareRows.mk (b : Int) : R := (⟨.one, [iL b]⟩, nn 2 ([]))
def impl_compareRows.un (r : R) : Int := ((leafR r 0).dat (.int .i64))
noncomputable def impl_compareRows (v0 : List Int) (v1 : List Int) : Option (Int) := tOf impl_compareRows.mk (vlim E 108 (impl_compareRows.c v0 v1))
def xs0p.c (v0 : List Int) (v1 : List Int) : List Cell := vc (.d .fro (.sl (.int .i64)) v0) :: vc (.d .fro (.sl (.int .i64)) v1) :: []
def xs0p.mk (b : Int) : R := (⟨.one, [iL b]⟩, nn 2 ([]))
def xs0p.un (r : R) : Int := ((leafR r 0).dat (.int .i64))
noncomputable def xs0p (v0 : List Int) (v1 : List Int) : Option (Int) := tOf xs0p.mk (vlim E 141 (xs0p.c v0 v1))
def cmp_Compare_int.c (v0 : Int) (v1 : Int) : List Cell := vc (iL v0) :: vc (iL v1) :: []
def cmp_Compare_int.mk (b : Int) : R := (⟨.one, [iL b]⟩, nn 2 ([]))
def cmp_Compare_int.un (r : R) : Int := ((leafR r 0).dat (.int .i64))
noncomputable def cmp_Compare_int (v0 : Int) (v1 : Int) : Option (Int) := tOf cmp_Compare_int.mk (vlim E 155 (cmp_Compare_int.c v0 v1))
def cmp_isNaN_int.c (v0 : Int) : List Cell := vc (iL v0) :: []
def cmp_isNaN_int.mk (b : Bool) : R := (⟨.one, [bL b]⟩, nn 1 ([]))
def cmp_isNaN_int.un (r : R) : Bool := ((leafR r 0).dat .bool)
noncomputable def cmp_isNaN_int (v0 : Int) : Option (Bool) := tOf cmp_isNaN_int.mk (vlim E 163 (cmp_isNaN_int.c v0))
def xs09.c (v0 : List (List Int × Int)) (v1 : Int) (v2 : Int) (v3 : Int) : List Cell := ⟨(.val .one), [.d .sha (.sl (.pair (.sl (.int .i64)) (.int .i64))) v0], true, false, false, 0, 0⟩ :: vc (iL v1) :: vc (iL v2) :: vc (iL v3) :: vc (.fn 130 []) :: []
def xs09.mk (b : (List (List Int × Int))) : R := (⟨(.tup []), []⟩, ⟨(.val .one), [.d .sha (.sl (.pair (.sl (.int .i64)) (.int .i64))) b], true, false, false, 0, 0⟩ :: nn 4 ([]))
def xs09.un (r : R) : (List (List Int × Int)) := ((leafF r 0 0).dat (.sl (.pair (.sl (.int .i64)) (.int .i64))))
noncomputable def xs09 (v0 : List (List Int × Int)) (v1 : Int) (v2 : Int) (v3 : Int) : Option ((List (List Int × Int))) := tOf xs09.mk (vlim E 158 (xs09.c v0 v1 v2 v3))
def xs0a.c (v0 : List (List Int × Int)) (v1 : Int) (v2 : Int) (v3 : Int) : List Cell := ⟨(.val .one), [.d .sha (.sl (.pair (.sl (.int .i64)) (.int .i64))) v0], true, false, false, 0, 0⟩ :: vc (iL v1) :: vc (iL v2) :: vc (iL v3) :: vc (.fn 130 []) :: []
def xs0a.mk (b : (List (List Int × Int))) : R := (⟨(.tup []), []⟩, ⟨(.val .one), [.d .sha (.sl (.pair (.sl (.int .i64)) (.int .i64))) b], true, false, false, 0, 0⟩ :: nn 4 ([]))
def xs0a.un (r : R) : (List (List Int × Int)) := ((leafF r 0 0).dat (.sl (.pair (.sl (.int .i64)) (.int .i64))))
noncomputable def xs0a (v0 : List (List Int × Int)) (v1 : Int) (v2 : Int) (v3 : Int) : Option ((List (List Int × Int))) := tOf xs0a.mk (vlim E 164 (xs0a.c v0 v1 v2 v3))
def xs07.c (v0 : List (List Int × Int)) (v1 : Int) (v2 : Int) (v3 : Int) : List Cell := ⟨(.val .one), [.d .sha (.sl (.pair (.sl (.int .i64)) (.int .i64))) v0], true, false, false, 0, 0⟩ :: vc (iL v1) :: vc (iL v2) :: vc (iL v3) :: vc (.fn 130 []) :: []
def xs07.mk (b : (List (List Int × Int))) : R := (⟨(.tup []), []⟩, ⟨(.val .one), [.d .sha (.sl (.pair (.sl (.int .i64)) (.int .i64))) b], true, false, false, 0, 0⟩ :: nn 4 ([]))
def xs07.un (r : R) : (List (List Int × Int)) := ((leafF r 0 0).dat (.sl (.pair (.sl (.int .i64)) (.int .i64))))
noncomputable def xs07 (v0 : List (List Int × Int)) (v1 : Int) (v2 : Int) (v3 : Int) : Option ((List (List Int × Int))) := tOf xs07.mk (vlim E 165 (xs07.c v0 v1 v2 v3))
def impl_Row_own.c (v0 : List Int) : List Cell := ac [.d .fro (.sl (.int .i64)) v0] :: []
def impl_Row_own.mk (b : (List Int)) : R := (⟨.agg, [.d .deep (.sl (.int .i64)) b]⟩, nn 1 ([]))
def impl_Row_own.un (r : R) : (List Int) := ((leafR r 0).dat (.sl (.int .i64)))
noncomputable def impl_Row_own (v0 : List Int) : Option ((List Int)) := tOf impl_Row_own.mk (vlim E 109 (impl_Row_own.c v0))
def xs0r.c (v0 : List Int) : List Cell := vc (.d .fro (.sl (.int .i64)) v0) :: []
def xs0r.mk (b : (List Int)) : R := (⟨.one, [.d .deep (.sl (.int .i64)) b]⟩, nn 1 ([]))
def xs0r.un (r : R) : (List Int) := ((leafR r 0).dat (.sl (.int .i64)))
noncomputable def xs0r (v0 : List Int) : Option ((List Int)) := tOf xs0r.mk (vlim E 142 (xs0r.c v0))
def xi0s.c (v0 : Int) (v1 : List (List Int × Int)) : List Cell := ac [iL v0, .d .deep (.sl (.pair (.sl (.int .i64)) (.int .i64))) v1] :: []
def xi0s.mk (b : Int × (List (List Int × Int)) × Bool) : R := (⟨(.tup [some 2, none]), [iL b.1, .d .deep (.sl (.pair (.sl (.int .i64)) (.int .i64))) b.2.1, bL b.2.2]⟩, nn 1 ([]))
def xi0s.un (r : R) : Int × (List (List Int × Int)) × Bool := ((leafR r 0).dat (.int .i64), (leafR r 1).dat (.sl (.pair (.sl (.int .i64)) (.int .i64))), (leafR r 2).dat .bool)
noncomputable def xi0s (v0 : Int) (v1 : List (List Int × Int)) : Option (Int × (List (List Int × Int)) × Bool) := tOf xi0s.mk (vlim E 67 (xi0s.c v0 v1))
def impl_GoodTable.c (v0 : Int) (v1 : List (List Int × Int)) : List Cell := ac [iL v0, .d .fro (.sl (.pair (.sl (.int .i64)) (.int .i64))) v1] :: []
def impl_GoodTable.mk (b : Bool) : R := (⟨.one, [bL b]⟩, nn 1 ([]))
def impl_GoodTable.un (r : R) : Bool := ((leafR r 0).dat .bool)
noncomputable def impl_GoodTable (v0 : Int) (v1 : List (List Int × Int)) : Option (Bool) := tOf impl_GoodTable.mk (vlim E 62 (impl_GoodTable.c v0 v1))
def laws_eqTable.c (v0 : Int) (v1 : List (List Int × Int)) (v2 : Int) (v3 : List (List Int × Int)) : List Cell := ac [iL v0, .d .fro (.sl (.pair (.sl (.int .i64)) (.int .i64))) v1] :: ac [iL v2, .d .fro (.sl (.pair (.sl (.int .i64)) (.int .i64))) v3] :: []
def laws_eqTable.mk (b : Bool) : R := (⟨.one, [bL b]⟩, nn 2 ([]))
def laws_eqTable.un (r : R) : Bool := ((leafR r 0).dat .bool)
noncomputable def laws_eqTable (v0 : Int) (v1 : List (List Int × Int)) (v2 : Int) (v3 : List (List Int × Int)) : Option (Bool) := tOf laws_eqTable.mk (vlim E 19 (laws_eqTable.c v0 v1 v2 v3))
def laws_eqWeightedS.c (v0 : List (List Int × Int)) (v1 : List (List Int × Int)) : List Cell := vc (.d .fro (.sl (.pair (.sl (.int .i64)) (.int .i64))) v0) :: vc (.d .fro (.sl (.pair (.sl (.int .i64)) (.int .i64))) v1) :: []
def laws_eqWeightedS.mk (b : Bool) : R := (⟨.one, [bL b]⟩, nn 2 ([]))
def laws_eqWeightedS.un (r : R) : Bool := ((leafR r 0).dat .bool)
noncomputable def laws_eqWeightedS (v0 : List (List Int × Int)) (v1 : List (List Int × Int)) : Option (Bool) := tOf laws_eqWeightedS.mk (vlim E 40 (laws_eqWeightedS.c v0 v1))
def laws_eqWeighted.c (v0 : List Int) (v1 : Int) (v2 : List Int) (v3 : Int) : List Cell := ac [.d .fro (.sl (.int .i64)) v0, iL v1] :: ac [.d .fro (.sl (.int .i64)) v2, iL v3] :: []
def laws_eqWeighted.mk (b : Bool) : R := (⟨.one, [bL b]⟩, nn 2 ([]))
def laws_eqWeighted.un (r : R) : Bool := ((leafR r 0).dat .bool)
noncomputable def laws_eqWeighted (v0 : List Int) (v1 : Int) (v2 : List Int) (v3 : Int) : Option (Bool) := tOf laws_eqWeighted.mk (vlim E 94 (laws_eqWeighted.c v0 v1 v2 v3))
def laws_eqRow.c (v0 : List Int) (v1 : List Int) : List Cell := ac [.d .fro (.sl (.int .i64)) v0] :: ac [.d .fro (.sl (.int .i64)) v1] :: []
def laws_eqRow.mk (b : Bool) : R := (⟨.one, [bL b]⟩, nn 2 ([]))
def laws_eqRow.un (r : R) : Bool := ((leafR r 0).dat .bool)
noncomputable def laws_eqRow (v0 : List Int) (v1 : List Int) : Option (Bool) := tOf laws_eqRow.mk (vlim E 131 (laws_eqRow.c v0 v1))
def laws_eqIntS.c (v0 : List Int) (v1 : List Int) : List Cell := vc (.d .fro (.sl (.int .i64)) v0) :: vc (.d .fro (.sl (.int .i64)) v1) :: []
def laws_eqIntS.mk (b : Bool) : R := (⟨.one, [bL b]⟩, nn 2 ([]))
def laws_eqIntS.un (r : R) : Bool := ((leafR r 0).dat .bool)
noncomputable def laws_eqIntS (v0 : List Int) (v1 : List Int) : Option (Bool) := tOf laws_eqIntS.mk (vlim E 47 (laws_eqIntS.c v0 v1))
def xl0o.c (v0 : List (List Int × Int)) (v1 : Int) : List Cell := ⟨(.val .one), [.d .deep (.sl (.pair (.sl (.int .i64)) (.int .i64))) v0], true, false, false, 0, 0⟩ :: vc (iL v1) :: []
def xl0o.mk (b : Int × (List (List Int × Int))) : R := (⟨.one, [iL b.1]⟩, ⟨(.val .one), [.d .deep (.sl (.pair (.sl (.int .i64)) (.int .i64))) b.2], true, false, false, 0, 0⟩ :: nn 1 ([]))
def xl0o.un (r : R) : Int × (List (List Int × Int)) := ((leafR r 0).dat (.int .i64), (leafF r 0 0).dat (.sl (.pair (.sl (.int .i64)) (.int .i64))))
noncomputable def xl0o (v0 : List (List Int × Int)) (v1 : Int) : Option (Int × (List (List Int × Int))) := tOf xl0o.mk (vlim E 41 (xl0o.c v0 v1))
def laws_markIntS_83f.c (v0 : List Int) (v1 : Int) : List Cell := ⟨(.val .one), [.d .deep (.sl (.int .i64)) v0], true, false, false, 0, 0⟩ :: vc (iL v1) :: []
def laws_markIntS_83f.mk (b : Int × (List Int)) : R := (⟨.one, [iL b.1]⟩, ⟨(.val .one), [.d .deep (.sl (.int .i64)) b.2], true, false, false, 0, 0⟩ :: nn 1 ([]))
def laws_markIntS_83f.un (r : R) : Int × (List Int) := ((leafR r 0).dat (.int .i64), (leafF r 0 0).dat (.sl (.int .i64)))
noncomputable def laws_markIntS_83f (v0 : List Int) (v1 : Int) : Option (Int × (List Int)) := tOf laws_markIntS_83f.mk (vlim E 48 (laws_markIntS_83f.c v0 v1))
def laws_markTable_d7a.c (v0 : Int) (v1 : List (List Int × Int)) (v2 : Int) : List Cell := ⟨(.val .agg), [iL v0, .d .deep (.sl (.pair (.sl (.int .i64)) (.int .i64))) v1], true, false, false, 0, 0⟩ :: vc (iL v2) :: []
def laws_markTable_d7a.mk (b : Int × Int × (List (List Int × Int))) : R := (⟨.one, [iL b.1]⟩, ⟨(.val .agg), [iL b.2.1, .d .deep (.sl (.pair (.sl (.int .i64)) (.int .i64))) b.2.2], true, false, false, 0, 0⟩ :: nn 1 ([]))
def laws_markTable_d7a.un (r : R) : Int × Int × (List (List Int × Int)) := ((leafR r 0).dat (.int .i64), (leafF r 0 0).dat (.int .i64), (leafF r 0 1).dat (.sl (.pair (.sl (.int .i64)) (.int .i64))))
noncomputable def laws_markTable_d7a (v0 : Int) (v1 : List (List Int × Int)) (v2 : Int) : Option (Int × Int × (List (List Int × Int))) := tOf laws_markTable_d7a.mk (vlim E 20 (laws_markTable_d7a.c v0 v1 v2))
def laws_heldTable.c (v0 : Int) (v1 : List (List Int × Int)) (v2 : Int) : List Cell := ac [iL v0, .d .fro (.sl (.pair (.sl (.int .i64)) (.int .i64))) v1] :: vc (iL v2) :: []
def laws_heldTable.mk (b : Int) : R := (⟨.one, [iL b]⟩, nn 2 ([]))
def laws_heldTable.un (r : R) : Int := ((leafR r 0).dat (.int .i64))
noncomputable def laws_heldTable (v0 : Int) (v1 : List (List Int × Int)) (v2 : Int) : Option (Int) := tOf laws_heldTable.mk (vlim E 21 (laws_heldTable.c v0 v1 v2))
def laws_heldWeightedS.c (v0 : List (List Int × Int)) (v1 : Int) : List Cell := vc (.d .fro (.sl (.pair (.sl (.int .i64)) (.int .i64))) v0) :: vc (iL v1) :: []
def laws_heldWeightedS.mk (b : Int) : R := (⟨.one, [iL b]⟩, nn 2 ([]))
def laws_heldWeightedS.un (r : R) : Int := ((leafR r 0).dat (.int .i64))
noncomputable def laws_heldWeightedS (v0 : List (List Int × Int)) (v1 : Int) : Option (Int) := tOf laws_heldWeightedS.mk (vlim E 64 (laws_heldWeightedS.c v0 v1))
def laws_heldIntS.c (v0 : List Int) (v1 : Int) : List Cell := vc (.d .fro (.sl (.int .i64)) v0) :: vc (iL v1) :: []
def laws_heldIntS.mk (b : Int) : R := (⟨.one, [iL b]⟩, nn 2 ([]))
def laws_heldIntS.un (r : R) : Int := ((leafR r 0).dat (.int .i64))
noncomputable def laws_heldIntS (v0 : List Int) (v1 : Int) : Option (Int) := tOf laws_heldIntS.mk (vlim E 110 (laws_heldIntS.c v0 v1))
def laws_szTable.c (v0 : Int) (v1 : List (List Int × Int)) (v2 : Int) : List Cell := ac [iL v0, .d .fro (.sl (.pair (.sl (.int .i64)) (.int .i64))) v1] :: vc (iL v2) :: []
def laws_szTable.mk (b : Int) : R := (⟨.one, [iL b]⟩, nn 2 ([]))
def laws_szTable.un (r : R) : Int := ((leafR r 0).dat (.int .i64))
noncomputable def laws_szTable (v0 : Int) (v1 : List (List Int × Int)) (v2 : Int) : Option (Int) := tOf laws_szTable.mk (vlim E 15 (laws_szTable.c v0 v1 v2))
def laws_toTable.c (v0 : Int) (v1 : List (List Int × Int)) : List Cell := ac [iL v0, .d .fro (.sl (.pair (.sl (.int .i64)) (.int .i64))) v1] :: []
def laws_toTable.mk (b : Int × (List (List Int × Int))) : R := (⟨.agg, [iL b.1, .d .deep (.sl (.pair (.sl (.int .i64)) (.int .i64))) b.2]⟩, nn 1 ([]))
def laws_toTable.un (r : R) : Int × (List (List Int × Int)) := ((leafR r 0).dat (.int .i64), (leafR r 1).dat (.sl (.pair (.sl (.int .i64)) (.int .i64))))
noncomputable def laws_toTable (v0 : Int) (v1 : List (List Int × Int)) : Option (Int × (List (List Int × Int))) := tOf laws_toTable.mk (vlim E 17 (laws_toTable.c v0 v1))
def impl_isPlace.c (v0 : Int) (v1 : Int) : List Cell := vc (iL v0) :: vc (iL v1) :: []
def impl_isPlace.mk (b : Bool) : R := (⟨.one, [bL b]⟩, nn 2 ([]))
def impl_isPlace.un (r : R) : Bool := ((leafR r 0).dat .bool)
noncomputable def impl_isPlace (v0 : Int) (v1 : Int) : Option (Bool) := tOf impl_isPlace.mk (vlim E 118 (impl_isPlace.c v0 v1))
def impl_Row_picked.c (v0 : List Int) (v1 : List Int) : List Cell := ac [.d .fro (.sl (.int .i64)) v0] :: vc (.d .fro (.sl (.int .i64)) v1) :: []
def impl_Row_picked.mk (b : (List Int)) : R := (⟨.agg, [.d .deep (.sl (.int .i64)) b]⟩, nn 2 ([]))
def impl_Row_picked.un (r : R) : (List Int) := ((leafR r 0).dat (.sl (.int .i64)))
noncomputable def impl_Row_picked (v0 : List Int) (v1 : List Int) : Option ((List Int)) := tOf impl_Row_picked.mk (vlim E 135 (impl_Row_picked.c v0 v1))
def spec_JoinTables.c (v0 : Int) (v1 : List (List Int × Int)) (v2 : Int) (v3 : List (List Int × Int)) (v4 : List (List Int)) : List Cell := ac [iL v0, .d .fro (.sl (.pair (.sl (.int .i64)) (.int .i64))) v1] :: ac [iL v2, .d .fro (.sl (.pair (.sl (.int .i64)) (.int .i64))) v3] :: vc (.d .fro (.sl (.sl (.int .i64))) v4) :: []
def spec_JoinTables.mk (b : Int × (List (List Int × Int)) × Bool) : R := (⟨(.tup [some 2, none]), [iL b.1, .d .deep (.sl (.pair (.sl (.int .i64)) (.int .i64))) b.2.1, bL b.2.2]⟩, nn 3 ([]))
def spec_JoinTables.un (r : R) : Int × (List (List Int × Int)) × Bool := ((leafR r 0).dat (.int .i64), (leafR r 1).dat (.sl (.pair (.sl (.int .i64)) (.int .i64))), (leafR r 2).dat .bool)
noncomputable def spec_JoinTables (v0 : Int) (v1 : List (List Int × Int)) (v2 : Int) (v3 : List (List Int × Int)) (v4 : List (List Int)) : Option (Int × (List (List Int × Int)) × Bool) := tOf spec_JoinTables.mk (vlim E 54 (spec_JoinTables.c v0 v1 v2 v3 v4))
def spec_l1Pairs.c (v0 : List (List Int)) (v1 : Int) (v2 : Int) : List Cell := vc (.d .fro (.sl (.sl (.int .i64))) v0) :: vc (iL v1) :: vc (iL v2) :: []
def spec_l1Pairs.mk (b : Bool) : R := (⟨.one, [bL b]⟩, nn 3 ([]))
def spec_l1Pairs.un (r : R) : Bool := ((leafR r 0).dat .bool)
noncomputable def spec_l1Pairs (v0 : List (List Int)) (v1 : Int) (v2 : Int) : Option (Bool) := tOf spec_l1Pairs.mk (vlim E 101 (spec_l1Pairs.c v0 v1 v2))
def spec_l3Left.c (v0 : List (List Int)) (v1 : Int) : List Cell := vc (.d .fro (.sl (.sl (.int .i64))) v0) :: vc (iL v1) :: []
def spec_l3Left.mk (b : Int) : R := (⟨.one, [iL b]⟩, nn 2 ([]))
def spec_l3Left.un (r : R) : Int := ((leafR r 0).dat (.int .i64))
noncomputable def spec_l3Left (v0 : List (List Int)) (v1 : Int) : Option (Int) := tOf spec_l3Left.mk (vlim E 102 (spec_l3Left.c v0 v1))
def spec_l3Join.c (v0 : List (List Int × Int)) (v1 : List (List Int × Int)) (v2 : List (List Int)) : List Cell := vc (.d .fro (.sl (.pair (.sl (.int .i64)) (.int .i64))) v0) :: vc (.d .fro (.sl (.pair (.sl (.int .i64)) (.int .i64))) v1) :: vc (.d .fro (.sl (.sl (.int .i64))) v2) :: []
def spec_l3Join.mk (b : (List (List Int × Int))) : R := (⟨.one, [.d .sha (.sl (.pair (.sl (.int .i64)) (.int .i64))) b]⟩, nn 3 ([]))
def spec_l3Join.un (r : R) : (List (List Int × Int)) := ((leafR r 0).dat (.sl (.pair (.sl (.int .i64)) (.int .i64))))
noncomputable def spec_l3Join (v0 : List (List Int × Int)) (v1 : List (List Int × Int)) (v2 : List (List Int)) : Option ((List (List Int × Int))) := tOf spec_l3Join.mk (vlim E 103 (spec_l3Join.c v0 v1 v2))
def spec_l1Join.c (v0 : List Int) (v1 : List Int) (v2 : List (List Int)) : List Cell := ac [.d .fro (.sl (.int .i64)) v0] :: ac [.d .fro (.sl (.int .i64)) v1] :: vc (.d .fro (.sl (.sl (.int .i64))) v2) :: []
def spec_l1Join.mk (b : (List Int) × Bool) : R := (⟨(.tup [some 1, none]), [.d .fro (.sl (.int .i64)) b.1, bL b.2]⟩, nn 3 ([]))
def spec_l1Join.un (r : R) : (List Int) × Bool := ((leafR r 0).dat (.sl (.int .i64)), (leafR r 1).dat .bool)
noncomputable def spec_l1Join (v0 : List Int) (v1 : List Int) (v2 : List (List Int)) : Option ((List Int) × Bool) := tOf spec_l1Join.mk (vlim E 136 (spec_l1Join.c v0 v1 v2))
def impl_JoinTables.c (v0 : Int) (v1 : List (List Int × Int)) (v2 : Int) (v3 : List (List Int × Int)) (v4 : List (List Int)) : List Cell := ac [iL v0, .d .fro (.sl (.pair (.sl (.int .i64)) (.int .i64))) v1] :: ac [iL v2, .d .fro (.sl (.pair (.sl (.int .i64)) (.int .i64))) v3] :: vc (.d .fro (.sl (.sl (.int .i64))) v4) :: []
def impl_JoinTables.mk (b : Int × (List (List Int × Int)) × Bool) : R := (⟨(.tup [some 2, none]), [iL b.1, .d .deep (.sl (.pair (.sl (.int .i64)) (.int .i64))) b.2.1, bL b.2.2]⟩, nn 3 ([]))
def impl_JoinTables.un (r : R) : Int × (List (List Int × Int)) × Bool := ((leafR r 0).dat (.int .i64), (leafR r 1).dat (.sl (.pair (.sl (.int .i64)) (.int .i64))), (leafR r 2).dat .bool)
noncomputable def impl_JoinTables (v0 : Int) (v1 : List (List Int × Int)) (v2 : Int) (v3 : List (List Int × Int)) (v4 : List (List Int)) : Option (Int × (List (List Int × Int)) × Bool) := tOf impl_JoinTables.mk (vlim E 56 (impl_JoinTables.c v0 v1 v2 v3 v4))
def impl_arePairs.c (v0 : List (List Int)) (v1 : Int) (v2 : Int) : List Cell := vc (.d .fro (.sl (.sl (.int .i64))) v0) :: vc (iL v1) :: vc (iL v2) :: []
def impl_arePairs.mk (b : Bool) : R := (⟨.one, [bL b]⟩, nn 3 ([]))
def impl_arePairs.un (r : R) : Bool := ((leafR r 0).dat .bool)
noncomputable def impl_arePairs (v0 : List (List Int)) (v1 : Int) (v2 : Int) : Option (Bool) := tOf impl_arePairs.mk (vlim E 104 (impl_arePairs.c v0 v1 v2))
def xi0i.c (v0 : List (List Int)) (v1 : Int) (v2 : Int) : List Cell := vc (.d .fro (.sl (.sl (.int .i64))) v0) :: vc (.fn 138 [.rp [iL v1] 0, .rp [iL v2] 0]) :: []
def xi0i.mk (b : Bool) : R := (⟨.one, [bL b]⟩, nn 2 ([]))
def xi0i.un (r : R) : Bool := ((leafR r 0).dat .bool)
noncomputable def xi0i (v0 : List (List Int)) (v1 : Int) (v2 : Int) : Option (Bool) := tOf xi0i.mk (vlim E 137 (xi0i.c v0 v1 v2))
def xs01.c (v0 : List (List Int)) (v1 : Int) (v2 : Int) : List Cell := vc (.d .fro (.sl (.sl (.int .i64))) v0) :: vc (.fn 151 [.rp [.fn 138 [.rp [iL v1] 0, .rp [iL v2] 0]] 0]) :: []
def xs01.mk (b : Bool) : R := (⟨.one, [bL b]⟩, nn 2 ([]))
def xs01.un (r : R) : Bool := ((leafR r 0).dat .bool)
noncomputable def xs01 (v0 : List (List Int)) (v1 : Int) (v2 : Int) : Option (Bool) := tOf xs01.mk (vlim E 150 (xs01.c v0 v1 v2))
def xs04.c (v0 : List (List Int)) (v1 : Int) (v2 : Int) : List Cell := vc (.d .fro (.sl (.sl (.int .i64))) v0) :: vc (.fn 151 [.rp [.fn 138 [.rp [iL v1] 0, .rp [iL v2] 0]] 0]) :: []
def xs04.mk (b : Int) : R := (⟨.one, [iL b]⟩, nn 2 ([]))
def xs04.un (r : R) : Int := ((leafR r 0).dat (.int .i64))
noncomputable def xs04 (v0 : List (List Int)) (v1 : Int) (v2 : Int) : Option (Int) := tOf xs04.mk (vlim E 160 (xs04.c v0 v1 v2))
def xi0g.c (v0 : List Int) (v1 : Int) (v2 : Int) : List Cell := vc (.d .fro (.sl (.int .i64)) v0) :: vc (.rp [.fn 138 [.rp [iL v1] 0, .rp [iL v2] 0]] 0) :: []
def xi0g.mk (b : Bool) : R := (⟨.one, [bL b]⟩, nn 2 ([]))
def xi0g.un (r : R) : Bool := ((leafR r 0).dat .bool)
noncomputable def xi0g (v0 : List Int) (v1 : Int) (v2 : Int) : Option (Bool) := tOf xi0g.mk (vlim E 151 (xi0g.c v0 v1 v2))
def impl_arePairs_1.c (v0 : List Int) (v1 : Int) (v2 : Int) : List Cell := vc (.d .fro (.sl (.int .i64)) v0) :: vc (.rp [iL v1] 0) :: vc (.rp [iL v2] 0) :: []
def impl_arePairs_1.mk (b : Bool) : R := (⟨.one, [bL b]⟩, nn 3 ([]))
def impl_arePairs_1.un (r : R) : Bool := ((leafR r 0).dat .bool)
noncomputable def impl_arePairs_1 (v0 : List Int) (v1 : Int) (v2 : Int) : Option (Bool) := tOf impl_arePairs_1.mk (vlim E 138 (impl_arePairs_1.c v0 v1 v2))
def impl_Table_join.c (v0 : Int) (v1 : List (List Int × Int)) (v2 : Int) (v3 : List (List Int × Int)) (v4 : List (List Int)) : List Cell := ac [iL v0, .d .fro (.sl (.pair (.sl (.int .i64)) (.int .i64))) v1] :: ac [iL v2, .d .fro (.sl (.pair (.sl (.int .i64)) (.int .i64))) v3] :: vc (.d .fro (.sl (.sl (.int .i64))) v4) :: []
def impl_Table_join.mk (b : Int × (List (List Int × Int))) : R := (⟨.agg, [iL b.1, .d .deep (.sl (.pair (.sl (.int .i64)) (.int .i64))) b.2]⟩, nn 3 ([]))
def impl_Table_join.un (r : R) : Int × (List (List Int × Int)) := ((leafR r 0).dat (.int .i64), (leafR r 1).dat (.sl (.pair (.sl (.int .i64)) (.int .i64))))
noncomputable def impl_Table_join (v0 : Int) (v1 : List (List Int × Int)) (v2 : Int) (v3 : List (List Int × Int)) (v4 : List (List Int)) : Option (Int × (List (List Int × Int))) := tOf impl_Table_join.mk (vlim E 105 (impl_Table_join.c v0 v1 v2 v3 v4))
def impl_joined.c (v0 : List Int) (v1 : List Int) (v2 : List (List Int)) : List Cell := ac [.d .fro (.sl (.int .i64)) v0] :: ac [.d .fro (.sl (.int .i64)) v1] :: vc (.d .fro (.sl (.sl (.int .i64))) v2) :: []
def impl_joined.mk (b : (List Int) × Bool) : R := (⟨(.tup [some 1, none]), [.d .deep (.sl (.int .i64)) b.1, bL b.2]⟩, nn 3 ([]))
def impl_joined.un (r : R) : (List Int) × Bool := ((leafR r 0).dat (.sl (.int .i64)), (leafR r 1).dat .bool)
noncomputable def impl_joined (v0 : List Int) (v1 : List Int) (v2 : List (List Int)) : Option ((List Int) × Bool) := tOf impl_joined.mk (vlim E 139 (impl_joined.c v0 v1 v2))
def xi0k.c (v0 : List (List Int)) (v1 : List Int) (v2 : List Int) : List Cell := vc (.d .fro (.sl (.sl (.int .i64))) v0) :: vc (.fn 152 [.rp [.d .fro (.sl (.int .i64)) v1] 0, .rp [.d .fro (.sl (.int .i64)) v2] 0]) :: []
def xi0k.mk (b : Bool) : R := (⟨.one, [bL b]⟩, nn 2 ([]))
def xi0k.un (r : R) : Bool := ((leafR r 0).dat .bool)
noncomputable def xi0k (v0 : List (List Int)) (v1 : List Int) (v2 : List Int) : Option (Bool) := tOf xi0k.mk (vlim E 137 (xi0k.c v0 v1 v2))
def xs02.c (v0 : List (List Int)) (v1 : List Int) (v2 : List Int) : List Cell := vc (.d .fro (.sl (.sl (.int .i64))) v0) :: vc (.fn 151 [.rp [.fn 152 [.rp [.d .fro (.sl (.int .i64)) v1] 0, .rp [.d .fro (.sl (.int .i64)) v2] 0]] 0]) :: []
def xs02.mk (b : Bool) : R := (⟨.one, [bL b]⟩, nn 2 ([]))
def xs02.un (r : R) : Bool := ((leafR r 0).dat .bool)
noncomputable def xs02 (v0 : List (List Int)) (v1 : List Int) (v2 : List Int) : Option (Bool) := tOf xs02.mk (vlim E 150 (xs02.c v0 v1 v2))
def xs06.c (v0 : List (List Int)) (v1 : List Int) (v2 : List Int) : List Cell := vc (.d .fro (.sl (.sl (.int .i64))) v0) :: vc (.fn 151 [.rp [.fn 152 [.rp [.d .fro (.sl (.int .i64)) v1] 0, .rp [.d .fro (.sl (.int .i64)) v2] 0]] 0]) :: []
def xs06.mk (b : Int) : R := (⟨.one, [iL b]⟩, nn 2 ([]))
def xs06.un (r : R) : Int := ((leafR r 0).dat (.int .i64))
noncomputable def xs06 (v0 : List (List Int)) (v1 : List Int) (v2 : List Int) : Option (Int) := tOf xs06.mk (vlim E 160 (xs06.c v0 v1 v2))
def xi0h.c (v0 : List Int) (v1 : List Int) (v2 : List Int) : List Cell := vc (.d .fro (.sl (.int .i64)) v0) :: vc (.rp [.fn 152 [.rp [.d .fro (.sl (.int .i64)) v1] 0, .rp [.d .fro (.sl (.int .i64)) v2] 0]] 0) :: []
def xi0h.mk (b : Bool) : R := (⟨.one, [bL b]⟩, nn 2 ([]))
def xi0h.un (r : R) : Bool := ((leafR r 0).dat .bool)
noncomputable def xi0h (v0 : List Int) (v1 : List Int) (v2 : List Int) : Option (Bool) := tOf xi0h.mk (vlim E 151 (xi0h.c v0 v1 v2))
def impl_joined_1.c (v0 : List Int) (v1 : List Int) (v2 : List Int) : List Cell := vc (.d .fro (.sl (.int .i64)) v0) :: vc (.rp [.d .fro (.sl (.int .i64)) v1] 0) :: vc (.rp [.d .fro (.sl (.int .i64)) v2] 0) :: []
def impl_joined_1.mk (b : Bool) : R := (⟨.one, [bL b]⟩, nn 3 ([]))
def impl_joined_1.un (r : R) : Bool := ((leafR r 0).dat .bool)
noncomputable def impl_joined_1 (v0 : List Int) (v1 : List Int) (v2 : List Int) : Option (Bool) := tOf impl_joined_1.mk (vlim E 152 (impl_joined_1.c v0 v1 v2))
def impl_unpaired.c (v0 : Int) (v1 : List (List Int)) : List Cell := vc (iL v0) :: vc (.d .fro (.sl (.sl (.int .i64))) v1) :: []
def impl_unpaired.mk (b : (List Int)) : R := (⟨.one, [.d .deep (.sl (.int .i64)) b]⟩, nn 2 ([]))
def impl_unpaired.un (r : R) : (List Int) := ((leafR r 0).dat (.sl (.int .i64)))
noncomputable def impl_unpaired (v0 : Int) (v1 : List (List Int)) : Option ((List Int)) := tOf impl_unpaired.mk (vlim E 154 (impl_unpaired.c v0 v1))
def xs0c.c (v0 : List (List Int)) (v1 : Int) : List Cell := vc (.d .fro (.sl (.sl (.int .i64))) v0) :: vc (.fn 162 [.rp [iL v1] 0]) :: []
def xs0c.mk (b : Bool) : R := (⟨.one, [bL b]⟩, nn 2 ([]))
def xs0c.un (r : R) : Bool := ((leafR r 0).dat .bool)
noncomputable def xs0c (v0 : List (List Int)) (v1 : Int) : Option (Bool) := tOf xs0c.mk (vlim E 150 (xs0c.c v0 v1))
def xs0f.c (v0 : List (List Int)) (v1 : Int) : List Cell := vc (.d .fro (.sl (.sl (.int .i64))) v0) :: vc (.fn 162 [.rp [iL v1] 0]) :: []
def xs0f.mk (b : Int) : R := (⟨.one, [iL b]⟩, nn 2 ([]))
def xs0f.un (r : R) : Int := ((leafR r 0).dat (.int .i64))
noncomputable def xs0f (v0 : List (List Int)) (v1 : Int) : Option (Int) := tOf xs0f.mk (vlim E 160 (xs0f.c v0 v1))
def impl_unpaired_1.c (v0 : List Int) (v1 : Int) : List Cell := vc (.d .fro (.sl (.int .i64)) v0) :: vc (.rp [iL v1] 0) :: []
def impl_unpaired_1.mk (b : Bool) : R := (⟨.one, [bL b]⟩, nn 2 ([]))
def impl_unpaired_1.un (r : R) : Bool := ((leafR r 0).dat .bool)
noncomputable def impl_unpaired_1 (v0 : List Int) (v1 : Int) : Option (Bool) := tOf impl_unpaired_1.mk (vlim E 162 (impl_unpaired_1.c v0 v1))
def xs0q.c (v0 : List (List Int)) : List Cell := vc (.d .fro (.sl (.sl (.int .i64))) v0) :: []
def xs0q.mk (b : (List Int)) : R := (⟨.one, [.d .deep (.sl (.int .i64)) b]⟩, nn 1 ([]))
def xs0q.un (r : R) : (List Int) := ((leafR r 0).dat (.sl (.int .i64)))
noncomputable def xs0q (v0 : List (List Int)) : Option ((List Int)) := tOf xs0q.mk (vlim E 153 (xs0q.c v0))
def xs0m.c (v0 : Int) : List Cell := vc (.nil (.int .i64)) :: vc (iL v0) :: []
def xs0m.mk (b : (List Int)) : R := (⟨.one, [.d .deep (.sl (.int .i64)) b]⟩, nn 2 ([]))
def xs0m.un (r : R) : (List Int) := ((leafR r 0).dat (.sl (.int .i64)))
noncomputable def xs0m (v0 : Int) : Option ((List Int)) := tOf xs0m.mk (vlim E 161 (xs0m.c v0))
def impl_joinedColumns.c (v0 : Int) (v1 : Int) (v2 : List (List Int)) : List Cell := vc (iL v0) :: vc (iL v1) :: vc (.d .fro (.sl (.sl (.int .i64))) v2) :: []
def impl_joinedColumns.mk (b : Int) : R := (⟨.one, [iL b]⟩, nn 3 ([]))
def impl_joinedColumns.un (r : R) : Int := ((leafR r 0).dat (.int .i64))
noncomputable def impl_joinedColumns (v0 : Int) (v1 : Int) (v2 : List (List Int)) : Option (Int) := tOf impl_joinedColumns.mk (vlim E 140 (impl_joinedColumns.c v0 v1 v2))
def xl0n.c (v0 : Int) (v1 : List (List Int × Int)) (v2 : Int) (v3 : List (List Int × Int)) (v4 : List (List Int)) : List Cell := ac [iL v0, .d .fro (.sl (.pair (.sl (.int .i64)) (.int .i64))) v1] :: ac [iL v2, .d .fro (.sl (.pair (.sl (.int .i64)) (.int .i64))) v3] :: vc (.d .fro (.sl (.sl (.int .i64))) v4) :: []
def xl0n.mk (b : Bool) : R := (⟨.one, [bL b]⟩, nn 3 ([]))
def xl0n.un (r : R) : Bool := ((leafR r 0).dat .bool)
noncomputable def xl0n (v0 : Int) (v1 : List (List Int × Int)) (v2 : Int) (v3 : List (List Int × Int)) (v4 : List (List Int)) : Option (Bool) := tOf xl0n.mk (vlim E 14 (xl0n.c v0 v1 v2 v3 v4))
def laws_szIntSS.c (v0 : List (List Int)) (v1 : Int) : List Cell := vc (.d .fro (.sl (.sl (.int .i64))) v0) :: vc (iL v1) :: []
def laws_szIntSS.mk (b : Int) : R := (⟨.one, [iL b]⟩, nn 2 ([]))
def laws_szIntSS.un (r : R) : Int := ((leafR r 0).dat (.int .i64))
noncomputable def laws_szIntSS (v0 : List (List Int)) (v1 : Int) : Option (Int) := tOf laws_szIntSS.mk (vlim E 53 (laws_szIntSS.c v0 v1))
def laws_toIntSS.c (v0 : List (List Int)) : List Cell := vc (.d .fro (.sl (.sl (.int .i64))) v0) :: []
def laws_toIntSS.mk (b : (List (List Int))) : R := (⟨.one, [.d .deep (.sl (.sl (.int .i64))) b]⟩, nn 1 ([]))
def laws_toIntSS.un (r : R) : (List (List Int)) := ((leafR r 0).dat (.sl (.sl (.int .i64))))
noncomputable def laws_toIntSS (v0 : List (List Int)) : Option ((List (List Int))) := tOf laws_toIntSS.mk (vlim E 55 (laws_toIntSS.c v0))
def laws_eqIntSS.c (v0 : List (List Int)) (v1 : List (List Int)) : List Cell := vc (.d .fro (.sl (.sl (.int .i64))) v0) :: vc (.d .fro (.sl (.sl (.int .i64))) v1) :: []
def laws_eqIntSS.mk (b : Bool) : R := (⟨.one, [bL b]⟩, nn 2 ([]))
def laws_eqIntSS.un (r : R) : Bool := ((leafR r 0).dat .bool)
noncomputable def laws_eqIntSS (v0 : List (List Int)) (v1 : List (List Int)) : Option (Bool) := tOf laws_eqIntSS.mk (vlim E 57 (laws_eqIntSS.c v0 v1))
def laws_markIntSS_1f6.c (v0 : List (List Int)) (v1 : Int) : List Cell := ⟨(.val .one), [.d .deep (.sl (.sl (.int .i64))) v0], true, false, false, 0, 0⟩ :: vc (iL v1) :: []
def laws_markIntSS_1f6.mk (b : Int × (List (List Int))) : R := (⟨.one, [iL b.1]⟩, ⟨(.val .one), [.d .deep (.sl (.sl (.int .i64))) b.2], true, false, false, 0, 0⟩ :: nn 1 ([]))
def laws_markIntSS_1f6.un (r : R) : Int × (List (List Int)) := ((leafR r 0).dat (.int .i64), (leafF r 0 0).dat (.sl (.sl (.int .i64))))
noncomputable def laws_markIntSS_1f6 (v0 : List (List Int)) (v1 : Int) : Option (Int × (List (List Int))) := tOf laws_markIntSS_1f6.mk (vlim E 58 (laws_markIntSS_1f6.c v0 v1))
def tabT : List (Nat × List (List Cell × Tb)) := [
 (14, [(xl0n.c 0 [] 0 [] [], ⟨Bool, xl0n.mk⟩)]),
 (15, [(laws_szTable.c 0 [] 0, ⟨Int, laws_szTable.mk⟩)]),
 (17, [(laws_toTable.c 0 [], ⟨Int × (List (List Int × Int)), laws_toTable.mk⟩)]),
 (19, [(laws_eqTable.c 0 [] 0 [], ⟨Bool, laws_eqTable.mk⟩)]),
 (20, [(laws_markTable_d7a.c 0 [] 0, ⟨Int × Int × (List (List Int × Int)), laws_markTable_d7a.mk⟩)]),
 (21, [(laws_heldTable.c 0 [] 0, ⟨Int, laws_heldTable.mk⟩)]),
 (36, [(laws_szWeightedS.c [] 0, ⟨Int, laws_szWeightedS.mk⟩)]),
 (38, [(laws_toWeightedS.c [], ⟨(List (List Int × Int)), laws_toWeightedS.mk⟩)]),
 (40, [(laws_eqWeightedS.c [] [], ⟨Bool, laws_eqWeightedS.mk⟩)]),
 (41, [(xl0o.c [] 0, ⟨Int × (List (List Int × Int)), xl0o.mk⟩)]),
 (45, [(laws_toIntS.c [], ⟨(List Int), laws_toIntS.mk⟩)]),
 (47, [(laws_eqIntS.c [] [], ⟨Bool, laws_eqIntS.mk⟩)]),
 (48, [(laws_markIntS_83f.c [] 0, ⟨Int × (List Int), laws_markIntS_83f.mk⟩)]),
 (53, [(laws_szIntSS.c [] 0, ⟨Int, laws_szIntSS.mk⟩)]),
 (54, [(spec_JoinTables.c 0 [] 0 [] [], ⟨Int × (List (List Int × Int)) × Bool, spec_JoinTables.mk⟩)]),
 (55, [(laws_toIntSS.c [], ⟨(List (List Int)), laws_toIntSS.mk⟩)]),
 (56, [(impl_JoinTables.c 0 [] 0 [] [], ⟨Int × (List (List Int × Int)) × Bool, impl_JoinTables.mk⟩)]),
 (57, [(laws_eqIntSS.c [] [], ⟨Bool, laws_eqIntSS.mk⟩)]),
 (58, [(laws_markIntSS_1f6.c [] 0, ⟨Int × (List (List Int)), laws_markIntSS_1f6.mk⟩)]),
 (59, [(spec_GoodTable.c 0 [], ⟨Bool, spec_GoodTable.mk⟩)]),
 (60, [(spec_l2Tell.c 0 [], ⟨Int × (List (List Int × Int)) × Bool, spec_l2Tell.mk⟩)]),
 (62, [(impl_GoodTable.c 0 [], ⟨Bool, impl_GoodTable.mk⟩)]),
 (64, [(laws_heldWeightedS.c [] 0, ⟨Int, laws_heldWeightedS.mk⟩)]),
 (65, [(spec_l1In.c 0 0 0, ⟨Bool, spec_l1In.mk⟩)]),
 (66, [(impl_within.c 0 0 0, ⟨Bool, impl_within.mk⟩)]),
 (67, [(xi0s.c 0 [], ⟨Int × (List (List Int × Int)) × Bool, xi0s.mk⟩)]),
 (83, [(laws_szWeighted.c [] 0 0, ⟨Int, laws_szWeighted.mk⟩)]),
 (84, [(spec_GoodRow.c [], ⟨Bool, spec_GoodRow.mk⟩)]),
 (85, [(spec_l2Weight.c 0, ⟨Bool, spec_l2Weight.mk⟩)]),
 (86, [(spec_l2Put.c [] [] 0, ⟨(List (List Int × Int)), spec_l2Put.mk⟩)]),
 (87, [(laws_toWeighted.c [] 0, ⟨(List Int) × Int, laws_toWeighted.mk⟩)]),
 (88, [(impl_isColumns.c 0, ⟨Bool, impl_isColumns.mk⟩)]),
 (91, [(impl_isRowOf.c [] 0, ⟨Bool, impl_isRowOf.mk⟩)]),
 (92, [(impl_isWeight.c 0, ⟨Bool, impl_isWeight.mk⟩)]),
 (93, [(impl_summed.c 0 [], ⟨Int × (List (List Int × Int)), impl_summed.mk⟩)]),
 (94, [(laws_eqWeighted.c [] 0 [] 0, ⟨Bool, laws_eqWeighted.mk⟩)]),
 (100, [(laws_szIntS.c [] 0, ⟨Int, laws_szIntS.mk⟩)]),
 (101, [(spec_l1Pairs.c [] 0 0, ⟨Bool, spec_l1Pairs.mk⟩)]),
 (102, [(spec_l3Left.c [] 0, ⟨Int, spec_l3Left.mk⟩)]),
 (103, [(spec_l3Join.c [] [] [], ⟨(List (List Int × Int)), spec_l3Join.mk⟩)]),
 (104, [(impl_arePairs.c [] 0 0, ⟨Bool, impl_arePairs.mk⟩)]),
 (105, [(impl_Table_join.c 0 [] 0 [] [], ⟨Int × (List (List Int × Int)), impl_Table_join.mk⟩)]),
 (106, [(spec_l1Compare.c [] [], ⟨Int, spec_l1Compare.mk⟩)]),
 (107, [(spec_l2OwnRow.c [], ⟨(List Int), spec_l2OwnRow.mk⟩)]),
 (108, [(impl_compareRows.c [] [], ⟨Int, impl_compareRows.mk⟩)]),
 (109, [(impl_Row_own.c [], ⟨(List Int), impl_Row_own.mk⟩)]),
 (110, [(laws_heldIntS.c [] 0, ⟨Int, laws_heldIntS.mk⟩)]),
 (118, [(impl_isPlace.c 0 0, ⟨Bool, impl_isPlace.mk⟩)]),
 (119, [(impl_isCell.c 0, ⟨Bool, impl_isCell.mk⟩)]),
 (123, [(laws_szRow.c [] 0, ⟨Int, laws_szRow.mk⟩)]),
 (124, [(laws_toRow.c [], ⟨(List Int), laws_toRow.mk⟩)]),
 (127, [(impl_GoodRow.c [], ⟨Bool, impl_GoodRow.mk⟩)]),
 (128, [(xs0e.c [], ⟨(List (List Int × Int)), xs0e.mk⟩)]),
 (129, [(xs00.c [], ⟨(List (List Int × Int)), xs00.mk⟩)]),
 (130, [(impl_summed_1.c [] 0 [] 0, ⟨Int, impl_summed_1.mk⟩)]),
 (131, [(laws_eqRow.c [] [], ⟨Bool, laws_eqRow.mk⟩)]),
 (133, [(xi0l.c [], ⟨Bool, xi0l.mk⟩)]),
 (135, [(impl_Row_picked.c [] [], ⟨(List Int), impl_Row_picked.mk⟩)]),
 (136, [(spec_l1Join.c [] [] [], ⟨(List Int) × Bool, spec_l1Join.mk⟩)]),
 (137, [(xi0i.c [] 0 0, ⟨Bool, xi0i.mk⟩), (xi0k.c [] [] [], ⟨Bool, xi0k.mk⟩)]),
 (138, [(impl_arePairs_1.c [] 0 0, ⟨Bool, impl_arePairs_1.mk⟩)]),
 (139, [(impl_joined.c [] [] [], ⟨(List Int) × Bool, impl_joined.mk⟩)]),
 (140, [(impl_joinedColumns.c 0 0 [], ⟨Int, impl_joinedColumns.mk⟩)]),
 (141, [(xs0p.c [] [], ⟨Int, xs0p.mk⟩)]),
 (142, [(xs0r.c [], ⟨(List Int), xs0r.mk⟩)]),
 (146, [(xs0d.c 0, ⟨(List (List Int × Int)), xs0d.mk⟩)]),
 (147, [(xs0b.c [] 0, ⟨(List (List Int × Int)), xs0b.mk⟩)]),
 (148, [(xs05.c [], ⟨Bool, xs05.mk⟩)]),
 (149, [(xi0j.c 0, ⟨Bool, xi0j.mk⟩)]),
 (150, [(xs01.c [] 0 0, ⟨Bool, xs01.mk⟩), (xs02.c [] [] [], ⟨Bool, xs02.mk⟩), (xs0c.c [] 0, ⟨Bool, xs0c.mk⟩)]),
 (151, [(xi0g.c [] 0 0, ⟨Bool, xi0g.mk⟩), (xi0h.c [] [] [], ⟨Bool, xi0h.mk⟩)]),
 (152, [(impl_joined_1.c [] [] [], ⟨Bool, impl_joined_1.mk⟩)]),
 (153, [(xs0q.c [], ⟨(List Int), xs0q.mk⟩)]),
 (154, [(impl_unpaired.c 0 [], ⟨(List Int), impl_unpaired.mk⟩)]),
 (155, [(cmp_Compare_int.c 0 0, ⟨Int, cmp_Compare_int.mk⟩)]),
 (157, [(xs03.c [] 0 0, ⟨(List (List Int × Int)), xs03.mk⟩)]),
 (158, [(xs09.c [] 0 0 0, ⟨(List (List Int × Int)), xs09.mk⟩)]),
 (159, [(xs08.c [], ⟨Int, xs08.mk⟩)]),
 (160, [(xs04.c [] 0 0, ⟨Int, xs04.mk⟩), (xs06.c [] [] [], ⟨Int, xs06.mk⟩), (xs0f.c [] 0, ⟨Int, xs0f.mk⟩)]),
 (161, [(xs0m.c 0, ⟨(List Int), xs0m.mk⟩)]),
 (162, [(impl_unpaired_1.c [] 0, ⟨Bool, impl_unpaired_1.mk⟩)]),
 (163, [(cmp_isNaN_int.c 0, ⟨Bool, cmp_isNaN_int.mk⟩)]),
 (164, [(xs0a.c [] 0 0 0, ⟨(List (List Int × Int)), xs0a.mk⟩)]),
 (165, [(xs07.c [] 0 0 0, ⟨(List (List Int × Int)), xs07.mk⟩)])]
def tab : FuncId → List Cell → Tb := fun g cs => match assoc tabT g with | some l => pickT l cs | none => ⟨Unit, fun _ => (⟨.one, []⟩, [])⟩
end GoV

/- Equations of the program's functions (printed by wip/tools/emit.py). -/
namespace GoV
open Go Go.Proofs
set_option maxRecDepth 100000

noncomputable def laws_szWeightedS.q5 (v0 : List (List Int × Int)) (v1 : Int) (v2 : Int) : Option R := loopAtL E (callT E tab) 36 Try.f36 2 [.r, .r, .r, .l, .r, .b] (vc (.d .fro (.sl (.pair (.sl (.int .i64)) (.int .i64))) v0) :: vc (iL v1) :: nn 3 (vc (iL v2) :: nn 21 ([])))
noncomputable def laws_szWeightedS.l5 (v0 : List (List Int × Int)) (v1 : Int) (v2 : Int) : Option (Int) := tOf laws_szWeightedS.mk (laws_szWeightedS.q5 v0 v1 v2)
noncomputable def laws_szWeightedS.t {γ : Type} (ret : (Int) → Option γ) (lp5 : (List (List Int × Int)) → Int → Int → Option γ) (v0 : List (List Int × Int)) (v1 : Int) : Option γ :=
 bif decide (IntKind.i64.wrap (v1 - (↑v0.length : Int)) < (0 : Int)) then
  ret ((-1 : Int))
 else
  lp5 (v0) (IntKind.i64.wrap (v1 - (↑v0.length : Int))) ((0 : Int))
noncomputable def laws_szWeightedS.t5 {γ : Type} (ret : (Int) → Option γ) (lp5 : (List (List Int × Int)) → Int → Int → Option γ) (v0 : List (List Int × Int)) (v1 : Int) (v2 : Int) : Option γ :=
 bif decide (v2 < (↑v0.length : Int)) then
  bif decide ((0 : Int) ≤ v2) then
   bif decide (v2.toNat < v0.length) then
    (laws_szWeighted ((v0.getD v2.toNat ([], (0 : Int))).fst) ((v0.getD v2.toNat ([], (0 : Int))).snd) (v1)).bind fun (r0 : Int) =>
    bif decide (r0 < (0 : Int)) then
     ret ((-1 : Int))
    else
     lp5 (v0) (r0) (IntKind.i64.wrap (v2 + (1 : Int)))
   else
    none
  else
   none
 else
  ret (v1)
theorem laws_szWeightedS.k (v0 : List (List Int × Int)) (v1 : Int) : topL E (callT E tab) 36 Try.f36 (laws_szWeightedS.c v0 v1) = laws_szWeightedS.t (fun b => some (laws_szWeightedS.mk b)) laws_szWeightedS.q5 v0 v1 := by kernel_rfl
theorem laws_szWeightedS.k5 (v0 : List (List Int × Int)) (v1 : Int) (v2 : Int) : roundL E (callT E tab) 36 Try.f36 2 [.r, .r, .r, .l, .r, .b] (vc (.d .fro (.sl (.pair (.sl (.int .i64)) (.int .i64))) v0) :: vc (iL v1) :: nn 3 (vc (iL v2) :: nn 21 ([]))) = laws_szWeightedS.t5 (fun b => some (laws_szWeightedS.mk b)) laws_szWeightedS.q5 v0 v1 v2 := by kernel_rfl
theorem laws_szWeightedS.s (v0 : List (List Int × Int)) (v1 : Int) : Sub laws_szWeightedS.mk (laws_szWeightedS.t some laws_szWeightedS.l5 v0 v1) (laws_szWeightedS.t (fun b => some (laws_szWeightedS.mk b)) laws_szWeightedS.q5 v0 v1) := by
 unfold laws_szWeightedS.t
 repeat' first | exact Sub.ret | exact Sub.none | exact Sub.loop | apply Sub.cond | (apply Sub.bind; intro _)
theorem laws_szWeightedS.eq (v0 : List (List Int × Int)) (v1 : Int) {b : Int} (h : laws_szWeightedS.t some laws_szWeightedS.l5 v0 v1 = some b) : laws_szWeightedS v0 v1 = some b := tOf_intro laws_szWeightedS.un (fun _ => by kernel_rfl) (vlim_fn (callT_le E tab) rfl rfl rfl ((laws_szWeightedS.k v0 v1).trans (laws_szWeightedS.s v0 v1 b h)))
theorem laws_szWeightedS.s5 (v0 : List (List Int × Int)) (v1 : Int) (v2 : Int) : Sub laws_szWeightedS.mk (laws_szWeightedS.t5 some laws_szWeightedS.l5 v0 v1 v2) (laws_szWeightedS.t5 (fun b => some (laws_szWeightedS.mk b)) laws_szWeightedS.q5 v0 v1 v2) := by
 unfold laws_szWeightedS.t5
 repeat' first | exact Sub.ret | exact Sub.none | exact Sub.loop | apply Sub.cond | (apply Sub.bind; intro _)
theorem laws_szWeightedS.eq5 (v0 : List (List Int × Int)) (v1 : Int) (v2 : Int) {b : Int} (h : laws_szWeightedS.t5 some laws_szWeightedS.l5 v0 v1 v2 = some b) : laws_szWeightedS.l5 v0 v1 v2 = some b := tOf_intro laws_szWeightedS.un (fun _ => by kernel_rfl) (loopAtL_step ((laws_szWeightedS.k5 v0 v1 v2).trans (laws_szWeightedS.s5 v0 v1 v2 b h)))
noncomputable def laws_szWeighted.t {γ : Type} (ret : (Int) → Option γ) (v0 : List Int) (v1 : Int) (v2 : Int) : Option γ :=
 (laws_szRow (v0) (v2)).bind fun (r0 : Int) =>
 bif decide (r0 < (0 : Int)) then
  ret ((-1 : Int))
 else
  ret (r0)
theorem laws_szWeighted.k (v0 : List Int) (v1 : Int) (v2 : Int) : topL E (callT E tab) 83 Try.f83 (laws_szWeighted.c v0 v1 v2) = laws_szWeighted.t (fun b => some (laws_szWeighted.mk b)) v0 v1 v2 := by kernel_rfl
theorem laws_szWeighted.s (v0 : List Int) (v1 : Int) (v2 : Int) : Sub laws_szWeighted.mk (laws_szWeighted.t some v0 v1 v2) (laws_szWeighted.t (fun b => some (laws_szWeighted.mk b)) v0 v1 v2) := by
 unfold laws_szWeighted.t
 repeat' first | exact Sub.ret | exact Sub.none | exact Sub.loop | apply Sub.cond | (apply Sub.bind; intro _)
theorem laws_szWeighted.eq (v0 : List Int) (v1 : Int) (v2 : Int) {b : Int} (h : laws_szWeighted.t some v0 v1 v2 = some b) : laws_szWeighted v0 v1 v2 = some b := tOf_intro laws_szWeighted.un (fun _ => by kernel_rfl) (vlim_fn (callT_le E tab) rfl rfl rfl ((laws_szWeighted.k v0 v1 v2).trans (laws_szWeighted.s v0 v1 v2 b h)))
noncomputable def laws_szRow.t {γ : Type} (ret : (Int) → Option γ) (v0 : List Int) (v1 : Int) : Option γ :=
 (laws_szIntS (v0) (v1)).bind fun (r0 : Int) =>
 bif decide (r0 < (0 : Int)) then
  ret ((-1 : Int))
 else
  ret (r0)
theorem laws_szRow.k (v0 : List Int) (v1 : Int) : topL E (callT E tab) 123 Try.f123 (laws_szRow.c v0 v1) = laws_szRow.t (fun b => some (laws_szRow.mk b)) v0 v1 := by kernel_rfl
theorem laws_szRow.s (v0 : List Int) (v1 : Int) : Sub laws_szRow.mk (laws_szRow.t some v0 v1) (laws_szRow.t (fun b => some (laws_szRow.mk b)) v0 v1) := by
 unfold laws_szRow.t
 repeat' first | exact Sub.ret | exact Sub.none | exact Sub.loop | apply Sub.cond | (apply Sub.bind; intro _)
theorem laws_szRow.eq (v0 : List Int) (v1 : Int) {b : Int} (h : laws_szRow.t some v0 v1 = some b) : laws_szRow v0 v1 = some b := tOf_intro laws_szRow.un (fun _ => by kernel_rfl) (vlim_fn (callT_le E tab) rfl rfl rfl ((laws_szRow.k v0 v1).trans (laws_szRow.s v0 v1 b h)))
noncomputable def laws_szIntS.t {γ : Type} (ret : (Int) → Option γ) (v0 : List Int) (v1 : Int) : Option γ :=
 bif decide (IntKind.i64.wrap (v1 - (↑v0.length : Int)) < (0 : Int)) then
  ret ((-1 : Int))
 else
  ret (IntKind.i64.wrap (v1 - (↑v0.length : Int)))
theorem laws_szIntS.k (v0 : List Int) (v1 : Int) : topL E (callT E tab) 100 Try.f100 (laws_szIntS.c v0 v1) = laws_szIntS.t (fun b => some (laws_szIntS.mk b)) v0 v1 := by kernel_rfl
theorem laws_szIntS.s (v0 : List Int) (v1 : Int) : Sub laws_szIntS.mk (laws_szIntS.t some v0 v1) (laws_szIntS.t (fun b => some (laws_szIntS.mk b)) v0 v1) := by
 unfold laws_szIntS.t
 repeat' first | exact Sub.ret | exact Sub.none | exact Sub.loop | apply Sub.cond | (apply Sub.bind; intro _)
theorem laws_szIntS.eq (v0 : List Int) (v1 : Int) {b : Int} (h : laws_szIntS.t some v0 v1 = some b) : laws_szIntS v0 v1 = some b := tOf_intro laws_szIntS.un (fun _ => by kernel_rfl) (vlim_fn (callT_le E tab) rfl rfl rfl ((laws_szIntS.k v0 v1).trans (laws_szIntS.s v0 v1 b h)))
noncomputable def laws_toWeightedS.q3 (v0 : List (List Int × Int)) (v1 : List (List Int × Int)) (v2 : Int) : Option R := loopAtL E (callT E tab) 38 Try.f38 1 [.r, .r, .l, .r, .b] (vc (.d .fro (.sl (.pair (.sl (.int .i64)) (.int .i64))) v0) :: nn 2 (vc (.d .deep (.sl (.pair (.sl (.int .i64)) (.int .i64))) v1) :: vc (iL v2) :: nn 18 ([])))
noncomputable def laws_toWeightedS.l3 (v0 : List (List Int × Int)) (v1 : List (List Int × Int)) (v2 : Int) : Option ((List (List Int × Int))) := tOf laws_toWeightedS.mk (laws_toWeightedS.q3 v0 v1 v2)
noncomputable def laws_toWeightedS.t {γ : Type} (ret : ((List (List Int × Int))) → Option γ) (lp3 : (List (List Int × Int)) → (List (List Int × Int)) → Int → Option γ) (v0 : List (List Int × Int)) : Option γ :=
 bif decide ((↑v0.length : Int) = (↑v0.length : Int)) then
  bif decide ((↑v0.length : Int) ≤ (↑(4294967296 : Nat) : Int)) then
   lp3 (v0) (List.replicate (↑v0.length : Int).toNat ([], (0 : Int))) ((0 : Int))
  else
   none
 else
  none
noncomputable def laws_toWeightedS.t3 {γ : Type} (ret : ((List (List Int × Int))) → Option γ) (lp3 : (List (List Int × Int)) → (List (List Int × Int)) → Int → Option γ) (v0 : List (List Int × Int)) (v1 : List (List Int × Int)) (v2 : Int) : Option γ :=
 bif decide (v2 < (↑v0.length : Int)) then
  bif decide ((0 : Int) ≤ v2) then
   bif decide (v2.toNat < v0.length) then
    (laws_toWeighted ((v0.getD v2.toNat ([], (0 : Int))).fst) ((v0.getD v2.toNat ([], (0 : Int))).snd)).bind fun (r0 : (List Int) × Int) =>
    bif decide ((0 : Int) ≤ v2) then
     bif decide (v2.toNat < v1.length) then
      bif decide (v2.toNat < v1.length) then
       lp3 (v0) (v1.set v2.toNat (r0.fst, r0.snd)) (IntKind.i64.wrap (v2 + (1 : Int)))
      else
       none
     else
      none
    else
     none
   else
    none
  else
   none
 else
  ret (v1)
theorem laws_toWeightedS.k (v0 : List (List Int × Int)) : topL E (callT E tab) 38 Try.f38 (laws_toWeightedS.c v0) = laws_toWeightedS.t (fun b => some (laws_toWeightedS.mk b)) laws_toWeightedS.q3 v0 := by kernel_rfl
theorem laws_toWeightedS.k3 (v0 : List (List Int × Int)) (v1 : List (List Int × Int)) (v2 : Int) : roundL E (callT E tab) 38 Try.f38 1 [.r, .r, .l, .r, .b] (vc (.d .fro (.sl (.pair (.sl (.int .i64)) (.int .i64))) v0) :: nn 2 (vc (.d .deep (.sl (.pair (.sl (.int .i64)) (.int .i64))) v1) :: vc (iL v2) :: nn 18 ([]))) = laws_toWeightedS.t3 (fun b => some (laws_toWeightedS.mk b)) laws_toWeightedS.q3 v0 v1 v2 := by kernel_rfl
theorem laws_toWeightedS.s (v0 : List (List Int × Int)) : Sub laws_toWeightedS.mk (laws_toWeightedS.t some laws_toWeightedS.l3 v0) (laws_toWeightedS.t (fun b => some (laws_toWeightedS.mk b)) laws_toWeightedS.q3 v0) := by
 unfold laws_toWeightedS.t
 repeat' first | exact Sub.ret | exact Sub.none | exact Sub.loop | apply Sub.cond | (apply Sub.bind; intro _)
theorem laws_toWeightedS.eq (v0 : List (List Int × Int)) {b : (List (List Int × Int))} (h : laws_toWeightedS.t some laws_toWeightedS.l3 v0 = some b) : laws_toWeightedS v0 = some b := tOf_intro laws_toWeightedS.un (fun _ => by kernel_rfl) (vlim_fn (callT_le E tab) rfl rfl rfl ((laws_toWeightedS.k v0).trans (laws_toWeightedS.s v0 b h)))
theorem laws_toWeightedS.s3 (v0 : List (List Int × Int)) (v1 : List (List Int × Int)) (v2 : Int) : Sub laws_toWeightedS.mk (laws_toWeightedS.t3 some laws_toWeightedS.l3 v0 v1 v2) (laws_toWeightedS.t3 (fun b => some (laws_toWeightedS.mk b)) laws_toWeightedS.q3 v0 v1 v2) := by
 unfold laws_toWeightedS.t3
 repeat' first | exact Sub.ret | exact Sub.none | exact Sub.loop | apply Sub.cond | (apply Sub.bind; intro _)
theorem laws_toWeightedS.eq3 (v0 : List (List Int × Int)) (v1 : List (List Int × Int)) (v2 : Int) {b : (List (List Int × Int))} (h : laws_toWeightedS.t3 some laws_toWeightedS.l3 v0 v1 v2 = some b) : laws_toWeightedS.l3 v0 v1 v2 = some b := tOf_intro laws_toWeightedS.un (fun _ => by kernel_rfl) (loopAtL_step ((laws_toWeightedS.k3 v0 v1 v2).trans (laws_toWeightedS.s3 v0 v1 v2 b h)))
noncomputable def laws_toWeighted.t {γ : Type} (ret : ((List Int) × Int) → Option γ) (v0 : List Int) (v1 : Int) : Option γ :=
 (laws_toRow (v0)).bind fun (r0 : (List Int)) =>
 ret (r0, v1)
theorem laws_toWeighted.k (v0 : List Int) (v1 : Int) : topL E (callT E tab) 87 Try.f87 (laws_toWeighted.c v0 v1) = laws_toWeighted.t (fun b => some (laws_toWeighted.mk b)) v0 v1 := by kernel_rfl
theorem laws_toWeighted.s (v0 : List Int) (v1 : Int) : Sub laws_toWeighted.mk (laws_toWeighted.t some v0 v1) (laws_toWeighted.t (fun b => some (laws_toWeighted.mk b)) v0 v1) := by
 unfold laws_toWeighted.t
 repeat' first | exact Sub.ret | exact Sub.none | exact Sub.loop | apply Sub.cond | (apply Sub.bind; intro _)
theorem laws_toWeighted.eq (v0 : List Int) (v1 : Int) {b : (List Int) × Int} (h : laws_toWeighted.t some v0 v1 = some b) : laws_toWeighted v0 v1 = some b := tOf_intro laws_toWeighted.un (fun _ => by kernel_rfl) (vlim_fn (callT_le E tab) rfl rfl rfl ((laws_toWeighted.k v0 v1).trans (laws_toWeighted.s v0 v1 b h)))
noncomputable def laws_toRow.t {γ : Type} (ret : ((List Int)) → Option γ) (v0 : List Int) : Option γ :=
 (laws_toIntS (v0)).bind fun (r0 : (List Int)) =>
 ret (r0)
theorem laws_toRow.k (v0 : List Int) : topL E (callT E tab) 124 Try.f124 (laws_toRow.c v0) = laws_toRow.t (fun b => some (laws_toRow.mk b)) v0 := by kernel_rfl
theorem laws_toRow.s (v0 : List Int) : Sub laws_toRow.mk (laws_toRow.t some v0) (laws_toRow.t (fun b => some (laws_toRow.mk b)) v0) := by
 unfold laws_toRow.t
 repeat' first | exact Sub.ret | exact Sub.none | exact Sub.loop | apply Sub.cond | (apply Sub.bind; intro _)
theorem laws_toRow.eq (v0 : List Int) {b : (List Int)} (h : laws_toRow.t some v0 = some b) : laws_toRow v0 = some b := tOf_intro laws_toRow.un (fun _ => by kernel_rfl) (vlim_fn (callT_le E tab) rfl rfl rfl ((laws_toRow.k v0).trans (laws_toRow.s v0 b h)))
noncomputable def laws_toIntS.q3 (v0 : List Int) (v1 : List Int) (v2 : Int) : Option R := loopAtL E (callT E tab) 45 Try.f45 1 [.r, .r, .l, .r, .b] (vc (.d .fro (.sl (.int .i64)) v0) :: nn 2 (vc (.d .deep (.sl (.int .i64)) v1) :: vc (iL v2) :: nn 17 ([])))
noncomputable def laws_toIntS.l3 (v0 : List Int) (v1 : List Int) (v2 : Int) : Option ((List Int)) := tOf laws_toIntS.mk (laws_toIntS.q3 v0 v1 v2)
noncomputable def laws_toIntS.t {γ : Type} (ret : ((List Int)) → Option γ) (lp3 : (List Int) → (List Int) → Int → Option γ) (v0 : List Int) : Option γ :=
 bif decide ((↑v0.length : Int) = (↑v0.length : Int)) then
  bif decide ((↑v0.length : Int) ≤ (↑(4294967296 : Nat) : Int)) then
   lp3 (v0) (List.replicate (↑v0.length : Int).toNat (0 : Int)) ((0 : Int))
  else
   none
 else
  none
noncomputable def laws_toIntS.t3 {γ : Type} (ret : ((List Int)) → Option γ) (lp3 : (List Int) → (List Int) → Int → Option γ) (v0 : List Int) (v1 : List Int) (v2 : Int) : Option γ :=
 bif decide (v2 < (↑v0.length : Int)) then
  bif decide ((0 : Int) ≤ v2) then
   bif decide (v2.toNat < v0.length) then
    bif decide ((0 : Int) ≤ v2) then
     bif decide (v2.toNat < v1.length) then
      bif decide (v2.toNat < v1.length) then
       lp3 (v0) (v1.set v2.toNat (v0.getD v2.toNat (0 : Int))) (IntKind.i64.wrap (v2 + (1 : Int)))
      else
       none
     else
      none
    else
     none
   else
    none
  else
   none
 else
  ret (v1)
theorem laws_toIntS.k (v0 : List Int) : topL E (callT E tab) 45 Try.f45 (laws_toIntS.c v0) = laws_toIntS.t (fun b => some (laws_toIntS.mk b)) laws_toIntS.q3 v0 := by kernel_rfl
theorem laws_toIntS.k3 (v0 : List Int) (v1 : List Int) (v2 : Int) : roundL E (callT E tab) 45 Try.f45 1 [.r, .r, .l, .r, .b] (vc (.d .fro (.sl (.int .i64)) v0) :: nn 2 (vc (.d .deep (.sl (.int .i64)) v1) :: vc (iL v2) :: nn 17 ([]))) = laws_toIntS.t3 (fun b => some (laws_toIntS.mk b)) laws_toIntS.q3 v0 v1 v2 := by kernel_rfl
theorem laws_toIntS.s (v0 : List Int) : Sub laws_toIntS.mk (laws_toIntS.t some laws_toIntS.l3 v0) (laws_toIntS.t (fun b => some (laws_toIntS.mk b)) laws_toIntS.q3 v0) := by
 unfold laws_toIntS.t
 repeat' first | exact Sub.ret | exact Sub.none | exact Sub.loop | apply Sub.cond | (apply Sub.bind; intro _)
theorem laws_toIntS.eq (v0 : List Int) {b : (List Int)} (h : laws_toIntS.t some laws_toIntS.l3 v0 = some b) : laws_toIntS v0 = some b := tOf_intro laws_toIntS.un (fun _ => by kernel_rfl) (vlim_fn (callT_le E tab) rfl rfl rfl ((laws_toIntS.k v0).trans (laws_toIntS.s v0 b h)))
theorem laws_toIntS.s3 (v0 : List Int) (v1 : List Int) (v2 : Int) : Sub laws_toIntS.mk (laws_toIntS.t3 some laws_toIntS.l3 v0 v1 v2) (laws_toIntS.t3 (fun b => some (laws_toIntS.mk b)) laws_toIntS.q3 v0 v1 v2) := by
 unfold laws_toIntS.t3
 repeat' first | exact Sub.ret | exact Sub.none | exact Sub.loop | apply Sub.cond | (apply Sub.bind; intro _)
theorem laws_toIntS.eq3 (v0 : List Int) (v1 : List Int) (v2 : Int) {b : (List Int)} (h : laws_toIntS.t3 some laws_toIntS.l3 v0 v1 v2 = some b) : laws_toIntS.l3 v0 v1 v2 = some b := tOf_intro laws_toIntS.un (fun _ => by kernel_rfl) (loopAtL_step ((laws_toIntS.k3 v0 v1 v2).trans (laws_toIntS.s3 v0 v1 v2 b h)))
noncomputable def spec_l1In.t {γ : Type} (ret : (Bool) → Option γ) (v0 : Int) (v1 : Int) (v2 : Int) : Option γ :=
 bif decide (v0 ≥ v1) then
  ret (decide (v0 ≤ v2))
 else
  ret (Bool.false)
theorem spec_l1In.k (v0 : Int) (v1 : Int) (v2 : Int) : topL E (callT E tab) 65 Try.f65 (spec_l1In.c v0 v1 v2) = spec_l1In.t (fun b => some (spec_l1In.mk b)) v0 v1 v2 := by kernel_rfl
theorem spec_l1In.s (v0 : Int) (v1 : Int) (v2 : Int) : Sub spec_l1In.mk (spec_l1In.t some v0 v1 v2) (spec_l1In.t (fun b => some (spec_l1In.mk b)) v0 v1 v2) := by
 unfold spec_l1In.t
 repeat' first | exact Sub.ret | exact Sub.none | exact Sub.loop | apply Sub.cond | (apply Sub.bind; intro _)
theorem spec_l1In.eq (v0 : Int) (v1 : Int) (v2 : Int) {b : Bool} (h : spec_l1In.t some v0 v1 v2 = some b) : spec_l1In v0 v1 v2 = some b := tOf_intro spec_l1In.un (fun _ => by kernel_rfl) (vlim_fn (callT_le E tab) rfl rfl rfl ((spec_l1In.k v0 v1 v2).trans (spec_l1In.s v0 v1 v2 b h)))
noncomputable def spec_GoodRow.q2 (v0 : List Int) (v1 : List Int) (v2 : Int) (v3 : Int) : Option R := loopAtL E (callT E tab) 84 Try.f84 1 [.r, .l, .r, .b] (nn 1 (⟨(.box false), [.d .fro (.sl (.int .i64)) v0], false, false, false, 0, 0⟩ :: nn 4 (vc (.d .fro (.sl (.int .i64)) v1) :: vc (iL v2) :: vc (iL v3) :: nn 11 ([]))))
noncomputable def spec_GoodRow.l2 (v0 : List Int) (v1 : List Int) (v2 : Int) (v3 : Int) : Option (Bool) := tOf spec_GoodRow.mk (spec_GoodRow.q2 v0 v1 v2 v3)
noncomputable def spec_GoodRow.t {γ : Type} (ret : (Bool) → Option γ) (lp2 : (List Int) → (List Int) → Int → Int → Option γ) (v0 : List Int) : Option γ :=
 lp2 (v0) (v0) ((↑v0.length : Int)) ((0 : Int))
noncomputable def spec_GoodRow.t2 {γ : Type} (ret : (Bool) → Option γ) (lp2 : (List Int) → (List Int) → Int → Int → Option γ) (v0 : List Int) (v1 : List Int) (v2 : Int) (v3 : Int) : Option γ :=
 bif decide (v3 < v2) then
  bif decide ((0 : Int) ≤ v3) then
   bif decide (v3.toNat < v1.length) then
    (spec_l1In (v1.getD v3.toNat (0 : Int)) ((-100000 : Int)) ((100000 : Int))).bind fun (r0 : Bool) =>
    bif !r0 then
     ret (Bool.false)
    else
     lp2 (v0) (v1) (v2) (IntKind.i64.wrap (v3 + (1 : Int)))
   else
    none
  else
   none
 else
  ret (decide ((↑v0.length : Int) ≤ (6 : Int)))
theorem spec_GoodRow.k (v0 : List Int) : topL E (callT E tab) 84 Try.f84 (spec_GoodRow.c v0) = spec_GoodRow.t (fun b => some (spec_GoodRow.mk b)) spec_GoodRow.q2 v0 := by kernel_rfl
theorem spec_GoodRow.k2 (v0 : List Int) (v1 : List Int) (v2 : Int) (v3 : Int) : roundL E (callT E tab) 84 Try.f84 1 [.r, .l, .r, .b] (nn 1 (⟨(.box false), [.d .fro (.sl (.int .i64)) v0], false, false, false, 0, 0⟩ :: nn 4 (vc (.d .fro (.sl (.int .i64)) v1) :: vc (iL v2) :: vc (iL v3) :: nn 11 ([])))) = spec_GoodRow.t2 (fun b => some (spec_GoodRow.mk b)) spec_GoodRow.q2 v0 v1 v2 v3 := by kernel_rfl
theorem spec_GoodRow.s (v0 : List Int) : Sub spec_GoodRow.mk (spec_GoodRow.t some spec_GoodRow.l2 v0) (spec_GoodRow.t (fun b => some (spec_GoodRow.mk b)) spec_GoodRow.q2 v0) := by
 unfold spec_GoodRow.t
 repeat' first | exact Sub.ret | exact Sub.none | exact Sub.loop | apply Sub.cond | (apply Sub.bind; intro _)
theorem spec_GoodRow.eq (v0 : List Int) {b : Bool} (h : spec_GoodRow.t some spec_GoodRow.l2 v0 = some b) : spec_GoodRow v0 = some b := tOf_intro spec_GoodRow.un (fun _ => by kernel_rfl) (vlim_fn (callT_le E tab) rfl rfl rfl ((spec_GoodRow.k v0).trans (spec_GoodRow.s v0 b h)))
theorem spec_GoodRow.s2 (v0 : List Int) (v1 : List Int) (v2 : Int) (v3 : Int) : Sub spec_GoodRow.mk (spec_GoodRow.t2 some spec_GoodRow.l2 v0 v1 v2 v3) (spec_GoodRow.t2 (fun b => some (spec_GoodRow.mk b)) spec_GoodRow.q2 v0 v1 v2 v3) := by
 unfold spec_GoodRow.t2
 repeat' first | exact Sub.ret | exact Sub.none | exact Sub.loop | apply Sub.cond | (apply Sub.bind; intro _)
theorem spec_GoodRow.eq2 (v0 : List Int) (v1 : List Int) (v2 : Int) (v3 : Int) {b : Bool} (h : spec_GoodRow.t2 some spec_GoodRow.l2 v0 v1 v2 v3 = some b) : spec_GoodRow.l2 v0 v1 v2 v3 = some b := tOf_intro spec_GoodRow.un (fun _ => by kernel_rfl) (loopAtL_step ((spec_GoodRow.k2 v0 v1 v2 v3).trans (spec_GoodRow.s2 v0 v1 v2 v3 b h)))
noncomputable def spec_l2Weight.t {γ : Type} (ret : (Bool) → Option γ) (v0 : Int) : Option γ :=
 (spec_l1In (v0) ((-1000000 : Int)) ((1000000 : Int))).bind fun (r0 : Bool) =>
 ret (r0)
theorem spec_l2Weight.k (v0 : Int) : topL E (callT E tab) 85 Try.f85 (spec_l2Weight.c v0) = spec_l2Weight.t (fun b => some (spec_l2Weight.mk b)) v0 := by kernel_rfl
theorem spec_l2Weight.s (v0 : Int) : Sub spec_l2Weight.mk (spec_l2Weight.t some v0) (spec_l2Weight.t (fun b => some (spec_l2Weight.mk b)) v0) := by
 unfold spec_l2Weight.t
 repeat' first | exact Sub.ret | exact Sub.none | exact Sub.loop | apply Sub.cond | (apply Sub.bind; intro _)
theorem spec_l2Weight.eq (v0 : Int) {b : Bool} (h : spec_l2Weight.t some v0 = some b) : spec_l2Weight v0 = some b := tOf_intro spec_l2Weight.un (fun _ => by kernel_rfl) (vlim_fn (callT_le E tab) rfl rfl rfl ((spec_l2Weight.k v0).trans (spec_l2Weight.s v0 b h)))
noncomputable def spec_l2Put.q2 (v0 : List (List Int × Int)) (v1 : Int) (v2 : List Int) (v3 : Int) : Option R := loopAtL E (callT E tab) 86 Try.f86 3 [.r, .r, .l, .b] (vc (.d .fro (.sl (.pair (.sl (.int .i64)) (.int .i64))) v0) :: nn 1 (vc (iL v1) :: nn 1 (⟨(.box false), [.d .fro (.sl (.int .i64)) v2], false, false, false, 0, 0⟩ :: nn 2 (vc (iL v3) :: nn 64 ([])))))
noncomputable def spec_l2Put.l2 (v0 : List (List Int × Int)) (v1 : Int) (v2 : List Int) (v3 : Int) : Option ((List (List Int × Int))) := tOf spec_l2Put.mk (spec_l2Put.q2 v0 v1 v2 v3)
noncomputable def spec_l2Put.t {γ : Type} (ret : ((List (List Int × Int))) → Option γ) (lp2 : (List (List Int × Int)) → Int → (List Int) → Int → Option γ) (v0 : List (List Int × Int)) (v1 : List Int) (v2 : Int) : Option γ :=
 lp2 (v0) (v2) (v1) ((0 : Int))
noncomputable def spec_l2Put.t2 {γ : Type} (ret : ((List (List Int × Int))) → Option γ) (lp2 : (List (List Int × Int)) → Int → (List Int) → Int → Option γ) (v0 : List (List Int × Int)) (v1 : Int) (v2 : List Int) (v3 : Int) : Option γ :=
 bif decide (v3 < (↑v0.length : Int)) then
  bif decide ((0 : Int) ≤ v3) then
   bif decide (v3.toNat < v0.length) then
    (spec_l1Compare ((v0.getD v3.toNat ([], (0 : Int))).fst) (v2)).bind fun (r0 : Int) =>
    bif decide (r0 < (0 : Int)) then
     lp2 (v0) (v1) (v2) (IntKind.i64.wrap (v3 + (1 : Int)))
    else
     bif decide (Option.none.getD (0 : Int) ≤ v3) then
      bif decide (v3 ≤ (↑v0.length : Int)) then
       bif decide   ((List.take (v3 - Option.none.getD (0 : Int)).toNat (List.drop (Option.none.getD (0 : Int)).toNat v0)).length ≤     (4294967296 : Nat)) then
        (spec_l2OwnRow (v2)).bind fun (r1 : (List Int)) =>
        bif decide (v3 < (↑v0.length : Int)) then
         bif decide ((0 : Int) ≤ v3) then
          bif decide (v3.toNat < v0.length) then
           (spec_l1Compare ((v0.getD v3.toNat ([], (0 : Int))).fst) (v2)).bind fun (r2 : Int) =>
           bif r2 == (0 : Int) then
            bif decide ((0 : Int) ≤ v3) then
             bif decide (v3.toNat < v0.length) then
              bif IntKind.i64.wrap (v1 + (v0.getD v3.toNat ([], (0 : Int))).snd) != (0 : Int) then
               bif decide   ((List.take (v3 - Option.none.getD (0 : Int)).toNat (List.drop (Option.none.getD (0 : Int)).toNat v0)).length +       [(r1, IntKind.i64.wrap (v1 + (v0.getD v3.toNat ([], (0 : Int))).snd))].length ≤     (4294967296 : Nat)) then
                bif decide ((0 : Int) ≤ (Option.some (IntKind.i64.wrap (v3 + (1 : Int)))).getD (0 : Int)) then
                 bif decide ((Option.some (IntKind.i64.wrap (v3 + (1 : Int)))).getD (0 : Int) ≤ (↑v0.length : Int)) then
                  bif decide   ((List.take (v3 - Option.none.getD (0 : Int)).toNat (List.drop (Option.none.getD (0 : Int)).toNat v0) ++           [(r1, IntKind.i64.wrap (v1 + (v0.getD v3.toNat ([], (0 : Int))).snd))]).length +       (List.drop ((Option.some (IntKind.i64.wrap (v3 + (1 : Int)))).getD (0 : Int)).toNat v0).length ≤     (4294967296 : Nat)) then
                   ret (List.take (v3 - Option.none.getD (0 : Int)).toNat (List.drop (Option.none.getD (0 : Int)).toNat v0) ++     [(r1, IntKind.i64.wrap (v1 + (v0.getD v3.toNat ([], (0 : Int))).snd))] ++   List.drop ((Option.some (IntKind.i64.wrap (v3 + (1 : Int)))).getD (0 : Int)).toNat v0)
                  else
                   none
                 else
                  none
                else
                 none
               else
                none
              else
               bif decide ((0 : Int) ≤ (Option.some (IntKind.i64.wrap (v3 + (1 : Int)))).getD (0 : Int)) then
                bif decide ((Option.some (IntKind.i64.wrap (v3 + (1 : Int)))).getD (0 : Int) ≤ (↑v0.length : Int)) then
                 bif decide   ((List.take (v3 - Option.none.getD (0 : Int)).toNat (List.drop (Option.none.getD (0 : Int)).toNat v0)).length +       (List.drop ((Option.some (IntKind.i64.wrap (v3 + (1 : Int)))).getD (0 : Int)).toNat v0).length ≤     (4294967296 : Nat)) then
                  ret (List.take (v3 - Option.none.getD (0 : Int)).toNat (List.drop (Option.none.getD (0 : Int)).toNat v0) ++   List.drop ((Option.some (IntKind.i64.wrap (v3 + (1 : Int)))).getD (0 : Int)).toNat v0)
                 else
                  none
                else
                 none
               else
                none
             else
              none
            else
             none
           else
            bif v1 != (0 : Int) then
             bif decide   ((List.take (v3 - Option.none.getD (0 : Int)).toNat (List.drop (Option.none.getD (0 : Int)).toNat v0)).length +       [(r1, v1)].length ≤     (4294967296 : Nat)) then
              bif decide ((0 : Int) ≤ (Option.some v3).getD (0 : Int)) then
               bif decide ((Option.some v3).getD (0 : Int) ≤ (↑v0.length : Int)) then
                bif decide   ((List.take (v3 - Option.none.getD (0 : Int)).toNat (List.drop (Option.none.getD (0 : Int)).toNat v0) ++           [(r1, v1)]).length +       (List.drop ((Option.some v3).getD (0 : Int)).toNat v0).length ≤     (4294967296 : Nat)) then
                 ret (List.take (v3 - Option.none.getD (0 : Int)).toNat (List.drop (Option.none.getD (0 : Int)).toNat v0) ++ [(r1, v1)] ++   List.drop ((Option.some v3).getD (0 : Int)).toNat v0)
                else
                 none
               else
                none
              else
               none
             else
              none
            else
             bif decide ((0 : Int) ≤ (Option.some v3).getD (0 : Int)) then
              bif decide ((Option.some v3).getD (0 : Int) ≤ (↑v0.length : Int)) then
               bif decide   ((List.take (v3 - Option.none.getD (0 : Int)).toNat (List.drop (Option.none.getD (0 : Int)).toNat v0)).length +       (List.drop ((Option.some v3).getD (0 : Int)).toNat v0).length ≤     (4294967296 : Nat)) then
                ret (List.take (v3 - Option.none.getD (0 : Int)).toNat (List.drop (Option.none.getD (0 : Int)).toNat v0) ++   List.drop ((Option.some v3).getD (0 : Int)).toNat v0)
               else
                none
              else
               none
             else
              none
          else
           none
         else
          none
        else
         bif v1 != (0 : Int) then
          bif decide   ((List.take (v3 - Option.none.getD (0 : Int)).toNat (List.drop (Option.none.getD (0 : Int)).toNat v0)).length +       [(r1, v1)].length ≤     (4294967296 : Nat)) then
           bif decide ((0 : Int) ≤ (Option.some v3).getD (0 : Int)) then
            bif decide ((Option.some v3).getD (0 : Int) ≤ (↑v0.length : Int)) then
             bif decide   ((List.take (v3 - Option.none.getD (0 : Int)).toNat (List.drop (Option.none.getD (0 : Int)).toNat v0) ++           [(r1, v1)]).length +       (List.drop ((Option.some v3).getD (0 : Int)).toNat v0).length ≤     (4294967296 : Nat)) then
              ret (List.take (v3 - Option.none.getD (0 : Int)).toNat (List.drop (Option.none.getD (0 : Int)).toNat v0) ++ [(r1, v1)] ++   List.drop ((Option.some v3).getD (0 : Int)).toNat v0)
             else
              none
            else
             none
           else
            none
          else
           none
         else
          bif decide ((0 : Int) ≤ (Option.some v3).getD (0 : Int)) then
           bif decide ((Option.some v3).getD (0 : Int) ≤ (↑v0.length : Int)) then
            bif decide   ((List.take (v3 - Option.none.getD (0 : Int)).toNat (List.drop (Option.none.getD (0 : Int)).toNat v0)).length +       (List.drop ((Option.some v3).getD (0 : Int)).toNat v0).length ≤     (4294967296 : Nat)) then
             ret (List.take (v3 - Option.none.getD (0 : Int)).toNat (List.drop (Option.none.getD (0 : Int)).toNat v0) ++   List.drop ((Option.some v3).getD (0 : Int)).toNat v0)
            else
             none
           else
            none
          else
           none
       else
        none
      else
       none
     else
      none
   else
    none
  else
   none
 else
  bif decide (Option.none.getD (0 : Int) ≤ v3) then
   bif decide (v3 ≤ (↑v0.length : Int)) then
    bif decide   ((List.take (v3 - Option.none.getD (0 : Int)).toNat (List.drop (Option.none.getD (0 : Int)).toNat v0)).length ≤     (4294967296 : Nat)) then
     (spec_l2OwnRow (v2)).bind fun (r3 : (List Int)) =>
     bif decide (v3 < (↑v0.length : Int)) then
      bif decide ((0 : Int) ≤ v3) then
       bif decide (v3.toNat < v0.length) then
        (spec_l1Compare ((v0.getD v3.toNat ([], (0 : Int))).fst) (v2)).bind fun (r4 : Int) =>
        bif r4 == (0 : Int) then
         bif decide ((0 : Int) ≤ v3) then
          bif decide (v3.toNat < v0.length) then
           bif IntKind.i64.wrap (v1 + (v0.getD v3.toNat ([], (0 : Int))).snd) != (0 : Int) then
            bif decide   ((List.take (v3 - Option.none.getD (0 : Int)).toNat (List.drop (Option.none.getD (0 : Int)).toNat v0)).length +       [(r3, IntKind.i64.wrap (v1 + (v0.getD v3.toNat ([], (0 : Int))).snd))].length ≤     (4294967296 : Nat)) then
             bif decide ((0 : Int) ≤ (Option.some (IntKind.i64.wrap (v3 + (1 : Int)))).getD (0 : Int)) then
              bif decide ((Option.some (IntKind.i64.wrap (v3 + (1 : Int)))).getD (0 : Int) ≤ (↑v0.length : Int)) then
               bif decide   ((List.take (v3 - Option.none.getD (0 : Int)).toNat (List.drop (Option.none.getD (0 : Int)).toNat v0) ++           [(r3, IntKind.i64.wrap (v1 + (v0.getD v3.toNat ([], (0 : Int))).snd))]).length +       (List.drop ((Option.some (IntKind.i64.wrap (v3 + (1 : Int)))).getD (0 : Int)).toNat v0).length ≤     (4294967296 : Nat)) then
                ret (List.take (v3 - Option.none.getD (0 : Int)).toNat (List.drop (Option.none.getD (0 : Int)).toNat v0) ++     [(r3, IntKind.i64.wrap (v1 + (v0.getD v3.toNat ([], (0 : Int))).snd))] ++   List.drop ((Option.some (IntKind.i64.wrap (v3 + (1 : Int)))).getD (0 : Int)).toNat v0)
               else
                none
              else
               none
             else
              none
            else
             none
           else
            bif decide ((0 : Int) ≤ (Option.some (IntKind.i64.wrap (v3 + (1 : Int)))).getD (0 : Int)) then
             bif decide ((Option.some (IntKind.i64.wrap (v3 + (1 : Int)))).getD (0 : Int) ≤ (↑v0.length : Int)) then
              bif decide   ((List.take (v3 - Option.none.getD (0 : Int)).toNat (List.drop (Option.none.getD (0 : Int)).toNat v0)).length +       (List.drop ((Option.some (IntKind.i64.wrap (v3 + (1 : Int)))).getD (0 : Int)).toNat v0).length ≤     (4294967296 : Nat)) then
               ret (List.take (v3 - Option.none.getD (0 : Int)).toNat (List.drop (Option.none.getD (0 : Int)).toNat v0) ++   List.drop ((Option.some (IntKind.i64.wrap (v3 + (1 : Int)))).getD (0 : Int)).toNat v0)
              else
               none
             else
              none
            else
             none
          else
           none
         else
          none
        else
         bif v1 != (0 : Int) then
          bif decide   ((List.take (v3 - Option.none.getD (0 : Int)).toNat (List.drop (Option.none.getD (0 : Int)).toNat v0)).length +       [(r3, v1)].length ≤     (4294967296 : Nat)) then
           bif decide ((0 : Int) ≤ (Option.some v3).getD (0 : Int)) then
            bif decide ((Option.some v3).getD (0 : Int) ≤ (↑v0.length : Int)) then
             bif decide   ((List.take (v3 - Option.none.getD (0 : Int)).toNat (List.drop (Option.none.getD (0 : Int)).toNat v0) ++           [(r3, v1)]).length +       (List.drop ((Option.some v3).getD (0 : Int)).toNat v0).length ≤     (4294967296 : Nat)) then
              ret (List.take (v3 - Option.none.getD (0 : Int)).toNat (List.drop (Option.none.getD (0 : Int)).toNat v0) ++ [(r3, v1)] ++   List.drop ((Option.some v3).getD (0 : Int)).toNat v0)
             else
              none
            else
             none
           else
            none
          else
           none
         else
          bif decide ((0 : Int) ≤ (Option.some v3).getD (0 : Int)) then
           bif decide ((Option.some v3).getD (0 : Int) ≤ (↑v0.length : Int)) then
            bif decide   ((List.take (v3 - Option.none.getD (0 : Int)).toNat (List.drop (Option.none.getD (0 : Int)).toNat v0)).length +       (List.drop ((Option.some v3).getD (0 : Int)).toNat v0).length ≤     (4294967296 : Nat)) then
             ret (List.take (v3 - Option.none.getD (0 : Int)).toNat (List.drop (Option.none.getD (0 : Int)).toNat v0) ++   List.drop ((Option.some v3).getD (0 : Int)).toNat v0)
            else
             none
           else
            none
          else
           none
       else
        none
      else
       none
     else
      bif v1 != (0 : Int) then
       bif decide   ((List.take (v3 - Option.none.getD (0 : Int)).toNat (List.drop (Option.none.getD (0 : Int)).toNat v0)).length +       [(r3, v1)].length ≤     (4294967296 : Nat)) then
        bif decide ((0 : Int) ≤ (Option.some v3).getD (0 : Int)) then
         bif decide ((Option.some v3).getD (0 : Int) ≤ (↑v0.length : Int)) then
          bif decide   ((List.take (v3 - Option.none.getD (0 : Int)).toNat (List.drop (Option.none.getD (0 : Int)).toNat v0) ++           [(r3, v1)]).length +       (List.drop ((Option.some v3).getD (0 : Int)).toNat v0).length ≤     (4294967296 : Nat)) then
           ret (List.take (v3 - Option.none.getD (0 : Int)).toNat (List.drop (Option.none.getD (0 : Int)).toNat v0) ++ [(r3, v1)] ++   List.drop ((Option.some v3).getD (0 : Int)).toNat v0)
          else
           none
         else
          none
        else
         none
       else
        none
      else
       bif decide ((0 : Int) ≤ (Option.some v3).getD (0 : Int)) then
        bif decide ((Option.some v3).getD (0 : Int) ≤ (↑v0.length : Int)) then
         bif decide   ((List.take (v3 - Option.none.getD (0 : Int)).toNat (List.drop (Option.none.getD (0 : Int)).toNat v0)).length +       (List.drop ((Option.some v3).getD (0 : Int)).toNat v0).length ≤     (4294967296 : Nat)) then
          ret (List.take (v3 - Option.none.getD (0 : Int)).toNat (List.drop (Option.none.getD (0 : Int)).toNat v0) ++   List.drop ((Option.some v3).getD (0 : Int)).toNat v0)
         else
          none
        else
         none
       else
        none
    else
     none
   else
    none
  else
   none
theorem spec_l2Put.k (v0 : List (List Int × Int)) (v1 : List Int) (v2 : Int) : topL E (callT E tab) 86 Try.f86 (spec_l2Put.c v0 v1 v2) = spec_l2Put.t (fun b => some (spec_l2Put.mk b)) spec_l2Put.q2 v0 v1 v2 := by kernel_rfl
theorem spec_l2Put.k2 (v0 : List (List Int × Int)) (v1 : Int) (v2 : List Int) (v3 : Int) : roundL E (callT E tab) 86 Try.f86 3 [.r, .r, .l, .b] (vc (.d .fro (.sl (.pair (.sl (.int .i64)) (.int .i64))) v0) :: nn 1 (vc (iL v1) :: nn 1 (⟨(.box false), [.d .fro (.sl (.int .i64)) v2], false, false, false, 0, 0⟩ :: nn 2 (vc (iL v3) :: nn 64 ([]))))) = spec_l2Put.t2 (fun b => some (spec_l2Put.mk b)) spec_l2Put.q2 v0 v1 v2 v3 := by kernel_rfl
theorem spec_l2Put.s (v0 : List (List Int × Int)) (v1 : List Int) (v2 : Int) : Sub spec_l2Put.mk (spec_l2Put.t some spec_l2Put.l2 v0 v1 v2) (spec_l2Put.t (fun b => some (spec_l2Put.mk b)) spec_l2Put.q2 v0 v1 v2) := by
 unfold spec_l2Put.t
 repeat' first | exact Sub.ret | exact Sub.none | exact Sub.loop | apply Sub.cond | (apply Sub.bind; intro _)
theorem spec_l2Put.eq (v0 : List (List Int × Int)) (v1 : List Int) (v2 : Int) {b : (List (List Int × Int))} (h : spec_l2Put.t some spec_l2Put.l2 v0 v1 v2 = some b) : spec_l2Put v0 v1 v2 = some b := tOf_intro spec_l2Put.un (fun _ => by kernel_rfl) (vlim_fn (callT_le E tab) rfl rfl rfl ((spec_l2Put.k v0 v1 v2).trans (spec_l2Put.s v0 v1 v2 b h)))
theorem spec_l2Put.s2 (v0 : List (List Int × Int)) (v1 : Int) (v2 : List Int) (v3 : Int) : Sub spec_l2Put.mk (spec_l2Put.t2 some spec_l2Put.l2 v0 v1 v2 v3) (spec_l2Put.t2 (fun b => some (spec_l2Put.mk b)) spec_l2Put.q2 v0 v1 v2 v3) := by
 unfold spec_l2Put.t2
 repeat' first | exact Sub.ret | exact Sub.none | exact Sub.loop | apply Sub.cond | (apply Sub.bind; intro _)
theorem spec_l2Put.eq2 (v0 : List (List Int × Int)) (v1 : Int) (v2 : List Int) (v3 : Int) {b : (List (List Int × Int))} (h : spec_l2Put.t2 some spec_l2Put.l2 v0 v1 v2 v3 = some b) : spec_l2Put.l2 v0 v1 v2 v3 = some b := tOf_intro spec_l2Put.un (fun _ => by kernel_rfl) (loopAtL_step ((spec_l2Put.k2 v0 v1 v2 v3).trans (spec_l2Put.s2 v0 v1 v2 v3 b h)))
noncomputable def spec_l1Compare.q2 (v0 : List Int) (v1 : List Int) (v2 : Int) : Option R := loopAtL E (callT E tab) 106 Try.f106 2 [.r, .l, .r, .b] (nn 2 (⟨(.box false), [.d .fro (.sl (.int .i64)) v0], false, false, false, 0, 0⟩ :: ⟨(.box false), [.d .fro (.sl (.int .i64)) v1], false, false, false, 0, 0⟩ :: nn 1 (vc (iL v2) :: nn 52 ([]))))
noncomputable def spec_l1Compare.l2 (v0 : List Int) (v1 : List Int) (v2 : Int) : Option (Int) := tOf spec_l1Compare.mk (spec_l1Compare.q2 v0 v1 v2)
noncomputable def spec_l1Compare.t {γ : Type} (ret : (Int) → Option γ) (lp2 : (List Int) → (List Int) → Int → Option γ) (v0 : List Int) (v1 : List Int) : Option γ :=
 lp2 (v0) (v1) ((0 : Int))
noncomputable def spec_l1Compare.t2 {γ : Type} (ret : (Int) → Option γ) (lp2 : (List Int) → (List Int) → Int → Option γ) (v0 : List Int) (v1 : List Int) (v2 : Int) : Option γ :=
 bif decide (v2 < (↑v0.length : Int)) then
  bif decide (v2 < (↑v1.length : Int)) then
   bif decide ((0 : Int) ≤ v2) then
    bif decide (v2.toNat < v0.length) then
     bif decide ((0 : Int) ≤ v2) then
      bif decide (v2.toNat < v1.length) then
       bif decide (v0.getD v2.toNat (0 : Int) < v1.getD v2.toNat (0 : Int)) then
        ret ((-1 : Int))
       else
        bif decide ((0 : Int) ≤ v2) then
         bif decide (v2.toNat < v0.length) then
          bif decide ((0 : Int) ≤ v2) then
           bif decide (v2.toNat < v1.length) then
            bif decide (v0.getD v2.toNat (0 : Int) > v1.getD v2.toNat (0 : Int)) then
             ret ((1 : Int))
            else
             lp2 (v0) (v1) (IntKind.i64.wrap (v2 + (1 : Int)))
           else
            none
          else
           none
         else
          none
        else
         none
      else
       none
     else
      none
    else
     none
   else
    none
  else
   bif decide ((↑v0.length : Int) < (↑v1.length : Int)) then
    ret ((-1 : Int))
   else
    bif decide ((↑v0.length : Int) > (↑v1.length : Int)) then
     ret ((1 : Int))
    else
     ret ((0 : Int))
 else
  bif decide ((↑v0.length : Int) < (↑v1.length : Int)) then
   ret ((-1 : Int))
  else
   bif decide ((↑v0.length : Int) > (↑v1.length : Int)) then
    ret ((1 : Int))
   else
    ret ((0 : Int))
theorem spec_l1Compare.k (v0 : List Int) (v1 : List Int) : topL E (callT E tab) 106 Try.f106 (spec_l1Compare.c v0 v1) = spec_l1Compare.t (fun b => some (spec_l1Compare.mk b)) spec_l1Compare.q2 v0 v1 := by kernel_rfl
theorem spec_l1Compare.k2 (v0 : List Int) (v1 : List Int) (v2 : Int) : roundL E (callT E tab) 106 Try.f106 2 [.r, .l, .r, .b] (nn 2 (⟨(.box false), [.d .fro (.sl (.int .i64)) v0], false, false, false, 0, 0⟩ :: ⟨(.box false), [.d .fro (.sl (.int .i64)) v1], false, false, false, 0, 0⟩ :: nn 1 (vc (iL v2) :: nn 52 ([])))) = spec_l1Compare.t2 (fun b => some (spec_l1Compare.mk b)) spec_l1Compare.q2 v0 v1 v2 := by kernel_rfl
theorem spec_l1Compare.s (v0 : List Int) (v1 : List Int) : Sub spec_l1Compare.mk (spec_l1Compare.t some spec_l1Compare.l2 v0 v1) (spec_l1Compare.t (fun b => some (spec_l1Compare.mk b)) spec_l1Compare.q2 v0 v1) := by
 unfold spec_l1Compare.t
 repeat' first | exact Sub.ret | exact Sub.none | exact Sub.loop | apply Sub.cond | (apply Sub.bind; intro _)
theorem spec_l1Compare.eq (v0 : List Int) (v1 : List Int) {b : Int} (h : spec_l1Compare.t some spec_l1Compare.l2 v0 v1 = some b) : spec_l1Compare v0 v1 = some b := tOf_intro spec_l1Compare.un (fun _ => by kernel_rfl) (vlim_fn (callT_le E tab) rfl rfl rfl ((spec_l1Compare.k v0 v1).trans (spec_l1Compare.s v0 v1 b h)))
theorem spec_l1Compare.s2 (v0 : List Int) (v1 : List Int) (v2 : Int) : Sub spec_l1Compare.mk (spec_l1Compare.t2 some spec_l1Compare.l2 v0 v1 v2) (spec_l1Compare.t2 (fun b => some (spec_l1Compare.mk b)) spec_l1Compare.q2 v0 v1 v2) := by
 unfold spec_l1Compare.t2
 repeat' first | exact Sub.ret | exact Sub.none | exact Sub.loop | apply Sub.cond | (apply Sub.bind; intro _)
theorem spec_l1Compare.eq2 (v0 : List Int) (v1 : List Int) (v2 : Int) {b : Int} (h : spec_l1Compare.t2 some spec_l1Compare.l2 v0 v1 v2 = some b) : spec_l1Compare.l2 v0 v1 v2 = some b := tOf_intro spec_l1Compare.un (fun _ => by kernel_rfl) (loopAtL_step ((spec_l1Compare.k2 v0 v1 v2).trans (spec_l1Compare.s2 v0 v1 v2 b h)))
noncomputable def spec_l2OwnRow.t {γ : Type} (ret : ((List Int)) → Option γ) (v0 : List Int) : Option γ :=
 bif decide (([] : List Int).length + v0.length ≤ (4294967296 : Nat)) then
  ret ([] ++ v0)
 else
  none
theorem spec_l2OwnRow.k (v0 : List Int) : topL E (callT E tab) 107 Try.f107 (spec_l2OwnRow.c v0) = spec_l2OwnRow.t (fun b => some (spec_l2OwnRow.mk b)) v0 := by kernel_rfl
theorem spec_l2OwnRow.s (v0 : List Int) : Sub spec_l2OwnRow.mk (spec_l2OwnRow.t some v0) (spec_l2OwnRow.t (fun b => some (spec_l2OwnRow.mk b)) v0) := by
 unfold spec_l2OwnRow.t
 repeat' first | exact Sub.ret | exact Sub.none | exact Sub.loop | apply Sub.cond | (apply Sub.bind; intro _)
theorem spec_l2OwnRow.eq (v0 : List Int) {b : (List Int)} (h : spec_l2OwnRow.t some v0 = some b) : spec_l2OwnRow v0 = some b := tOf_intro spec_l2OwnRow.un (fun _ => by kernel_rfl) (vlim_fn (callT_le E tab) rfl rfl rfl ((spec_l2OwnRow.k v0).trans (spec_l2OwnRow.s v0 b h)))
noncomputable def spec_l2Tell.q3 (v0 : Int) (v1 : List (List Int × Int)) (v2 : Int) (v3 : List (List Int × Int)) (v4 : List (List Int × Int)) (v5 : Int) (v6 : Int) : Option R := loopAtL E (callT E tab) 60 Try.f60 2 [.r, .r, .l, .r, .b] (nn 4 (⟨(.box false), [iL v0, .d .deep (.sl (.pair (.sl (.int .i64)) (.int .i64))) v1], false, false, false, 0, 0⟩ :: nn 1 (⟨(.box false), [iL v2, .d .deep (.sl (.pair (.sl (.int .i64)) (.int .i64))) v3], false, false, false, 0, 0⟩ :: nn 4 (vc (.d .fro (.sl (.pair (.sl (.int .i64)) (.int .i64))) v4) :: vc (iL v5) :: vc (iL v6) :: nn 20 ([])))))
noncomputable def spec_l2Tell.l3 (v0 : Int) (v1 : List (List Int × Int)) (v2 : Int) (v3 : List (List Int × Int)) (v4 : List (List Int × Int)) (v5 : Int) (v6 : Int) : Option (Int × (List (List Int × Int)) × Bool) := tOf spec_l2Tell.mk (spec_l2Tell.q3 v0 v1 v2 v3 v4 v5 v6)
noncomputable def spec_l2Tell.t {γ : Type} (ret : (Int × (List (List Int × Int)) × Bool) → Option γ) (lp3 : Int → (List (List Int × Int)) → Int → (List (List Int × Int)) → (List (List Int × Int)) → Int → Int → Option γ) (v0 : Int) (v1 : List (List Int × Int)) : Option γ :=
 lp3 ((0 : Int)) ([]) (v0) ([]) (v1) ((↑v1.length : Int)) ((0 : Int))
noncomputable def spec_l2Tell.t3 {γ : Type} (ret : (Int × (List (List Int × Int)) × Bool) → Option γ) (lp3 : Int → (List (List Int × Int)) → Int → (List (List Int × Int)) → (List (List Int × Int)) → Int → Int → Option γ) (v0 : Int) (v1 : List (List Int × Int)) (v2 : Int) (v3 : List (List Int × Int)) (v4 : List (List Int × Int)) (v5 : Int) (v6 : Int) : Option γ :=
 bif decide (v6 < v5) then
  bif decide ((0 : Int) ≤ v6) then
   bif decide (v6.toNat < v4.length) then
    (spec_l2OwnRow ((v4.getD v6.toNat ([], (0 : Int))).fst)).bind fun (r0 : (List Int)) =>
    bif decide (v3.length + [(r0, (v4.getD v6.toNat ([], (0 : Int))).snd)].length ≤ (4294967296 : Nat)) then
     lp3 (v0) (v1) (v2) (v3 ++ [(r0, (v4.getD v6.toNat ([], (0 : Int))).snd)]) (v4) (v5) (IntKind.i64.wrap (v6 + (1 : Int)))
    else
     none
   else
    none
  else
   none
 else
  (spec_GoodTable (v2) (v3)).bind fun (r1 : Bool) =>
  bif !r1 then
   ret ((0 : Int), [], Bool.false)
  else
   ret (v2, v3, Bool.true)
theorem spec_l2Tell.k (v0 : Int) (v1 : List (List Int × Int)) : topL E (callT E tab) 60 Try.f60 (spec_l2Tell.c v0 v1) = spec_l2Tell.t (fun b => some (spec_l2Tell.mk b)) spec_l2Tell.q3 v0 v1 := by kernel_rfl
theorem spec_l2Tell.k3 (v0 : Int) (v1 : List (List Int × Int)) (v2 : Int) (v3 : List (List Int × Int)) (v4 : List (List Int × Int)) (v5 : Int) (v6 : Int) : roundL E (callT E tab) 60 Try.f60 2 [.r, .r, .l, .r, .b] (nn 4 (⟨(.box false), [iL v0, .d .deep (.sl (.pair (.sl (.int .i64)) (.int .i64))) v1], false, false, false, 0, 0⟩ :: nn 1 (⟨(.box false), [iL v2, .d .deep (.sl (.pair (.sl (.int .i64)) (.int .i64))) v3], false, false, false, 0, 0⟩ :: nn 4 (vc (.d .fro (.sl (.pair (.sl (.int .i64)) (.int .i64))) v4) :: vc (iL v5) :: vc (iL v6) :: nn 20 ([]))))) = spec_l2Tell.t3 (fun b => some (spec_l2Tell.mk b)) spec_l2Tell.q3 v0 v1 v2 v3 v4 v5 v6 := by kernel_rfl
theorem spec_l2Tell.s (v0 : Int) (v1 : List (List Int × Int)) : Sub spec_l2Tell.mk (spec_l2Tell.t some spec_l2Tell.l3 v0 v1) (spec_l2Tell.t (fun b => some (spec_l2Tell.mk b)) spec_l2Tell.q3 v0 v1) := by
 unfold spec_l2Tell.t
 repeat' first | exact Sub.ret | exact Sub.none | exact Sub.loop | apply Sub.cond | (apply Sub.bind; intro _)
theorem spec_l2Tell.eq (v0 : Int) (v1 : List (List Int × Int)) {b : Int × (List (List Int × Int)) × Bool} (h : spec_l2Tell.t some spec_l2Tell.l3 v0 v1 = some b) : spec_l2Tell v0 v1 = some b := tOf_intro spec_l2Tell.un (fun _ => by kernel_rfl) (vlim_fn (callT_le E tab) rfl rfl rfl ((spec_l2Tell.k v0 v1).trans (spec_l2Tell.s v0 v1 b h)))
theorem spec_l2Tell.s3 (v0 : Int) (v1 : List (List Int × Int)) (v2 : Int) (v3 : List (List Int × Int)) (v4 : List (List Int × Int)) (v5 : Int) (v6 : Int) : Sub spec_l2Tell.mk (spec_l2Tell.t3 some spec_l2Tell.l3 v0 v1 v2 v3 v4 v5 v6) (spec_l2Tell.t3 (fun b => some (spec_l2Tell.mk b)) spec_l2Tell.q3 v0 v1 v2 v3 v4 v5 v6) := by
 unfold spec_l2Tell.t3
 repeat' first | exact Sub.ret | exact Sub.none | exact Sub.loop | apply Sub.cond | (apply Sub.bind; intro _)
theorem spec_l2Tell.eq3 (v0 : Int) (v1 : List (List Int × Int)) (v2 : Int) (v3 : List (List Int × Int)) (v4 : List (List Int × Int)) (v5 : Int) (v6 : Int) {b : Int × (List (List Int × Int)) × Bool} (h : spec_l2Tell.t3 some spec_l2Tell.l3 v0 v1 v2 v3 v4 v5 v6 = some b) : spec_l2Tell.l3 v0 v1 v2 v3 v4 v5 v6 = some b := tOf_intro spec_l2Tell.un (fun _ => by kernel_rfl) (loopAtL_step ((spec_l2Tell.k3 v0 v1 v2 v3 v4 v5 v6).trans (spec_l2Tell.s3 v0 v1 v2 v3 v4 v5 v6 b h)))
noncomputable def spec_GoodTable.q2 (v0 : Int) (v1 : List (List Int × Int)) (v2 : List (List Int × Int)) (v3 : Int) (v4 : Int) : Option R := loopAtL E (callT E tab) 59 Try.f59 1 [.r, .l, .r, .b] (nn 1 (⟨(.box false), [iL v0, .d .fro (.sl (.pair (.sl (.int .i64)) (.int .i64))) v1], false, false, false, 0, 0⟩ :: nn 4 (vc (.d .fro (.sl (.pair (.sl (.int .i64)) (.int .i64))) v2) :: vc (iL v3) :: vc (iL v4) :: nn 55 ([]))))
noncomputable def spec_GoodTable.l2 (v0 : Int) (v1 : List (List Int × Int)) (v2 : List (List Int × Int)) (v3 : Int) (v4 : Int) : Option (Bool) := tOf spec_GoodTable.mk (spec_GoodTable.q2 v0 v1 v2 v3 v4)
noncomputable def spec_GoodTable.t {γ : Type} (ret : (Bool) → Option γ) (lp2 : Int → (List (List Int × Int)) → (List (List Int × Int)) → Int → Int → Option γ) (v0 : Int) (v1 : List (List Int × Int)) : Option γ :=
 lp2 (v0) (v1) (v1) ((↑v1.length : Int)) ((0 : Int))
noncomputable def spec_GoodTable.t2 {γ : Type} (ret : (Bool) → Option γ) (lp2 : Int → (List (List Int × Int)) → (List (List Int × Int)) → Int → Int → Option γ) (v0 : Int) (v1 : List (List Int × Int)) (v2 : List (List Int × Int)) (v3 : Int) (v4 : Int) : Option γ :=
 bif decide (v4 < v3) then
  bif decide ((0 : Int) ≤ v4) then
   bif decide (v4.toNat < v2.length) then
    (spec_GoodRow ((v2.getD v4.toNat ([], (0 : Int))).fst)).bind fun (r0 : Bool) =>
    bif !r0 then
     ret (Bool.false)
    else
     bif (↑(v2.getD v4.toNat ([], (0 : Int))).fst.length : Int) != v0 then
      ret (Bool.false)
     else
      (spec_l2Weight ((v2.getD v4.toNat ([], (0 : Int))).snd)).bind fun (r1 : Bool) =>
      bif !r1 then
       ret (Bool.false)
      else
       bif (v2.getD v4.toNat ([], (0 : Int))).snd == (0 : Int) then
        ret (Bool.false)
       else
        bif decide (v4 > (0 : Int)) then
         bif decide ((0 : Int) ≤ IntKind.i64.wrap (v4 - (1 : Int))) then
          bif decide ((IntKind.i64.wrap (v4 - (1 : Int))).toNat < v1.length) then
           (spec_l1Compare ((v1.getD (IntKind.i64.wrap (v4 - (1 : Int))).toNat ([], (0 : Int))).fst) ((v2.getD v4.toNat ([], (0 : Int))).fst)).bind fun (r2 : Int) =>
           bif decide (r2 ≥ (0 : Int)) then
            ret (Bool.false)
           else
            lp2 (v0) (v1) (v2) (v3) (IntKind.i64.wrap (v4 + (1 : Int)))
          else
           none
         else
          none
        else
         lp2 (v0) (v1) (v2) (v3) (IntKind.i64.wrap (v4 + (1 : Int)))
   else
    none
  else
   none
 else
  (spec_l1In (v0) ((0 : Int)) ((6 : Int))).bind fun (r3 : Bool) =>
  bif r3 then
   ret (decide ((↑v1.length : Int) ≤ (60 : Int)))
  else
   ret (Bool.false)
theorem spec_GoodTable.k (v0 : Int) (v1 : List (List Int × Int)) : topL E (callT E tab) 59 Try.f59 (spec_GoodTable.c v0 v1) = spec_GoodTable.t (fun b => some (spec_GoodTable.mk b)) spec_GoodTable.q2 v0 v1 := by kernel_rfl
theorem spec_GoodTable.k2 (v0 : Int) (v1 : List (List Int × Int)) (v2 : List (List Int × Int)) (v3 : Int) (v4 : Int) : roundL E (callT E tab) 59 Try.f59 1 [.r, .l, .r, .b] (nn 1 (⟨(.box false), [iL v0, .d .fro (.sl (.pair (.sl (.int .i64)) (.int .i64))) v1], false, false, false, 0, 0⟩ :: nn 4 (vc (.d .fro (.sl (.pair (.sl (.int .i64)) (.int .i64))) v2) :: vc (iL v3) :: vc (iL v4) :: nn 55 ([])))) = spec_GoodTable.t2 (fun b => some (spec_GoodTable.mk b)) spec_GoodTable.q2 v0 v1 v2 v3 v4 := by kernel_rfl
theorem spec_GoodTable.s (v0 : Int) (v1 : List (List Int × Int)) : Sub spec_GoodTable.mk (spec_GoodTable.t some spec_GoodTable.l2 v0 v1) (spec_GoodTable.t (fun b => some (spec_GoodTable.mk b)) spec_GoodTable.q2 v0 v1) := by
 unfold spec_GoodTable.t
 repeat' first | exact Sub.ret | exact Sub.none | exact Sub.loop | apply Sub.cond | (apply Sub.bind; intro _)
theorem spec_GoodTable.eq (v0 : Int) (v1 : List (List Int × Int)) {b : Bool} (h : spec_GoodTable.t some spec_GoodTable.l2 v0 v1 = some b) : spec_GoodTable v0 v1 = some b := tOf_intro spec_GoodTable.un (fun _ => by kernel_rfl) (vlim_fn (callT_le E tab) rfl rfl rfl ((spec_GoodTable.k v0 v1).trans (spec_GoodTable.s v0 v1 b h)))
theorem spec_GoodTable.s2 (v0 : Int) (v1 : List (List Int × Int)) (v2 : List (List Int × Int)) (v3 : Int) (v4 : Int) : Sub spec_GoodTable.mk (spec_GoodTable.t2 some spec_GoodTable.l2 v0 v1 v2 v3 v4) (spec_GoodTable.t2 (fun b => some (spec_GoodTable.mk b)) spec_GoodTable.q2 v0 v1 v2 v3 v4) := by
 unfold spec_GoodTable.t2
 repeat' first | exact Sub.ret | exact Sub.none | exact Sub.loop | apply Sub.cond | (apply Sub.bind; intro _)
theorem spec_GoodTable.eq2 (v0 : Int) (v1 : List (List Int × Int)) (v2 : List (List Int × Int)) (v3 : Int) (v4 : Int) {b : Bool} (h : spec_GoodTable.t2 some spec_GoodTable.l2 v0 v1 v2 v3 v4 = some b) : spec_GoodTable.l2 v0 v1 v2 v3 v4 = some b := tOf_intro spec_GoodTable.un (fun _ => by kernel_rfl) (loopAtL_step ((spec_GoodTable.k2 v0 v1 v2 v3 v4).trans (spec_GoodTable.s2 v0 v1 v2 v3 v4 b h)))
noncomputable def impl_isColumns.t {γ : Type} (ret : (Bool) → Option γ) (v0 : Int) : Option γ :=
 (impl_within (v0) ((0 : Int)) ((6 : Int))).bind fun (r0 : Bool) =>
 ret (r0)
theorem impl_isColumns.k (v0 : Int) : topL E (callT E tab) 88 Try.f88 (impl_isColumns.c v0) = impl_isColumns.t (fun b => some (impl_isColumns.mk b)) v0 := by kernel_rfl
theorem impl_isColumns.s (v0 : Int) : Sub impl_isColumns.mk (impl_isColumns.t some v0) (impl_isColumns.t (fun b => some (impl_isColumns.mk b)) v0) := by
 unfold impl_isColumns.t
 repeat' first | exact Sub.ret | exact Sub.none | exact Sub.loop | apply Sub.cond | (apply Sub.bind; intro _)
theorem impl_isColumns.eq (v0 : Int) {b : Bool} (h : impl_isColumns.t some v0 = some b) : impl_isColumns v0 = some b := tOf_intro impl_isColumns.un (fun _ => by kernel_rfl) (vlim_fn (callT_le E tab) rfl rfl rfl ((impl_isColumns.k v0).trans (impl_isColumns.s v0 b h)))
noncomputable def impl_within.t {γ : Type} (ret : (Bool) → Option γ) (v0 : Int) (v1 : Int) (v2 : Int) : Option γ :=
 bif decide (v1 ≤ v0) then
  ret (decide (v0 ≤ v2))
 else
  ret (Bool.false)
theorem impl_within.k (v0 : Int) (v1 : Int) (v2 : Int) : topL E (callT E tab) 66 Try.f66 (impl_within.c v0 v1 v2) = impl_within.t (fun b => some (impl_within.mk b)) v0 v1 v2 := by kernel_rfl
theorem impl_within.s (v0 : Int) (v1 : Int) (v2 : Int) : Sub impl_within.mk (impl_within.t some v0 v1 v2) (impl_within.t (fun b => some (impl_within.mk b)) v0 v1 v2) := by
 unfold impl_within.t
 repeat' first | exact Sub.ret | exact Sub.none | exact Sub.loop | apply Sub.cond | (apply Sub.bind; intro _)
theorem impl_within.eq (v0 : Int) (v1 : Int) (v2 : Int) {b : Bool} (h : impl_within.t some v0 v1 v2 = some b) : impl_within v0 v1 v2 = some b := tOf_intro impl_within.un (fun _ => by kernel_rfl) (vlim_fn (callT_le E tab) rfl rfl rfl ((impl_within.k v0 v1 v2).trans (impl_within.s v0 v1 v2 b h)))
noncomputable def impl_isRowOf.t {γ : Type} (ret : (Bool) → Option γ) (v0 : List Int) (v1 : Int) : Option γ :=
 (impl_GoodRow (v0)).bind fun (r0 : Bool) =>
 bif r0 then
  ret ((↑v0.length : Int) == v1)
 else
  ret (Bool.false)
theorem impl_isRowOf.k (v0 : List Int) (v1 : Int) : topL E (callT E tab) 91 Try.f91 (impl_isRowOf.c v0 v1) = impl_isRowOf.t (fun b => some (impl_isRowOf.mk b)) v0 v1 := by kernel_rfl
theorem impl_isRowOf.s (v0 : List Int) (v1 : Int) : Sub impl_isRowOf.mk (impl_isRowOf.t some v0 v1) (impl_isRowOf.t (fun b => some (impl_isRowOf.mk b)) v0 v1) := by
 unfold impl_isRowOf.t
 repeat' first | exact Sub.ret | exact Sub.none | exact Sub.loop | apply Sub.cond | (apply Sub.bind; intro _)
theorem impl_isRowOf.eq (v0 : List Int) (v1 : Int) {b : Bool} (h : impl_isRowOf.t some v0 v1 = some b) : impl_isRowOf v0 v1 = some b := tOf_intro impl_isRowOf.un (fun _ => by kernel_rfl) (vlim_fn (callT_le E tab) rfl rfl rfl ((impl_isRowOf.k v0 v1).trans (impl_isRowOf.s v0 v1 b h)))
noncomputable def impl_GoodRow.t {γ : Type} (ret : (Bool) → Option γ) (v0 : List Int) : Option γ :=
 bif decide ((↑v0.length : Int) ≤ (6 : Int)) then
  (xi0l (v0)).bind fun (r0 : Bool) =>
  ret (r0)
 else
  ret (Bool.false)
theorem impl_GoodRow.k (v0 : List Int) : topL E (callT E tab) 127 Try.f127 (impl_GoodRow.c v0) = impl_GoodRow.t (fun b => some (impl_GoodRow.mk b)) v0 := by kernel_rfl
theorem impl_GoodRow.s (v0 : List Int) : Sub impl_GoodRow.mk (impl_GoodRow.t some v0) (impl_GoodRow.t (fun b => some (impl_GoodRow.mk b)) v0) := by
 unfold impl_GoodRow.t
 repeat' first | exact Sub.ret | exact Sub.none | exact Sub.loop | apply Sub.cond | (apply Sub.bind; intro _)
theorem impl_GoodRow.eq (v0 : List Int) {b : Bool} (h : impl_GoodRow.t some v0 = some b) : impl_GoodRow v0 = some b := tOf_intro impl_GoodRow.un (fun _ => by kernel_rfl) (vlim_fn (callT_le E tab) rfl rfl rfl ((impl_GoodRow.k v0).trans (impl_GoodRow.s v0 b h)))
end GoV

/- Equations of the program's functions (printed by wip/tools/emit.py). -/
namespace GoV
open Go Go.Proofs
set_option maxRecDepth 100000

noncomputable def xi0l.t {γ : Type} (ret : (Bool) → Option γ) (v0 : List Int) : Option γ :=
 (xs05 (v0)).bind fun (r0 : Bool) =>
 ret (!r0)
theorem xi0l.k (v0 : List Int) : topL E (callT E tab) 133 Try.f133 (xi0l.c v0) = xi0l.t (fun b => some (xi0l.mk b)) v0 := by kernel_rfl
theorem xi0l.s (v0 : List Int) : Sub xi0l.mk (xi0l.t some v0) (xi0l.t (fun b => some (xi0l.mk b)) v0) := by
 unfold xi0l.t
 repeat' first | exact Sub.ret | exact Sub.none | exact Sub.loop | apply Sub.cond | (apply Sub.bind; intro _)
theorem xi0l.eq (v0 : List Int) {b : Bool} (h : xi0l.t some v0 = some b) : xi0l v0 = some b := tOf_intro xi0l.un (fun _ => by kernel_rfl) (vlim_fn (callT_le E tab) rfl rfl rfl ((xi0l.k v0).trans (xi0l.s v0 b h)))
noncomputable def xs05.t {γ : Type} (ret : (Bool) → Option γ) (v0 : List Int) : Option γ :=
 (xs08 (v0)).bind fun (r0 : Int) =>
 ret (decide (r0 ≥ (0 : Int)))
theorem xs05.k (v0 : List Int) : topL E (callT E tab) 148 Try.f148 (xs05.c v0) = xs05.t (fun b => some (xs05.mk b)) v0 := by kernel_rfl
theorem xs05.s (v0 : List Int) : Sub xs05.mk (xs05.t some v0) (xs05.t (fun b => some (xs05.mk b)) v0) := by
 unfold xs05.t
 repeat' first | exact Sub.ret | exact Sub.none | exact Sub.loop | apply Sub.cond | (apply Sub.bind; intro _)
theorem xs05.eq (v0 : List Int) {b : Bool} (h : xs05.t some v0 = some b) : xs05 v0 = some b := tOf_intro xs05.un (fun _ => by kernel_rfl) (vlim_fn (callT_le E tab) rfl rfl rfl ((xs05.k v0).trans (xs05.s v0 b h)))
noncomputable def xs08.q2 (v0 : List Int) (v1 : Int) (v2 : Int) : Option R := loopAtL E (callT E tab) 159 Try.f159 2 [.r, .l, .r, .b] (vc (.d .fro (.sl (.int .i64)) v0) :: vc (.fn 149 [.rp [.fn 119 []] 0]) :: nn 5 (vc (iL v1) :: vc (iL v2) :: nn 10 ([])))
noncomputable def xs08.l2 (v0 : List Int) (v1 : Int) (v2 : Int) : Option (Int) := tOf xs08.mk (xs08.q2 v0 v1 v2)
noncomputable def xs08.t {γ : Type} (ret : (Int) → Option γ) (lp2 : (List Int) → Int → Int → Option γ) (v0 : List Int) : Option γ :=
 lp2 (v0) ((↑v0.length : Int)) ((0 : Int))
noncomputable def xs08.t2 {γ : Type} (ret : (Int) → Option γ) (lp2 : (List Int) → Int → Int → Option γ) (v0 : List Int) (v1 : Int) (v2 : Int) : Option γ :=
 bif decide (v2 < v1) then
  bif decide ((0 : Int) ≤ v2) then
   bif decide (v2.toNat < v0.length) then
    (xi0j (v0.getD v2.toNat (0 : Int))).bind fun (r0 : Bool) =>
    bif r0 then
     ret (v2)
    else
     lp2 (v0) (v1) (IntKind.i64.wrap (v2 + (1 : Int)))
   else
    none
  else
   none
 else
  ret ((-1 : Int))
theorem xs08.k (v0 : List Int) : topL E (callT E tab) 159 Try.f159 (xs08.c v0) = xs08.t (fun b => some (xs08.mk b)) xs08.q2 v0 := by kernel_rfl
theorem xs08.k2 (v0 : List Int) (v1 : Int) (v2 : Int) : roundL E (callT E tab) 159 Try.f159 2 [.r, .l, .r, .b] (vc (.d .fro (.sl (.int .i64)) v0) :: vc (.fn 149 [.rp [.fn 119 []] 0]) :: nn 5 (vc (iL v1) :: vc (iL v2) :: nn 10 ([]))) = xs08.t2 (fun b => some (xs08.mk b)) xs08.q2 v0 v1 v2 := by kernel_rfl
theorem xs08.s (v0 : List Int) : Sub xs08.mk (xs08.t some xs08.l2 v0) (xs08.t (fun b => some (xs08.mk b)) xs08.q2 v0) := by
 unfold xs08.t
 repeat' first | exact Sub.ret | exact Sub.none | exact Sub.loop | apply Sub.cond | (apply Sub.bind; intro _)
theorem xs08.eq (v0 : List Int) {b : Int} (h : xs08.t some xs08.l2 v0 = some b) : xs08 v0 = some b := tOf_intro xs08.un (fun _ => by kernel_rfl) (vlim_fn (callT_le E tab) rfl rfl rfl ((xs08.k v0).trans (xs08.s v0 b h)))
theorem xs08.s2 (v0 : List Int) (v1 : Int) (v2 : Int) : Sub xs08.mk (xs08.t2 some xs08.l2 v0 v1 v2) (xs08.t2 (fun b => some (xs08.mk b)) xs08.q2 v0 v1 v2) := by
 unfold xs08.t2
 repeat' first | exact Sub.ret | exact Sub.none | exact Sub.loop | apply Sub.cond | (apply Sub.bind; intro _)
theorem xs08.eq2 (v0 : List Int) (v1 : Int) (v2 : Int) {b : Int} (h : xs08.t2 some xs08.l2 v0 v1 v2 = some b) : xs08.l2 v0 v1 v2 = some b := tOf_intro xs08.un (fun _ => by kernel_rfl) (loopAtL_step ((xs08.k2 v0 v1 v2).trans (xs08.s2 v0 v1 v2 b h)))
noncomputable def xi0j.t {γ : Type} (ret : (Bool) → Option γ) (v0 : Int) : Option γ :=
 (impl_isCell (v0)).bind fun (r0 : Bool) =>
 ret (!r0)
theorem xi0j.k (v0 : Int) : topL E (callT E tab) 149 Try.f149 (xi0j.c v0) = xi0j.t (fun b => some (xi0j.mk b)) v0 := by kernel_rfl
theorem xi0j.s (v0 : Int) : Sub xi0j.mk (xi0j.t some v0) (xi0j.t (fun b => some (xi0j.mk b)) v0) := by
 unfold xi0j.t
 repeat' first | exact Sub.ret | exact Sub.none | exact Sub.loop | apply Sub.cond | (apply Sub.bind; intro _)
theorem xi0j.eq (v0 : Int) {b : Bool} (h : xi0j.t some v0 = some b) : xi0j v0 = some b := tOf_intro xi0j.un (fun _ => by kernel_rfl) (vlim_fn (callT_le E tab) rfl rfl rfl ((xi0j.k v0).trans (xi0j.s v0 b h)))
noncomputable def impl_isCell.t {γ : Type} (ret : (Bool) → Option γ) (v0 : Int) : Option γ :=
 (impl_within (v0) ((-100000 : Int)) ((100000 : Int))).bind fun (r0 : Bool) =>
 ret (r0)
theorem impl_isCell.k (v0 : Int) : topL E (callT E tab) 119 Try.f119 (impl_isCell.c v0) = impl_isCell.t (fun b => some (impl_isCell.mk b)) v0 := by kernel_rfl
theorem impl_isCell.s (v0 : Int) : Sub impl_isCell.mk (impl_isCell.t some v0) (impl_isCell.t (fun b => some (impl_isCell.mk b)) v0) := by
 unfold impl_isCell.t
 repeat' first | exact Sub.ret | exact Sub.none | exact Sub.loop | apply Sub.cond | (apply Sub.bind; intro _)
theorem impl_isCell.eq (v0 : Int) {b : Bool} (h : impl_isCell.t some v0 = some b) : impl_isCell v0 = some b := tOf_intro impl_isCell.un (fun _ => by kernel_rfl) (vlim_fn (callT_le E tab) rfl rfl rfl ((impl_isCell.k v0).trans (impl_isCell.s v0 b h)))
noncomputable def impl_isWeight.t {γ : Type} (ret : (Bool) → Option γ) (v0 : Int) : Option γ :=
 (impl_within (v0) ((-1000000 : Int)) ((1000000 : Int))).bind fun (r0 : Bool) =>
 ret (r0)
theorem impl_isWeight.k (v0 : Int) : topL E (callT E tab) 92 Try.f92 (impl_isWeight.c v0) = impl_isWeight.t (fun b => some (impl_isWeight.mk b)) v0 := by kernel_rfl
theorem impl_isWeight.s (v0 : Int) : Sub impl_isWeight.mk (impl_isWeight.t some v0) (impl_isWeight.t (fun b => some (impl_isWeight.mk b)) v0) := by
 unfold impl_isWeight.t
 repeat' first | exact Sub.ret | exact Sub.none | exact Sub.loop | apply Sub.cond | (apply Sub.bind; intro _)
theorem impl_isWeight.eq (v0 : Int) {b : Bool} (h : impl_isWeight.t some v0 = some b) : impl_isWeight v0 = some b := tOf_intro impl_isWeight.un (fun _ => by kernel_rfl) (vlim_fn (callT_le E tab) rfl rfl rfl ((impl_isWeight.k v0).trans (impl_isWeight.s v0 b h)))
noncomputable def impl_summed.q7 (v0 : Int) (v1 : List (List Int × Int)) (v2 : Int) (v3 : List (List Int × Int)) (v4 : List (List Int × Int)) (v5 : Int) (v6 : Int) (v7 : Int) : Option R := loopAtL E (callT E tab) 93 Try.f93 2 [.r, .r, .r, .r, .l, .r, .b, .o, .r, .b, .r, .l, .b] (nn 4 (⟨(.box false), [iL v0, .d .deep (.sl (.pair (.sl (.int .i64)) (.int .i64))) v1], false, false, false, 0, 0⟩ :: ⟨(.box false), [iL v2, .d .deep (.sl (.pair (.sl (.int .i64)) (.int .i64))) v3], false, false, false, 0, 0⟩ :: vc (.d .sha (.sl (.pair (.sl (.int .i64)) (.int .i64))) v4) :: vc (iL v5) :: vc (iL v6) :: vc (iL v7) :: nn 55 ([])))
noncomputable def impl_summed.l7 (v0 : Int) (v1 : List (List Int × Int)) (v2 : Int) (v3 : List (List Int × Int)) (v4 : List (List Int × Int)) (v5 : Int) (v6 : Int) (v7 : Int) : Option (Int × (List (List Int × Int))) := tOf impl_summed.mk (impl_summed.q7 v0 v1 v2 v3 v4 v5 v6 v7)
noncomputable def impl_summed.q5 (v0 : Int) (v1 : List (List Int × Int)) (v2 : Int) (v3 : List (List Int × Int)) (v4 : List (List Int × Int)) (v5 : Int) : Option R := loopAtL E (callT E tab) 93 Try.f93 2 [.r, .r, .r, .r, .l, .r, .b] (nn 4 (⟨(.box false), [iL v0, .d .deep (.sl (.pair (.sl (.int .i64)) (.int .i64))) v1], false, false, false, 0, 0⟩ :: ⟨(.box false), [iL v2, .d .deep (.sl (.pair (.sl (.int .i64)) (.int .i64))) v3], false, false, false, 0, 0⟩ :: vc (.d .sha (.sl (.pair (.sl (.int .i64)) (.int .i64))) v4) :: vc (iL v5) :: nn 57 ([])))
noncomputable def impl_summed.l5 (v0 : Int) (v1 : List (List Int × Int)) (v2 : Int) (v3 : List (List Int × Int)) (v4 : List (List Int × Int)) (v5 : Int) : Option (Int × (List (List Int × Int))) := tOf impl_summed.mk (impl_summed.q5 v0 v1 v2 v3 v4 v5)
noncomputable def impl_summed.t {γ : Type} (ret : (Int × (List (List Int × Int))) → Option γ) (lp7 : Int → (List (List Int × Int)) → Int → (List (List Int × Int)) → (List (List Int × Int)) → Int → Int → Int → Option γ) (lp5 : Int → (List (List Int × Int)) → Int → (List (List Int × Int)) → (List (List Int × Int)) → Int → Option γ) (v0 : Int) (v1 : List (List (List Int × Int))) : Option γ :=
 (xs0e (v1)).bind fun (r0 : (List (List Int × Int))) =>
 (xs00 (r0)).bind fun (r1 : (List (List Int × Int))) =>
 lp5 ((0 : Int)) ([]) (v0) ([]) (r1) ((0 : Int))
noncomputable def impl_summed.t7 {γ : Type} (ret : (Int × (List (List Int × Int))) → Option γ) (lp7 : Int → (List (List Int × Int)) → Int → (List (List Int × Int)) → (List (List Int × Int)) → Int → Int → Int → Option γ) (lp5 : Int → (List (List Int × Int)) → Int → (List (List Int × Int)) → (List (List Int × Int)) → Int → Option γ) (v0 : Int) (v1 : List (List Int × Int)) (v2 : Int) (v3 : List (List Int × Int)) (v4 : List (List Int × Int)) (v5 : Int) (v6 : Int) (v7 : Int) : Option γ :=
 bif decide (v7 < (↑v4.length : Int)) then
  bif decide ((0 : Int) ≤ v7) then
   bif decide (v7.toNat < v4.length) then
    bif decide (v7.toNat < v4.length) then
     bif decide ((0 : Int) ≤ v5) then
      bif decide (v5.toNat < v4.length) then
       bif decide (v5.toNat < v4.length) then
        (impl_compareRows ((v4.getD v7.toNat ([], (0 : Int))).fst) ((v4.getD v5.toNat ([], (0 : Int))).fst)).bind fun (r2 : Int) =>
        bif r2 == (0 : Int) then
         bif decide ((0 : Int) ≤ v7) then
          bif decide (v7.toNat < v4.length) then
           bif decide (v7.toNat < v4.length) then
            lp7 (v0) (v1) (v2) (v3) (v4) (v5) (IntKind.i64.wrap (v6 + (v4.getD v7.toNat ([], (0 : Int))).snd)) (IntKind.i64.wrap (v7 + (1 : Int)))
           else
            none
          else
           none
         else
          none
        else
         bif v6 != (0 : Int) then
          bif decide ((0 : Int) ≤ v5) then
           bif decide (v5.toNat < v4.length) then
            bif decide (v5.toNat < v4.length) then
             (impl_Row_own ((v4.getD v5.toNat ([], (0 : Int))).fst)).bind fun (r3 : (List Int)) =>
             bif decide (v3.length + [(r3, v6)].length ≤ (4294967296 : Nat)) then
              lp5 (v0) (v1) (v2) (v3 ++ [(r3, v6)]) (v4) (v7)
             else
              none
            else
             none
           else
            none
          else
           none
         else
          lp5 (v0) (v1) (v2) (v3) (v4) (v7)
       else
        none
      else
       none
     else
      none
    else
     none
   else
    none
  else
   none
 else
  bif v6 != (0 : Int) then
   bif decide ((0 : Int) ≤ v5) then
    bif decide (v5.toNat < v4.length) then
     bif decide (v5.toNat < v4.length) then
      (impl_Row_own ((v4.getD v5.toNat ([], (0 : Int))).fst)).bind fun (r4 : (List Int)) =>
      bif decide (v3.length + [(r4, v6)].length ≤ (4294967296 : Nat)) then
       lp5 (v0) (v1) (v2) (v3 ++ [(r4, v6)]) (v4) (v7)
      else
       none
     else
      none
    else
     none
   else
    none
  else
   lp5 (v0) (v1) (v2) (v3) (v4) (v7)
noncomputable def impl_summed.t5 {γ : Type} (ret : (Int × (List (List Int × Int))) → Option γ) (lp7 : Int → (List (List Int × Int)) → Int → (List (List Int × Int)) → (List (List Int × Int)) → Int → Int → Int → Option γ) (lp5 : Int → (List (List Int × Int)) → Int → (List (List Int × Int)) → (List (List Int × Int)) → Int → Option γ) (v0 : Int) (v1 : List (List Int × Int)) (v2 : Int) (v3 : List (List Int × Int)) (v4 : List (List Int × Int)) (v5 : Int) : Option γ :=
 bif decide (v5 < (↑v4.length : Int)) then
  lp7 (v0) (v1) (v2) (v3) (v4) (v5) ((0 : Int)) (v5)
 else
  ret (v2, v3)
theorem impl_summed.k (v0 : Int) (v1 : List (List (List Int × Int))) : topL E (callT E tab) 93 Try.f93 (impl_summed.c v0 v1) = impl_summed.t (fun b => some (impl_summed.mk b)) impl_summed.q7 impl_summed.q5 v0 v1 := by kernel_rfl
theorem impl_summed.k7 (v0 : Int) (v1 : List (List Int × Int)) (v2 : Int) (v3 : List (List Int × Int)) (v4 : List (List Int × Int)) (v5 : Int) (v6 : Int) (v7 : Int) : roundL E (callT E tab) 93 Try.f93 2 [.r, .r, .r, .r, .l, .r, .b, .o, .r, .b, .r, .l, .b] (nn 4 (⟨(.box false), [iL v0, .d .deep (.sl (.pair (.sl (.int .i64)) (.int .i64))) v1], false, false, false, 0, 0⟩ :: ⟨(.box false), [iL v2, .d .deep (.sl (.pair (.sl (.int .i64)) (.int .i64))) v3], false, false, false, 0, 0⟩ :: vc (.d .sha (.sl (.pair (.sl (.int .i64)) (.int .i64))) v4) :: vc (iL v5) :: vc (iL v6) :: vc (iL v7) :: nn 55 ([]))) = impl_summed.t7 (fun b => some (impl_summed.mk b)) impl_summed.q7 impl_summed.q5 v0 v1 v2 v3 v4 v5 v6 v7 := by kernel_rfl
theorem impl_summed.k5 (v0 : Int) (v1 : List (List Int × Int)) (v2 : Int) (v3 : List (List Int × Int)) (v4 : List (List Int × Int)) (v5 : Int) : roundL E (callT E tab) 93 Try.f93 2 [.r, .r, .r, .r, .l, .r, .b] (nn 4 (⟨(.box false), [iL v0, .d .deep (.sl (.pair (.sl (.int .i64)) (.int .i64))) v1], false, false, false, 0, 0⟩ :: ⟨(.box false), [iL v2, .d .deep (.sl (.pair (.sl (.int .i64)) (.int .i64))) v3], false, false, false, 0, 0⟩ :: vc (.d .sha (.sl (.pair (.sl (.int .i64)) (.int .i64))) v4) :: vc (iL v5) :: nn 57 ([]))) = impl_summed.t5 (fun b => some (impl_summed.mk b)) impl_summed.q7 impl_summed.q5 v0 v1 v2 v3 v4 v5 := by kernel_rfl
theorem impl_summed.s (v0 : Int) (v1 : List (List (List Int × Int))) : Sub impl_summed.mk (impl_summed.t some impl_summed.l7 impl_summed.l5 v0 v1) (impl_summed.t (fun b => some (impl_summed.mk b)) impl_summed.q7 impl_summed.q5 v0 v1) := by
 unfold impl_summed.t
 repeat' first | exact Sub.ret | exact Sub.none | exact Sub.loop | apply Sub.cond | (apply Sub.bind; intro _)
theorem impl_summed.eq (v0 : Int) (v1 : List (List (List Int × Int))) {b : Int × (List (List Int × Int))} (h : impl_summed.t some impl_summed.l7 impl_summed.l5 v0 v1 = some b) : impl_summed v0 v1 = some b := tOf_intro impl_summed.un (fun _ => by kernel_rfl) (vlim_fn (callT_le E tab) rfl rfl rfl ((impl_summed.k v0 v1).trans (impl_summed.s v0 v1 b h)))
theorem impl_summed.s7 (v0 : Int) (v1 : List (List Int × Int)) (v2 : Int) (v3 : List (List Int × Int)) (v4 : List (List Int × Int)) (v5 : Int) (v6 : Int) (v7 : Int) : Sub impl_summed.mk (impl_summed.t7 some impl_summed.l7 impl_summed.l5 v0 v1 v2 v3 v4 v5 v6 v7) (impl_summed.t7 (fun b => some (impl_summed.mk b)) impl_summed.q7 impl_summed.q5 v0 v1 v2 v3 v4 v5 v6 v7) := by
 unfold impl_summed.t7
 repeat' first | exact Sub.ret | exact Sub.none | exact Sub.loop | apply Sub.cond | (apply Sub.bind; intro _)
theorem impl_summed.eq7 (v0 : Int) (v1 : List (List Int × Int)) (v2 : Int) (v3 : List (List Int × Int)) (v4 : List (List Int × Int)) (v5 : Int) (v6 : Int) (v7 : Int) {b : Int × (List (List Int × Int))} (h : impl_summed.t7 some impl_summed.l7 impl_summed.l5 v0 v1 v2 v3 v4 v5 v6 v7 = some b) : impl_summed.l7 v0 v1 v2 v3 v4 v5 v6 v7 = some b := tOf_intro impl_summed.un (fun _ => by kernel_rfl) (loopAtL_step ((impl_summed.k7 v0 v1 v2 v3 v4 v5 v6 v7).trans (impl_summed.s7 v0 v1 v2 v3 v4 v5 v6 v7 b h)))
theorem impl_summed.s5 (v0 : Int) (v1 : List (List Int × Int)) (v2 : Int) (v3 : List (List Int × Int)) (v4 : List (List Int × Int)) (v5 : Int) : Sub impl_summed.mk (impl_summed.t5 some impl_summed.l7 impl_summed.l5 v0 v1 v2 v3 v4 v5) (impl_summed.t5 (fun b => some (impl_summed.mk b)) impl_summed.q7 impl_summed.q5 v0 v1 v2 v3 v4 v5) := by
 unfold impl_summed.t5
 repeat' first | exact Sub.ret | exact Sub.none | exact Sub.loop | apply Sub.cond | (apply Sub.bind; intro _)
theorem impl_summed.eq5 (v0 : Int) (v1 : List (List Int × Int)) (v2 : Int) (v3 : List (List Int × Int)) (v4 : List (List Int × Int)) (v5 : Int) {b : Int × (List (List Int × Int))} (h : impl_summed.t5 some impl_summed.l7 impl_summed.l5 v0 v1 v2 v3 v4 v5 = some b) : impl_summed.l5 v0 v1 v2 v3 v4 v5 = some b := tOf_intro impl_summed.un (fun _ => by kernel_rfl) (loopAtL_step ((impl_summed.k5 v0 v1 v2 v3 v4 v5).trans (impl_summed.s5 v0 v1 v2 v3 v4 v5 b h)))
noncomputable def xs0e.q11 (v0 : List (List Int × Int)) (v1 : List (List (List Int × Int))) (v2 : Int) (v3 : Int) : Option R := loopAtL E (callT E tab) 128 Try.f128 1 [.r, .r, .r, .r, .l, .r, .b] (nn 6 (vc (.d .sha (.sl (.pair (.sl (.int .i64)) (.int .i64))) v0) :: nn 18 (vc (.d .fro (.sl (.sl (.pair (.sl (.int .i64)) (.int .i64)))) v1) :: vc (iL v2) :: vc (iL v3) :: nn 8 ([]))))
noncomputable def xs0e.l11 (v0 : List (List Int × Int)) (v1 : List (List (List Int × Int))) (v2 : Int) (v3 : Int) : Option ((List (List Int × Int))) := tOf xs0e.mk (xs0e.q11 v0 v1 v2 v3)
noncomputable def xs0e.q3 (v0 : List (List (List Int × Int))) (v1 : Int) (v2 : List (List (List Int × Int))) (v3 : Int) (v4 : Int) : Option R := loopAtL E (callT E tab) 128 Try.f128 1 [.r, .r, .l, .r, .b] (vc (.d .fro (.sl (.sl (.pair (.sl (.int .i64)) (.int .i64)))) v0) :: nn 2 (vc (iL v1) :: nn 5 (vc (.d .fro (.sl (.sl (.pair (.sl (.int .i64)) (.int .i64)))) v2) :: vc (iL v3) :: vc (iL v4) :: nn 24 ([]))))
noncomputable def xs0e.l3 (v0 : List (List (List Int × Int))) (v1 : Int) (v2 : List (List (List Int × Int))) (v3 : Int) (v4 : Int) : Option ((List (List Int × Int))) := tOf xs0e.mk (xs0e.q3 v0 v1 v2 v3 v4)
noncomputable def xs0e.t {γ : Type} (ret : ((List (List Int × Int))) → Option γ) (lp11 : (List (List Int × Int)) → (List (List (List Int × Int))) → Int → Int → Option γ) (lp3 : (List (List (List Int × Int))) → Int → (List (List (List Int × Int))) → Int → Int → Option γ) (v0 : List (List (List Int × Int))) : Option γ :=
 lp3 (v0) ((0 : Int)) (v0) ((↑v0.length : Int)) ((0 : Int))
noncomputable def xs0e.t11 {γ : Type} (ret : ((List (List Int × Int))) → Option γ) (lp11 : (List (List Int × Int)) → (List (List (List Int × Int))) → Int → Int → Option γ) (lp3 : (List (List (List Int × Int))) → Int → (List (List (List Int × Int))) → Int → Int → Option γ) (v0 : List (List Int × Int)) (v1 : List (List (List Int × Int))) (v2 : Int) (v3 : Int) : Option γ :=
 bif decide (v3 < v2) then
  bif decide ((0 : Int) ≤ v3) then
   bif decide (v3.toNat < v1.length) then
    bif decide (v0.length + (v1.getD v3.toNat []).length ≤ (4294967296 : Nat)) then
     lp11 (v0 ++ v1.getD v3.toNat []) (v1) (v2) (IntKind.i64.wrap (v3 + (1 : Int)))
    else
     none
   else
    none
  else
   none
 else
  ret (v0)
noncomputable def xs0e.t3 {γ : Type} (ret : ((List (List Int × Int))) → Option γ) (lp11 : (List (List Int × Int)) → (List (List (List Int × Int))) → Int → Int → Option γ) (lp3 : (List (List (List Int × Int))) → Int → (List (List (List Int × Int))) → Int → Int → Option γ) (v0 : List (List (List Int × Int))) (v1 : Int) (v2 : List (List (List Int × Int))) (v3 : Int) (v4 : Int) : Option γ :=
 bif decide (v4 < v3) then
  bif decide ((0 : Int) ≤ v4) then
   bif decide (v4.toNat < v2.length) then
    bif decide (IntKind.i64.wrap (v1 + (↑(v2.getD v4.toNat []).length : Int)) < (0 : Int)) then
     none
    else
     lp3 (v0) (IntKind.i64.wrap (v1 + (↑(v2.getD v4.toNat []).length : Int))) (v2) (v3) (IntKind.i64.wrap (v4 + (1 : Int)))
   else
    none
  else
   none
 else
  (xs0d (v1)).bind fun (r0 : (List (List Int × Int))) =>
  lp11 (r0) (v0) ((↑v0.length : Int)) ((0 : Int))
theorem xs0e.k (v0 : List (List (List Int × Int))) : topL E (callT E tab) 128 Try.f128 (xs0e.c v0) = xs0e.t (fun b => some (xs0e.mk b)) xs0e.q11 xs0e.q3 v0 := by kernel_rfl
theorem xs0e.k11 (v0 : List (List Int × Int)) (v1 : List (List (List Int × Int))) (v2 : Int) (v3 : Int) : roundL E (callT E tab) 128 Try.f128 1 [.r, .r, .r, .r, .l, .r, .b] (nn 6 (vc (.d .sha (.sl (.pair (.sl (.int .i64)) (.int .i64))) v0) :: nn 18 (vc (.d .fro (.sl (.sl (.pair (.sl (.int .i64)) (.int .i64)))) v1) :: vc (iL v2) :: vc (iL v3) :: nn 8 ([])))) = xs0e.t11 (fun b => some (xs0e.mk b)) xs0e.q11 xs0e.q3 v0 v1 v2 v3 := by kernel_rfl
theorem xs0e.k3 (v0 : List (List (List Int × Int))) (v1 : Int) (v2 : List (List (List Int × Int))) (v3 : Int) (v4 : Int) : roundL E (callT E tab) 128 Try.f128 1 [.r, .r, .l, .r, .b] (vc (.d .fro (.sl (.sl (.pair (.sl (.int .i64)) (.int .i64)))) v0) :: nn 2 (vc (iL v1) :: nn 5 (vc (.d .fro (.sl (.sl (.pair (.sl (.int .i64)) (.int .i64)))) v2) :: vc (iL v3) :: vc (iL v4) :: nn 24 ([])))) = xs0e.t3 (fun b => some (xs0e.mk b)) xs0e.q11 xs0e.q3 v0 v1 v2 v3 v4 := by kernel_rfl
theorem xs0e.s (v0 : List (List (List Int × Int))) : Sub xs0e.mk (xs0e.t some xs0e.l11 xs0e.l3 v0) (xs0e.t (fun b => some (xs0e.mk b)) xs0e.q11 xs0e.q3 v0) := by
 unfold xs0e.t
 repeat' first | exact Sub.ret | exact Sub.none | exact Sub.loop | apply Sub.cond | (apply Sub.bind; intro _)
theorem xs0e.eq (v0 : List (List (List Int × Int))) {b : (List (List Int × Int))} (h : xs0e.t some xs0e.l11 xs0e.l3 v0 = some b) : xs0e v0 = some b := tOf_intro xs0e.un (fun _ => by kernel_rfl) (vlim_fn (callT_le E tab) rfl rfl rfl ((xs0e.k v0).trans (xs0e.s v0 b h)))
theorem xs0e.s11 (v0 : List (List Int × Int)) (v1 : List (List (List Int × Int))) (v2 : Int) (v3 : Int) : Sub xs0e.mk (xs0e.t11 some xs0e.l11 xs0e.l3 v0 v1 v2 v3) (xs0e.t11 (fun b => some (xs0e.mk b)) xs0e.q11 xs0e.q3 v0 v1 v2 v3) := by
 unfold xs0e.t11
 repeat' first | exact Sub.ret | exact Sub.none | exact Sub.loop | apply Sub.cond | (apply Sub.bind; intro _)
theorem xs0e.eq11 (v0 : List (List Int × Int)) (v1 : List (List (List Int × Int))) (v2 : Int) (v3 : Int) {b : (List (List Int × Int))} (h : xs0e.t11 some xs0e.l11 xs0e.l3 v0 v1 v2 v3 = some b) : xs0e.l11 v0 v1 v2 v3 = some b := tOf_intro xs0e.un (fun _ => by kernel_rfl) (loopAtL_step ((xs0e.k11 v0 v1 v2 v3).trans (xs0e.s11 v0 v1 v2 v3 b h)))
theorem xs0e.s3 (v0 : List (List (List Int × Int))) (v1 : Int) (v2 : List (List (List Int × Int))) (v3 : Int) (v4 : Int) : Sub xs0e.mk (xs0e.t3 some xs0e.l11 xs0e.l3 v0 v1 v2 v3 v4) (xs0e.t3 (fun b => some (xs0e.mk b)) xs0e.q11 xs0e.q3 v0 v1 v2 v3 v4) := by
 unfold xs0e.t3
 repeat' first | exact Sub.ret | exact Sub.none | exact Sub.loop | apply Sub.cond | (apply Sub.bind; intro _)
theorem xs0e.eq3 (v0 : List (List (List Int × Int))) (v1 : Int) (v2 : List (List (List Int × Int))) (v3 : Int) (v4 : Int) {b : (List (List Int × Int))} (h : xs0e.t3 some xs0e.l11 xs0e.l3 v0 v1 v2 v3 v4 = some b) : xs0e.l3 v0 v1 v2 v3 v4 = some b := tOf_intro xs0e.un (fun _ => by kernel_rfl) (loopAtL_step ((xs0e.k3 v0 v1 v2 v3 v4).trans (xs0e.s3 v0 v1 v2 v3 v4 b h)))
noncomputable def xs0d.t {γ : Type} (ret : ((List (List Int × Int))) → Option γ) (v0 : Int) : Option γ :=
 bif decide (v0 < (0 : Int)) then
  none
 else
  bif decide (IntKind.i64.wrap (v0 - IntKind.i64.wrap ((0 : Int) - (0 : Int))) > (0 : Int)) then
   bif decide ((1 : Int) ≤ IntKind.i64.wrap (v0 - IntKind.i64.wrap ((0 : Int) - (0 : Int)))) then
    bif decide (IntKind.i64.wrap (v0 - IntKind.i64.wrap ((0 : Int) - (0 : Int))) ≤ (↑(4294967296 : Nat) : Int)) then
     ret (List.take ((0 : Int) - Option.none.getD (0 : Int)).toNat   (List.drop (Option.none.getD (0 : Int)).toNat     (List.replicate (IntKind.i64.wrap (v0 - IntKind.i64.wrap ((0 : Int) - (0 : Int)))).toNat ([], (0 : Int)))))
    else
     none
   else
    none
  else
   ret ([])
theorem xs0d.k (v0 : Int) : topL E (callT E tab) 146 Try.f146 (xs0d.c v0) = xs0d.t (fun b => some (xs0d.mk b)) v0 := by kernel_rfl
theorem xs0d.s (v0 : Int) : Sub xs0d.mk (xs0d.t some v0) (xs0d.t (fun b => some (xs0d.mk b)) v0) := by
 unfold xs0d.t
 repeat' first | exact Sub.ret | exact Sub.none | exact Sub.loop | apply Sub.cond | (apply Sub.bind; intro _)
theorem xs0d.eq (v0 : Int) {b : (List (List Int × Int))} (h : xs0d.t some v0 = some b) : xs0d v0 = some b := tOf_intro xs0d.un (fun _ => by kernel_rfl) (vlim_fn (callT_le E tab) rfl rfl rfl ((xs0d.k v0).trans (xs0d.s v0 b h)))
noncomputable def xs00.t {γ : Type} (ret : ((List (List Int × Int))) → Option γ) (v0 : List (List Int × Int)) : Option γ :=
 (xs0b (v0) ((↑v0.length : Int))).bind fun (r0 : (List (List Int × Int))) =>
 ret (r0)
theorem xs00.k (v0 : List (List Int × Int)) : topL E (callT E tab) 129 Try.f129 (xs00.c v0) = xs00.t (fun b => some (xs00.mk b)) v0 := by kernel_rfl
theorem xs00.s (v0 : List (List Int × Int)) : Sub xs00.mk (xs00.t some v0) (xs00.t (fun b => some (xs00.mk b)) v0) := by
 unfold xs00.t
 repeat' first | exact Sub.ret | exact Sub.none | exact Sub.loop | apply Sub.cond | (apply Sub.bind; intro _)
theorem xs00.eq (v0 : List (List Int × Int)) {b : (List (List Int × Int))} (h : xs00.t some v0 = some b) : xs00 v0 = some b := tOf_intro xs00.un (fun _ => by kernel_rfl) (vlim_fn (callT_le E tab) rfl rfl rfl ((xs00.k v0).trans (xs00.s v0 b h)))
noncomputable def xs0b.q9 (v0 : List (List Int × Int)) (v1 : Int) (v2 : Int) (v3 : Int) (v4 : Int) : Option R := loopAtL E (callT E tab) 147 Try.f147 3 [.r, .r, .r, .r, .b, .o, .r, .b, .r, .l, .b] (⟨(.val .one), [.d .sha (.sl (.pair (.sl (.int .i64)) (.int .i64))) v0], true, false, false, 0, 0⟩ :: vc (iL v1) :: vc (.fn 130 []) :: nn 3 (vc (iL v2) :: vc (iL v3) :: vc (iL v4) :: nn 54 ([])))
noncomputable def xs0b.l9 (v0 : List (List Int × Int)) (v1 : Int) (v2 : Int) (v3 : Int) (v4 : Int) : Option ((List (List Int × Int))) := tOf xs0b.mk (xs0b.q9 v0 v1 v2 v3 v4)
noncomputable def xs0b.q7 (v0 : List (List Int × Int)) (v1 : Int) (v2 : Int) : Option R := loopAtL E (callT E tab) 147 Try.f147 3 [.r, .r, .r, .r, .b] (⟨(.val .one), [.d .sha (.sl (.pair (.sl (.int .i64)) (.int .i64))) v0], true, false, false, 0, 0⟩ :: vc (iL v1) :: vc (.fn 130 []) :: nn 3 (vc (iL v2) :: nn 56 ([])))
noncomputable def xs0b.l7 (v0 : List (List Int × Int)) (v1 : Int) (v2 : Int) : Option ((List (List Int × Int))) := tOf xs0b.mk (xs0b.q7 v0 v1 v2)
noncomputable def xs0b.q2 (v0 : List (List Int × Int)) (v1 : Int) (v2 : Int) (v3 : Int) (v4 : Int) : Option R := loopAtL E (callT E tab) 147 Try.f147 3 [.r, .r, .l, .b] (⟨(.val .one), [.d .sha (.sl (.pair (.sl (.int .i64)) (.int .i64))) v0], true, false, false, 0, 0⟩ :: vc (iL v1) :: vc (.fn 130 []) :: nn 3 (vc (iL v2) :: vc (iL v3) :: vc (iL v4) :: nn 54 ([])))
noncomputable def xs0b.l2 (v0 : List (List Int × Int)) (v1 : Int) (v2 : Int) (v3 : Int) (v4 : Int) : Option ((List (List Int × Int))) := tOf xs0b.mk (xs0b.q2 v0 v1 v2 v3 v4)
noncomputable def xs0b.t {γ : Type} (ret : ((List (List Int × Int))) → Option γ) (lp9 : (List (List Int × Int)) → Int → Int → Int → Int → Option γ) (lp7 : (List (List Int × Int)) → Int → Int → Option γ) (lp2 : (List (List Int × Int)) → Int → Int → Int → Int → Option γ) (v0 : List (List Int × Int)) (v1 : Int) : Option γ :=
 lp2 (v0) (v1) ((20 : Int)) ((0 : Int)) ((20 : Int))
noncomputable def xs0b.t9 {γ : Type} (ret : ((List (List Int × Int))) → Option γ) (lp9 : (List (List Int × Int)) → Int → Int → Int → Int → Option γ) (lp7 : (List (List Int × Int)) → Int → Int → Option γ) (lp2 : (List (List Int × Int)) → Int → Int → Int → Int → Option γ) (v0 : List (List Int × Int)) (v1 : Int) (v2 : Int) (v3 : Int) (v4 : Int) : Option γ :=
 bif decide (v4 ≤ v1) then
  (xs09 (v0) (v3) (IntKind.i64.wrap (v3 + v2)) (v4)).bind fun (r2 : (List (List Int × Int))) =>
  lp9 (r2) (v1) (v2) (v4) (IntKind.i64.wrap (v4 + IntKind.i64.wrap ((2 : Int) * v2)))
 else
  bif decide (IntKind.i64.wrap (v3 + v2) < v1) then
   (xs09 (v0) (v3) (IntKind.i64.wrap (v3 + v2)) (v1)).bind fun (r3 : (List (List Int × Int))) =>
   lp7 (r3) (v1) (IntKind.i64.wrap (v2 * (2 : Int)))
  else
   lp7 (v0) (v1) (IntKind.i64.wrap (v2 * (2 : Int)))
noncomputable def xs0b.t7 {γ : Type} (ret : ((List (List Int × Int))) → Option γ) (lp9 : (List (List Int × Int)) → Int → Int → Int → Int → Option γ) (lp7 : (List (List Int × Int)) → Int → Int → Option γ) (lp2 : (List (List Int × Int)) → Int → Int → Int → Int → Option γ) (v0 : List (List Int × Int)) (v1 : Int) (v2 : Int) : Option γ :=
 bif decide (v2 < v1) then
  lp9 (v0) (v1) (v2) ((0 : Int)) (IntKind.i64.wrap ((2 : Int) * v2))
 else
  ret (v0)
noncomputable def xs0b.t2 {γ : Type} (ret : ((List (List Int × Int))) → Option γ) (lp9 : (List (List Int × Int)) → Int → Int → Int → Int → Option γ) (lp7 : (List (List Int × Int)) → Int → Int → Option γ) (lp2 : (List (List Int × Int)) → Int → Int → Int → Int → Option γ) (v0 : List (List Int × Int)) (v1 : Int) (v2 : Int) (v3 : Int) (v4 : Int) : Option γ :=
 bif decide (v4 ≤ v1) then
  (xs03 (v0) (v3) (v4)).bind fun (r0 : (List (List Int × Int))) =>
  lp2 (r0) (v1) (v2) (v4) (IntKind.i64.wrap (v4 + v2))
 else
  (xs03 (v0) (v3) (v1)).bind fun (r1 : (List (List Int × Int))) =>
  lp7 (r1) (v1) (v2)
theorem xs0b.k (v0 : List (List Int × Int)) (v1 : Int) : topL E (callT E tab) 147 Try.f147 (xs0b.c v0 v1) = xs0b.t (fun b => some (xs0b.mk b)) xs0b.q9 xs0b.q7 xs0b.q2 v0 v1 := by kernel_rfl
theorem xs0b.k9 (v0 : List (List Int × Int)) (v1 : Int) (v2 : Int) (v3 : Int) (v4 : Int) : roundL E (callT E tab) 147 Try.f147 3 [.r, .r, .r, .r, .b, .o, .r, .b, .r, .l, .b] (⟨(.val .one), [.d .sha (.sl (.pair (.sl (.int .i64)) (.int .i64))) v0], true, false, false, 0, 0⟩ :: vc (iL v1) :: vc (.fn 130 []) :: nn 3 (vc (iL v2) :: vc (iL v3) :: vc (iL v4) :: nn 54 ([]))) = xs0b.t9 (fun b => some (xs0b.mk b)) xs0b.q9 xs0b.q7 xs0b.q2 v0 v1 v2 v3 v4 := by kernel_rfl
theorem xs0b.k7 (v0 : List (List Int × Int)) (v1 : Int) (v2 : Int) : roundL E (callT E tab) 147 Try.f147 3 [.r, .r, .r, .r, .b] (⟨(.val .one), [.d .sha (.sl (.pair (.sl (.int .i64)) (.int .i64))) v0], true, false, false, 0, 0⟩ :: vc (iL v1) :: vc (.fn 130 []) :: nn 3 (vc (iL v2) :: nn 56 ([]))) = xs0b.t7 (fun b => some (xs0b.mk b)) xs0b.q9 xs0b.q7 xs0b.q2 v0 v1 v2 := by kernel_rfl
theorem xs0b.k2 (v0 : List (List Int × Int)) (v1 : Int) (v2 : Int) (v3 : Int) (v4 : Int) : roundL E (callT E tab) 147 Try.f147 3 [.r, .r, .l, .b] (⟨(.val .one), [.d .sha (.sl (.pair (.sl (.int .i64)) (.int .i64))) v0], true, false, false, 0, 0⟩ :: vc (iL v1) :: vc (.fn 130 []) :: nn 3 (vc (iL v2) :: vc (iL v3) :: vc (iL v4) :: nn 54 ([]))) = xs0b.t2 (fun b => some (xs0b.mk b)) xs0b.q9 xs0b.q7 xs0b.q2 v0 v1 v2 v3 v4 := by kernel_rfl
theorem xs0b.s (v0 : List (List Int × Int)) (v1 : Int) : Sub xs0b.mk (xs0b.t some xs0b.l9 xs0b.l7 xs0b.l2 v0 v1) (xs0b.t (fun b => some (xs0b.mk b)) xs0b.q9 xs0b.q7 xs0b.q2 v0 v1) := by
 unfold xs0b.t
 repeat' first | exact Sub.ret | exact Sub.none | exact Sub.loop | apply Sub.cond | (apply Sub.bind; intro _)
theorem xs0b.eq (v0 : List (List Int × Int)) (v1 : Int) {b : (List (List Int × Int))} (h : xs0b.t some xs0b.l9 xs0b.l7 xs0b.l2 v0 v1 = some b) : xs0b v0 v1 = some b := tOf_intro xs0b.un (fun _ => by kernel_rfl) (vlim_fn (callT_le E tab) rfl rfl rfl ((xs0b.k v0 v1).trans (xs0b.s v0 v1 b h)))
theorem xs0b.s9 (v0 : List (List Int × Int)) (v1 : Int) (v2 : Int) (v3 : Int) (v4 : Int) : Sub xs0b.mk (xs0b.t9 some xs0b.l9 xs0b.l7 xs0b.l2 v0 v1 v2 v3 v4) (xs0b.t9 (fun b => some (xs0b.mk b)) xs0b.q9 xs0b.q7 xs0b.q2 v0 v1 v2 v3 v4) := by
 unfold xs0b.t9
 repeat' first | exact Sub.ret | exact Sub.none | exact Sub.loop | apply Sub.cond | (apply Sub.bind; intro _)
theorem xs0b.eq9 (v0 : List (List Int × Int)) (v1 : Int) (v2 : Int) (v3 : Int) (v4 : Int) {b : (List (List Int × Int))} (h : xs0b.t9 some xs0b.l9 xs0b.l7 xs0b.l2 v0 v1 v2 v3 v4 = some b) : xs0b.l9 v0 v1 v2 v3 v4 = some b := tOf_intro xs0b.un (fun _ => by kernel_rfl) (loopAtL_step ((xs0b.k9 v0 v1 v2 v3 v4).trans (xs0b.s9 v0 v1 v2 v3 v4 b h)))
theorem xs0b.s7 (v0 : List (List Int × Int)) (v1 : Int) (v2 : Int) : Sub xs0b.mk (xs0b.t7 some xs0b.l9 xs0b.l7 xs0b.l2 v0 v1 v2) (xs0b.t7 (fun b => some (xs0b.mk b)) xs0b.q9 xs0b.q7 xs0b.q2 v0 v1 v2) := by
 unfold xs0b.t7
 repeat' first | exact Sub.ret | exact Sub.none | exact Sub.loop | apply Sub.cond | (apply Sub.bind; intro _)
theorem xs0b.eq7 (v0 : List (List Int × Int)) (v1 : Int) (v2 : Int) {b : (List (List Int × Int))} (h : xs0b.t7 some xs0b.l9 xs0b.l7 xs0b.l2 v0 v1 v2 = some b) : xs0b.l7 v0 v1 v2 = some b := tOf_intro xs0b.un (fun _ => by kernel_rfl) (loopAtL_step ((xs0b.k7 v0 v1 v2).trans (xs0b.s7 v0 v1 v2 b h)))
theorem xs0b.s2 (v0 : List (List Int × Int)) (v1 : Int) (v2 : Int) (v3 : Int) (v4 : Int) : Sub xs0b.mk (xs0b.t2 some xs0b.l9 xs0b.l7 xs0b.l2 v0 v1 v2 v3 v4) (xs0b.t2 (fun b => some (xs0b.mk b)) xs0b.q9 xs0b.q7 xs0b.q2 v0 v1 v2 v3 v4) := by
 unfold xs0b.t2
 repeat' first | exact Sub.ret | exact Sub.none | exact Sub.loop | apply Sub.cond | (apply Sub.bind; intro _)
theorem xs0b.eq2 (v0 : List (List Int × Int)) (v1 : Int) (v2 : Int) (v3 : Int) (v4 : Int) {b : (List (List Int × Int))} (h : xs0b.t2 some xs0b.l9 xs0b.l7 xs0b.l2 v0 v1 v2 v3 v4 = some b) : xs0b.l2 v0 v1 v2 v3 v4 = some b := tOf_intro xs0b.un (fun _ => by kernel_rfl) (loopAtL_step ((xs0b.k2 v0 v1 v2 v3 v4).trans (xs0b.s2 v0 v1 v2 v3 v4 b h)))
noncomputable def xs03.q4 (v0 : List (List Int × Int)) (v1 : Int) (v2 : Int) (v3 : Int) (v4 : Int) : Option R := loopAtL E (callT E tab) 157 Try.f157 4 [.r, .b, .o, .r, .l, .b, .r, .b] (⟨(.val .one), [.d .sha (.sl (.pair (.sl (.int .i64)) (.int .i64))) v0], true, false, false, 0, 0⟩ :: vc (iL v1) :: vc (iL v2) :: vc (.fn 130 []) :: nn 4 (vc (iL v3) :: vc (iL v4) :: nn 43 ([])))
noncomputable def xs03.l4 (v0 : List (List Int × Int)) (v1 : Int) (v2 : Int) (v3 : Int) (v4 : Int) : Option ((List (List Int × Int))) := tOf xs03.mk (xs03.q4 v0 v1 v2 v3 v4)
noncomputable def xs03.q1 (v0 : List (List Int × Int)) (v1 : Int) (v2 : Int) (v3 : Int) : Option R := loopAtL E (callT E tab) 157 Try.f157 4 [.r, .b] (⟨(.val .one), [.d .sha (.sl (.pair (.sl (.int .i64)) (.int .i64))) v0], true, false, false, 0, 0⟩ :: vc (iL v1) :: vc (iL v2) :: vc (.fn 130 []) :: nn 4 (vc (iL v3) :: nn 44 ([])))
noncomputable def xs03.l1 (v0 : List (List Int × Int)) (v1 : Int) (v2 : Int) (v3 : Int) : Option ((List (List Int × Int))) := tOf xs03.mk (xs03.q1 v0 v1 v2 v3)
noncomputable def xs03.t {γ : Type} (ret : ((List (List Int × Int))) → Option γ) (lp4 : (List (List Int × Int)) → Int → Int → Int → Int → Option γ) (lp1 : (List (List Int × Int)) → Int → Int → Int → Option γ) (v0 : List (List Int × Int)) (v1 : Int) (v2 : Int) : Option γ :=
 lp1 (v0) (v1) (v2) (IntKind.i64.wrap (v1 + (1 : Int)))
noncomputable def xs03.t4 {γ : Type} (ret : ((List (List Int × Int))) → Option γ) (lp4 : (List (List Int × Int)) → Int → Int → Int → Int → Option γ) (lp1 : (List (List Int × Int)) → Int → Int → Int → Option γ) (v0 : List (List Int × Int)) (v1 : Int) (v2 : Int) (v3 : Int) (v4 : Int) : Option γ :=
 bif decide (v4 > v1) then
  bif decide ((0 : Int) ≤ v4) then
   bif decide (v4.toNat < v0.length) then
    bif decide (v4.toNat < v0.length) then
     bif decide ((0 : Int) ≤ IntKind.i64.wrap (v4 - (1 : Int))) then
      bif decide ((IntKind.i64.wrap (v4 - (1 : Int))).toNat < v0.length) then
       bif decide ((IntKind.i64.wrap (v4 - (1 : Int))).toNat < v0.length) then
        (impl_summed_1 ((v0.getD v4.toNat ([], (0 : Int))).fst) ((v0.getD v4.toNat ([], (0 : Int))).snd) ((v0.getD (IntKind.i64.wrap (v4 - (1 : Int))).toNat ([], (0 : Int))).fst) ((v0.getD (IntKind.i64.wrap (v4 - (1 : Int))).toNat ([], (0 : Int))).snd)).bind fun (r0 : Int) =>
        bif decide (r0 < (0 : Int)) then
         bif decide ((0 : Int) ≤ IntKind.i64.wrap (v4 - (1 : Int))) then
          bif decide ((IntKind.i64.wrap (v4 - (1 : Int))).toNat < v0.length) then
           bif decide ((IntKind.i64.wrap (v4 - (1 : Int))).toNat < v0.length) then
            bif decide ((0 : Int) ≤ v4) then
             bif decide (v4.toNat < v0.length) then
              bif decide (v4.toNat < v0.length) then
               bif decide ((0 : Int) ≤ v4) then
                bif decide (v4.toNat < v0.length) then
                 bif decide (v4.toNat < v0.length) then
                  bif decide ((0 : Int) ≤ IntKind.i64.wrap (v4 - (1 : Int))) then
                   bif decide   ((IntKind.i64.wrap (v4 - (1 : Int))).toNat <     (v0.set v4.toNat         ((v0.getD (IntKind.i64.wrap (v4 - (1 : Int))).toNat ([], (0 : Int))).fst,           (v0.getD (IntKind.i64.wrap (v4 - (1 : Int))).toNat ([], (0 : Int))).snd)).length) then
                    bif decide   ((IntKind.i64.wrap (v4 - (1 : Int))).toNat <     (v0.set v4.toNat         ((v0.getD (IntKind.i64.wrap (v4 - (1 : Int))).toNat ([], (0 : Int))).fst,           (v0.getD (IntKind.i64.wrap (v4 - (1 : Int))).toNat ([], (0 : Int))).snd)).length) then
                     lp4 ((v0.set v4.toNat       ((v0.getD (IntKind.i64.wrap (v4 - (1 : Int))).toNat ([], (0 : Int))).fst,         (v0.getD (IntKind.i64.wrap (v4 - (1 : Int))).toNat ([], (0 : Int))).snd)).set   (IntKind.i64.wrap (v4 - (1 : Int))).toNat   ((v0.getD v4.toNat ([], (0 : Int))).fst, (v0.getD v4.toNat ([], (0 : Int))).snd)) (v1) (v2) (v3) (IntKind.i64.wrap (v4 - (1 : Int)))
                    else
                     none
                   else
                    none
                  else
                   none
                 else
                  none
                else
                 none
               else
                none
              else
               none
             else
              none
            else
             none
           else
            none
          else
           none
         else
          none
        else
         lp1 (v0) (v1) (v2) (IntKind.i64.wrap (v3 + (1 : Int)))
       else
        none
      else
       none
     else
      none
    else
     none
   else
    none
  else
   none
 else
  lp1 (v0) (v1) (v2) (IntKind.i64.wrap (v3 + (1 : Int)))
noncomputable def xs03.t1 {γ : Type} (ret : ((List (List Int × Int))) → Option γ) (lp4 : (List (List Int × Int)) → Int → Int → Int → Int → Option γ) (lp1 : (List (List Int × Int)) → Int → Int → Int → Option γ) (v0 : List (List Int × Int)) (v1 : Int) (v2 : Int) (v3 : Int) : Option γ :=
 bif decide (v3 < v2) then
  lp4 (v0) (v1) (v2) (v3) (v3)
 else
  ret (v0)
theorem xs03.k (v0 : List (List Int × Int)) (v1 : Int) (v2 : Int) : topL E (callT E tab) 157 Try.f157 (xs03.c v0 v1 v2) = xs03.t (fun b => some (xs03.mk b)) xs03.q4 xs03.q1 v0 v1 v2 := by kernel_rfl
theorem xs03.k4 (v0 : List (List Int × Int)) (v1 : Int) (v2 : Int) (v3 : Int) (v4 : Int) : roundL E (callT E tab) 157 Try.f157 4 [.r, .b, .o, .r, .l, .b, .r, .b] (⟨(.val .one), [.d .sha (.sl (.pair (.sl (.int .i64)) (.int .i64))) v0], true, false, false, 0, 0⟩ :: vc (iL v1) :: vc (iL v2) :: vc (.fn 130 []) :: nn 4 (vc (iL v3) :: vc (iL v4) :: nn 43 ([]))) = xs03.t4 (fun b => some (xs03.mk b)) xs03.q4 xs03.q1 v0 v1 v2 v3 v4 := by kernel_rfl
theorem xs03.k1 (v0 : List (List Int × Int)) (v1 : Int) (v2 : Int) (v3 : Int) : roundL E (callT E tab) 157 Try.f157 4 [.r, .b] (⟨(.val .one), [.d .sha (.sl (.pair (.sl (.int .i64)) (.int .i64))) v0], true, false, false, 0, 0⟩ :: vc (iL v1) :: vc (iL v2) :: vc (.fn 130 []) :: nn 4 (vc (iL v3) :: nn 44 ([]))) = xs03.t1 (fun b => some (xs03.mk b)) xs03.q4 xs03.q1 v0 v1 v2 v3 := by kernel_rfl
theorem xs03.s (v0 : List (List Int × Int)) (v1 : Int) (v2 : Int) : Sub xs03.mk (xs03.t some xs03.l4 xs03.l1 v0 v1 v2) (xs03.t (fun b => some (xs03.mk b)) xs03.q4 xs03.q1 v0 v1 v2) := by
 unfold xs03.t
 repeat' first | exact Sub.ret | exact Sub.none | exact Sub.loop | apply Sub.cond | (apply Sub.bind; intro _)
theorem xs03.eq (v0 : List (List Int × Int)) (v1 : Int) (v2 : Int) {b : (List (List Int × Int))} (h : xs03.t some xs03.l4 xs03.l1 v0 v1 v2 = some b) : xs03 v0 v1 v2 = some b := tOf_intro xs03.un (fun _ => by kernel_rfl) (vlim_fn (callT_le E tab) rfl rfl rfl ((xs03.k v0 v1 v2).trans (xs03.s v0 v1 v2 b h)))
theorem xs03.s4 (v0 : List (List Int × Int)) (v1 : Int) (v2 : Int) (v3 : Int) (v4 : Int) : Sub xs03.mk (xs03.t4 some xs03.l4 xs03.l1 v0 v1 v2 v3 v4) (xs03.t4 (fun b => some (xs03.mk b)) xs03.q4 xs03.q1 v0 v1 v2 v3 v4) := by
 unfold xs03.t4
 repeat' first | exact Sub.ret | exact Sub.none | exact Sub.loop | apply Sub.cond | (apply Sub.bind; intro _)
theorem xs03.eq4 (v0 : List (List Int × Int)) (v1 : Int) (v2 : Int) (v3 : Int) (v4 : Int) {b : (List (List Int × Int))} (h : xs03.t4 some xs03.l4 xs03.l1 v0 v1 v2 v3 v4 = some b) : xs03.l4 v0 v1 v2 v3 v4 = some b := tOf_intro xs03.un (fun _ => by kernel_rfl) (loopAtL_step ((xs03.k4 v0 v1 v2 v3 v4).trans (xs03.s4 v0 v1 v2 v3 v4 b h)))
theorem xs03.s1 (v0 : List (List Int × Int)) (v1 : Int) (v2 : Int) (v3 : Int) : Sub xs03.mk (xs03.t1 some xs03.l4 xs03.l1 v0 v1 v2 v3) (xs03.t1 (fun b => some (xs03.mk b)) xs03.q4 xs03.q1 v0 v1 v2 v3) := by
 unfold xs03.t1
 repeat' first | exact Sub.ret | exact Sub.none | exact Sub.loop | apply Sub.cond | (apply Sub.bind; intro _)
theorem xs03.eq1 (v0 : List (List Int × Int)) (v1 : Int) (v2 : Int) (v3 : Int) {b : (List (List Int × Int))} (h : xs03.t1 some xs03.l4 xs03.l1 v0 v1 v2 v3 = some b) : xs03.l1 v0 v1 v2 v3 = some b := tOf_intro xs03.un (fun _ => by kernel_rfl) (loopAtL_step ((xs03.k1 v0 v1 v2 v3).trans (xs03.s1 v0 v1 v2 v3 b h)))
noncomputable def impl_summed_1.t {γ : Type} (ret : (Int) → Option γ) (v0 : List Int) (v1 : Int) (v2 : List Int) (v3 : Int) : Option γ :=
 (impl_compareRows (v0) (v2)).bind fun (r0 : Int) =>
 ret (r0)
theorem impl_summed_1.k (v0 : List Int) (v1 : Int) (v2 : List Int) (v3 : Int) : topL E (callT E tab) 130 Try.f130 (impl_summed_1.c v0 v1 v2 v3) = impl_summed_1.t (fun b => some (impl_summed_1.mk b)) v0 v1 v2 v3 := by kernel_rfl
theorem impl_summed_1.s (v0 : List Int) (v1 : Int) (v2 : List Int) (v3 : Int) : Sub impl_summed_1.mk (impl_summed_1.t some v0 v1 v2 v3) (impl_summed_1.t (fun b => some (impl_summed_1.mk b)) v0 v1 v2 v3) := by
 unfold impl_summed_1.t
 repeat' first | exact Sub.ret | exact Sub.none | exact Sub.loop | apply Sub.cond | (apply Sub.bind; intro _)
theorem impl_summed_1.eq (v0 : List Int) (v1 : Int) (v2 : List Int) (v3 : Int) {b : Int} (h : impl_summed_1.t some v0 v1 v2 v3 = some b) : impl_summed_1 v0 v1 v2 v3 = some b := tOf_intro impl_summed_1.un (fun _ => by kernel_rfl) (vlim_fn (callT_le E tab) rfl rfl rfl ((impl_summed_1.k v0 v1 v2 v3).trans (impl_summed_1.s v0 v1 v2 v3 b h)))
noncomputable def impl_compareRows.t {γ : Type} (ret : (Int) → Option γ) (v0 : List Int) (v1 : List Int) : Option γ :=
 (xs0p (v0) (v1)).bind fun (r0 : Int) =>
 ret (r0)
theorem impl_compareRows.k (v0 : List Int) (v1 : List Int) : topL E (callT E tab) 108 Try.f108 (impl_compareRows.c v0 v1) = impl_compareRows.t (fun b => some (impl_compareRows.mk b)) v0 v1 := by kernel_rfl
theorem impl_compareRows.s (v0 : List Int) (v1 : List Int) : Sub impl_compareRows.mk (impl_compareRows.t some v0 v1) (impl_compareRows.t (fun b => some (impl_compareRows.mk b)) v0 v1) := by
 unfold impl_compareRows.t
 repeat' first | exact Sub.ret | exact Sub.none | exact Sub.loop | apply Sub.cond | (apply Sub.bind; intro _)
theorem impl_compareRows.eq (v0 : List Int) (v1 : List Int) {b : Int} (h : impl_compareRows.t some v0 v1 = some b) : impl_compareRows v0 v1 = some b := tOf_intro impl_compareRows.un (fun _ => by kernel_rfl) (vlim_fn (callT_le E tab) rfl rfl rfl ((impl_compareRows.k v0 v1).trans (impl_compareRows.s v0 v1 b h)))
noncomputable def xs0p.q2 (v0 : List Int) (v1 : List Int) (v2 : List Int) (v3 : Int) (v4 : Int) : Option R := loopAtL E (callT E tab) 141 Try.f141 2 [.r, .l, .r, .b] (vc (.d .fro (.sl (.int .i64)) v0) :: vc (.d .fro (.sl (.int .i64)) v1) :: nn 7 (vc (.d .fro (.sl (.int .i64)) v2) :: vc (iL v3) :: vc (iL v4) :: nn 24 ([])))
noncomputable def xs0p.l2 (v0 : List Int) (v1 : List Int) (v2 : List Int) (v3 : Int) (v4 : Int) : Option (Int) := tOf xs0p.mk (xs0p.q2 v0 v1 v2 v3 v4)
noncomputable def xs0p.t {γ : Type} (ret : (Int) → Option γ) (lp2 : (List Int) → (List Int) → (List Int) → Int → Int → Option γ) (v0 : List Int) (v1 : List Int) : Option γ :=
 lp2 (v0) (v1) (v0) ((↑v0.length : Int)) ((0 : Int))
noncomputable def xs0p.t2 {γ : Type} (ret : (Int) → Option γ) (lp2 : (List Int) → (List Int) → (List Int) → Int → Int → Option γ) (v0 : List Int) (v1 : List Int) (v2 : List Int) (v3 : Int) (v4 : Int) : Option γ :=
 bif decide (v4 < v3) then
  bif decide ((0 : Int) ≤ v4) then
   bif decide (v4.toNat < v2.length) then
    bif decide (v4 ≥ (↑v1.length : Int)) then
     ret ((1 : Int))
    else
     bif decide ((0 : Int) ≤ v4) then
      bif decide (v4.toNat < v1.length) then
       (cmp_Compare_int (v2.getD v4.toNat (0 : Int)) (v1.getD v4.toNat (0 : Int))).bind fun (r0 : Int) =>
       bif r0 != (0 : Int) then
        ret (r0)
       else
        lp2 (v0) (v1) (v2) (v3) (IntKind.i64.wrap (v4 + (1 : Int)))
      else
       none
     else
      none
   else
    none
  else
   none
 else
  bif decide ((↑v0.length : Int) < (↑v1.length : Int)) then
   ret ((-1 : Int))
  else
   ret ((0 : Int))
theorem xs0p.k (v0 : List Int) (v1 : List Int) : topL E (callT E tab) 141 Try.f141 (xs0p.c v0 v1) = xs0p.t (fun b => some (xs0p.mk b)) xs0p.q2 v0 v1 := by kernel_rfl
theorem xs0p.k2 (v0 : List Int) (v1 : List Int) (v2 : List Int) (v3 : Int) (v4 : Int) : roundL E (callT E tab) 141 Try.f141 2 [.r, .l, .r, .b] (vc (.d .fro (.sl (.int .i64)) v0) :: vc (.d .fro (.sl (.int .i64)) v1) :: nn 7 (vc (.d .fro (.sl (.int .i64)) v2) :: vc (iL v3) :: vc (iL v4) :: nn 24 ([]))) = xs0p.t2 (fun b => some (xs0p.mk b)) xs0p.q2 v0 v1 v2 v3 v4 := by kernel_rfl
theorem xs0p.s (v0 : List Int) (v1 : List Int) : Sub xs0p.mk (xs0p.t some xs0p.l2 v0 v1) (xs0p.t (fun b => some (xs0p.mk b)) xs0p.q2 v0 v1) := by
 unfold xs0p.t
 repeat' first | exact Sub.ret | exact Sub.none | exact Sub.loop | apply Sub.cond | (apply Sub.bind; intro _)
theorem xs0p.eq (v0 : List Int) (v1 : List Int) {b : Int} (h : xs0p.t some xs0p.l2 v0 v1 = some b) : xs0p v0 v1 = some b := tOf_intro xs0p.un (fun _ => by kernel_rfl) (vlim_fn (callT_le E tab) rfl rfl rfl ((xs0p.k v0 v1).trans (xs0p.s v0 v1 b h)))
theorem xs0p.s2 (v0 : List Int) (v1 : List Int) (v2 : List Int) (v3 : Int) (v4 : Int) : Sub xs0p.mk (xs0p.t2 some xs0p.l2 v0 v1 v2 v3 v4) (xs0p.t2 (fun b => some (xs0p.mk b)) xs0p.q2 v0 v1 v2 v3 v4) := by
 unfold xs0p.t2
 repeat' first | exact Sub.ret | exact Sub.none | exact Sub.loop | apply Sub.cond | (apply Sub.bind; intro _)
theorem xs0p.eq2 (v0 : List Int) (v1 : List Int) (v2 : List Int) (v3 : Int) (v4 : Int) {b : Int} (h : xs0p.t2 some xs0p.l2 v0 v1 v2 v3 v4 = some b) : xs0p.l2 v0 v1 v2 v3 v4 = some b := tOf_intro xs0p.un (fun _ => by kernel_rfl) (loopAtL_step ((xs0p.k2 v0 v1 v2 v3 v4).trans (xs0p.s2 v0 v1 v2 v3 v4 b h)))
noncomputable def cmp_Compare_int.t {γ : Type} (ret : (Int) → Option γ) (v0 : Int) (v1 : Int) : Option γ :=
 (cmp_isNaN_int (v0)).bind fun (r0 : Bool) =>
 (cmp_isNaN_int (v1)).bind fun (r1 : Bool) =>
 bif r0 then
  bif r1 then
   ret ((0 : Int))
  else
   ret ((-1 : Int))
 else
  bif r1 then
   ret ((1 : Int))
  else
   bif decide (v0 < v1) then
    ret ((-1 : Int))
   else
    bif decide (v0 > v1) then
     ret ((1 : Int))
    else
     ret ((0 : Int))
theorem cmp_Compare_int.k (v0 : Int) (v1 : Int) : topL E (callT E tab) 155 Try.f155 (cmp_Compare_int.c v0 v1) = cmp_Compare_int.t (fun b => some (cmp_Compare_int.mk b)) v0 v1 := by kernel_rfl
theorem cmp_Compare_int.s (v0 : Int) (v1 : Int) : Sub cmp_Compare_int.mk (cmp_Compare_int.t some v0 v1) (cmp_Compare_int.t (fun b => some (cmp_Compare_int.mk b)) v0 v1) := by
 unfold cmp_Compare_int.t
 repeat' first | exact Sub.ret | exact Sub.none | exact Sub.loop | apply Sub.cond | (apply Sub.bind; intro _)
theorem cmp_Compare_int.eq (v0 : Int) (v1 : Int) {b : Int} (h : cmp_Compare_int.t some v0 v1 = some b) : cmp_Compare_int v0 v1 = some b := tOf_intro cmp_Compare_int.un (fun _ => by kernel_rfl) (vlim_fn (callT_le E tab) rfl rfl rfl ((cmp_Compare_int.k v0 v1).trans (cmp_Compare_int.s v0 v1 b h)))
noncomputable def cmp_isNaN_int.t {γ : Type} (ret : (Bool) → Option γ) (v0 : Int) : Option γ :=
 ret (v0 != v0)
theorem cmp_isNaN_int.k (v0 : Int) : topL E (callT E tab) 163 Try.f163 (cmp_isNaN_int.c v0) = cmp_isNaN_int.t (fun b => some (cmp_isNaN_int.mk b)) v0 := by kernel_rfl
theorem cmp_isNaN_int.s (v0 : Int) : Sub cmp_isNaN_int.mk (cmp_isNaN_int.t some v0) (cmp_isNaN_int.t (fun b => some (cmp_isNaN_int.mk b)) v0) := by
 unfold cmp_isNaN_int.t
 repeat' first | exact Sub.ret | exact Sub.none | exact Sub.loop | apply Sub.cond | (apply Sub.bind; intro _)
theorem cmp_isNaN_int.eq (v0 : Int) {b : Bool} (h : cmp_isNaN_int.t some v0 = some b) : cmp_isNaN_int v0 = some b := tOf_intro cmp_isNaN_int.un (fun _ => by kernel_rfl) (vlim_fn (callT_le E tab) rfl rfl rfl ((cmp_isNaN_int.k v0).trans (cmp_isNaN_int.s v0 b h)))
noncomputable def xs09.q9 (v0 : List (List Int × Int)) (v1 : Int) (v2 : Int) : Option R := loopAtL E (callT E tab) 158 Try.f158 5 [.l, .r, .l, .r, .r, .r, .l, .r, .b] (⟨(.val .one), [.d .sha (.sl (.pair (.sl (.int .i64)) (.int .i64))) v0], true, false, false, 0, 0⟩ :: nn 9 (vc (iL v1) :: nn 2 (vc (iL v2) :: nn 206 ([]))))
noncomputable def xs09.l9 (v0 : List (List Int × Int)) (v1 : Int) (v2 : Int) : Option ((List (List Int × Int))) := tOf xs09.mk (xs09.q9 v0 v1 v2)
noncomputable def xs09.q3 (v0 : List (List Int × Int)) (v1 : Int) (v2 : Int) (v3 : Int) : Option R := loopAtL E (callT E tab) 158 Try.f158 5 [.l, .r, .l, .r, .r, .l, .b] (⟨(.val .one), [.d .sha (.sl (.pair (.sl (.int .i64)) (.int .i64))) v0], true, false, false, 0, 0⟩ :: vc (iL v1) :: nn 2 (vc (.fn 130 []) :: nn 5 (vc (iL v2) :: vc (iL v3) :: nn 208 ([]))))
noncomputable def xs09.l3 (v0 : List (List Int × Int)) (v1 : Int) (v2 : Int) (v3 : Int) : Option ((List (List Int × Int))) := tOf xs09.mk (xs09.q3 v0 v1 v2 v3)
noncomputable def xs09.q21 (v0 : List (List Int × Int)) (v1 : Int) (v2 : Int) : Option R := loopAtL E (callT E tab) 158 Try.f158 5 [.r, .l, .r, .l, .r, .r, .r, .l, .r, .b] (⟨(.val .one), [.d .sha (.sl (.pair (.sl (.int .i64)) (.int .i64))) v0], true, false, false, 0, 0⟩ :: nn 13 (vc (iL v1) :: nn 2 (vc (iL v2) :: nn 202 ([]))))
noncomputable def xs09.l21 (v0 : List (List Int × Int)) (v1 : Int) (v2 : Int) : Option ((List (List Int × Int))) := tOf xs09.mk (xs09.q21 v0 v1 v2)
noncomputable def xs09.q15 (v0 : List (List Int × Int)) (v1 : Int) (v2 : Int) (v3 : Int) : Option R := loopAtL E (callT E tab) 158 Try.f158 5 [.r, .l, .r, .l, .r, .r, .l, .b] (⟨(.val .one), [.d .sha (.sl (.pair (.sl (.int .i64)) (.int .i64))) v0], true, false, false, 0, 0⟩ :: nn 1 (vc (iL v1) :: nn 1 (vc (.fn 130 []) :: nn 9 (vc (iL v2) :: vc (iL v3) :: nn 204 ([])))))
noncomputable def xs09.l15 (v0 : List (List Int × Int)) (v1 : Int) (v2 : Int) (v3 : Int) : Option ((List (List Int × Int))) := tOf xs09.mk (xs09.q15 v0 v1 v2 v3)
noncomputable def xs09.q33 (v0 : List (List Int × Int)) (v1 : Int) (v2 : Int) (v3 : Int) (v4 : Int) (v5 : Int) (v6 : Int) (v7 : Int) (v8 : Int) : Option R := loopAtL E (callT E tab) 158 Try.f158 5 [.r, .r, .r, .r, .r, .r, .r, .l, .b] (⟨(.val .one), [.d .sha (.sl (.pair (.sl (.int .i64)) (.int .i64))) v0], true, false, false, 0, 0⟩ :: vc (iL v1) :: vc (iL v2) :: vc (iL v3) :: vc (.fn 130 []) :: nn 13 (vc (iL v4) :: vc (iL v5) :: vc (iL v6) :: vc (iL v7) :: vc (iL v8) :: nn 197 ([])))
noncomputable def xs09.l33 (v0 : List (List Int × Int)) (v1 : Int) (v2 : Int) (v3 : Int) (v4 : Int) (v5 : Int) (v6 : Int) (v7 : Int) (v8 : Int) : Option ((List (List Int × Int))) := tOf xs09.mk (xs09.q33 v0 v1 v2 v3 v4 v5 v6 v7 v8)
noncomputable def xs09.t {γ : Type} (ret : ((List (List Int × Int))) → Option γ) (lp9 : (List (List Int × Int)) → Int → Int → Option γ) (lp3 : (List (List Int × Int)) → Int → Int → Int → Option γ) (lp21 : (List (List Int × Int)) → Int → Int → Option γ) (lp15 : (List (List Int × Int)) → Int → Int → Int → Option γ) (lp33 : (List (List Int × Int)) → Int → Int → Int → Int → Int → Int → Int → Int → Option γ) (v0 : List (List Int × Int)) (v1 : Int) (v2 : Int) (v3 : Int) : Option γ :=
 bif IntKind.i64.wrap (v2 - v1) == (1 : Int) then
  lp3 (v0) (v1) (v2) (v3)
 else
  bif IntKind.i64.wrap (v3 - v2) == (1 : Int) then
   lp15 (v0) (v2) (v1) (v2)
  else
   bif decide   (v2 >     IntKind.i64.wrap       ((IntKind.u64.wrap (IntKind.i64.wrap (v1 + v3))).fdiv         ((2 : Int) ^ Min.min (Int.toNat (1 : Int)) IntKind.u64.bits))) then
    lp33 (v0) (v1) (v2) (v3) (IntKind.i64.wrap   ((IntKind.u64.wrap (IntKind.i64.wrap (v1 + v3))).fdiv     ((2 : Int) ^ Min.min (Int.toNat (1 : Int)) IntKind.u64.bits))) (IntKind.i64.wrap   (IntKind.i64.wrap       ((IntKind.u64.wrap (IntKind.i64.wrap (v1 + v3))).fdiv         ((2 : Int) ^ Min.min (Int.toNat (1 : Int)) IntKind.u64.bits)) +     v2)) (IntKind.i64.wrap   (IntKind.i64.wrap       (IntKind.i64.wrap           ((IntKind.u64.wrap (IntKind.i64.wrap (v1 + v3))).fdiv             ((2 : Int) ^ Min.min (Int.toNat (1 : Int)) IntKind.u64.bits)) +         v2) -     v3)) (IntKind.i64.wrap   ((IntKind.u64.wrap (IntKind.i64.wrap (v1 + v3))).fdiv     ((2 : Int) ^ Min.min (Int.toNat (1 : Int)) IntKind.u64.bits))) (IntKind.i64.wrap   (IntKind.i64.wrap       (IntKind.i64.wrap           ((IntKind.u64.wrap (IntKind.i64.wrap (v1 + v3))).fdiv             ((2 : Int) ^ Min.min (Int.toNat (1 : Int)) IntKind.u64.bits)) +         v2) -     (1 : Int)))
   else
    lp33 (v0) (v1) (v2) (v3) (IntKind.i64.wrap   ((IntKind.u64.wrap (IntKind.i64.wrap (v1 + v3))).fdiv     ((2 : Int) ^ Min.min (Int.toNat (1 : Int)) IntKind.u64.bits))) (IntKind.i64.wrap   (IntKind.i64.wrap       ((IntKind.u64.wrap (IntKind.i64.wrap (v1 + v3))).fdiv         ((2 : Int) ^ Min.min (Int.toNat (1 : Int)) IntKind.u64.bits)) +     v2)) (v1) (v2) (IntKind.i64.wrap   (IntKind.i64.wrap       (IntKind.i64.wrap           ((IntKind.u64.wrap (IntKind.i64.wrap (v1 + v3))).fdiv             ((2 : Int) ^ Min.min (Int.toNat (1 : Int)) IntKind.u64.bits)) +         v2) -     (1 : Int)))
noncomputable def xs09.t9 {γ : Type} (ret : ((List (List Int × Int))) → Option γ) (lp9 : (List (List Int × Int)) → Int → Int → Option γ) (lp3 : (List (List Int × Int)) → Int → Int → Int → Option γ) (lp21 : (List (List Int × Int)) → Int → Int → Option γ) (lp15 : (List (List Int × Int)) → Int → Int → Int → Option γ) (lp33 : (List (List Int × Int)) → Int → Int → Int → Int → Int → Int → Int → Int → Option γ) (v0 : List (List Int × Int)) (v1 : Int) (v2 : Int) : Option γ :=
 bif decide (v2 < IntKind.i64.wrap (v1 - (1 : Int))) then
  bif decide ((0 : Int) ≤ IntKind.i64.wrap (v2 + (1 : Int))) then
   bif decide ((IntKind.i64.wrap (v2 + (1 : Int))).toNat < v0.length) then
    bif decide ((IntKind.i64.wrap (v2 + (1 : Int))).toNat < v0.length) then
     bif decide ((0 : Int) ≤ v2) then
      bif decide (v2.toNat < v0.length) then
       bif decide (v2.toNat < v0.length) then
        bif decide ((0 : Int) ≤ v2) then
         bif decide (v2.toNat < v0.length) then
          bif decide (v2.toNat < v0.length) then
           bif decide ((0 : Int) ≤ IntKind.i64.wrap (v2 + (1 : Int))) then
            bif decide   ((IntKind.i64.wrap (v2 + (1 : Int))).toNat <     (v0.set v2.toNat         ((v0.getD (IntKind.i64.wrap (v2 + (1 : Int))).toNat ([], (0 : Int))).fst,           (v0.getD (IntKind.i64.wrap (v2 + (1 : Int))).toNat ([], (0 : Int))).snd)).length) then
             bif decide   ((IntKind.i64.wrap (v2 + (1 : Int))).toNat <     (v0.set v2.toNat         ((v0.getD (IntKind.i64.wrap (v2 + (1 : Int))).toNat ([], (0 : Int))).fst,           (v0.getD (IntKind.i64.wrap (v2 + (1 : Int))).toNat ([], (0 : Int))).snd)).length) then
              lp9 ((v0.set v2.toNat       ((v0.getD (IntKind.i64.wrap (v2 + (1 : Int))).toNat ([], (0 : Int))).fst,         (v0.getD (IntKind.i64.wrap (v2 + (1 : Int))).toNat ([], (0 : Int))).snd)).set   (IntKind.i64.wrap (v2 + (1 : Int))).toNat   ((v0.getD v2.toNat ([], (0 : Int))).fst, (v0.getD v2.toNat ([], (0 : Int))).snd)) (v1) (IntKind.i64.wrap (v2 + (1 : Int)))
             else
              none
            else
             none
           else
            none
          else
           none
         else
          none
        else
         none
       else
        none
      else
       none
     else
      none
    else
     none
   else
    none
  else
   none
 else
  ret (v0)
noncomputable def xs09.t3 {γ : Type} (ret : ((List (List Int × Int))) → Option γ) (lp9 : (List (List Int × Int)) → Int → Int → Option γ) (lp3 : (List (List Int × Int)) → Int → Int → Int → Option γ) (lp21 : (List (List Int × Int)) → Int → Int → Option γ) (lp15 : (List (List Int × Int)) → Int → Int → Int → Option γ) (lp33 : (List (List Int × Int)) → Int → Int → Int → Int → Int → Int → Int → Int → Option γ) (v0 : List (List Int × Int)) (v1 : Int) (v2 : Int) (v3 : Int) : Option γ :=
 bif decide (v2 < v3) then
  bif decide   ((0 : Int) ≤     IntKind.i64.wrap       ((IntKind.u64.wrap (IntKind.i64.wrap (v2 + v3))).fdiv         ((2 : Int) ^ Min.min (Int.toNat (1 : Int)) IntKind.u64.bits))) then
   bif decide   ((IntKind.i64.wrap         ((IntKind.u64.wrap (IntKind.i64.wrap (v2 + v3))).fdiv           ((2 : Int) ^ Min.min (Int.toNat (1 : Int)) IntKind.u64.bits))).toNat <     v0.length) then
    bif decide   ((IntKind.i64.wrap         ((IntKind.u64.wrap (IntKind.i64.wrap (v2 + v3))).fdiv           ((2 : Int) ^ Min.min (Int.toNat (1 : Int)) IntKind.u64.bits))).toNat <     v0.length) then
     bif decide ((0 : Int) ≤ v1) then
      bif decide (v1.toNat < v0.length) then
       bif decide (v1.toNat < v0.length) then
        (impl_summed_1 ((v0.getD     (IntKind.i64.wrap         ((IntKind.u64.wrap (IntKind.i64.wrap (v2 + v3))).fdiv           ((2 : Int) ^ Min.min (Int.toNat (1 : Int)) IntKind.u64.bits))).toNat     ([], (0 : Int))).fst) ((v0.getD     (IntKind.i64.wrap         ((IntKind.u64.wrap (IntKind.i64.wrap (v2 + v3))).fdiv           ((2 : Int) ^ Min.min (Int.toNat (1 : Int)) IntKind.u64.bits))).toNat     ([], (0 : Int))).snd) ((v0.getD v1.toNat ([], (0 : Int))).fst) ((v0.getD v1.toNat ([], (0 : Int))).snd)).bind fun (r0 : Int) =>
        bif decide (r0 < (0 : Int)) then
         lp3 (v0) (v1) (IntKind.i64.wrap   (IntKind.i64.wrap       ((IntKind.u64.wrap (IntKind.i64.wrap (v2 + v3))).fdiv         ((2 : Int) ^ Min.min (Int.toNat (1 : Int)) IntKind.u64.bits)) +     (1 : Int))) (v3)
        else
         lp3 (v0) (v1) (v2) (IntKind.i64.wrap   ((IntKind.u64.wrap (IntKind.i64.wrap (v2 + v3))).fdiv     ((2 : Int) ^ Min.min (Int.toNat (1 : Int)) IntKind.u64.bits)))
       else
        none
      else
       none
     else
      none
    else
     none
   else
    none
  else
   none
 else
  lp9 (v0) (v2) (v1)
noncomputable def xs09.t21 {γ : Type} (ret : ((List (List Int × Int))) → Option γ) (lp9 : (List (List Int × Int)) → Int → Int → Option γ) (lp3 : (List (List Int × Int)) → Int → Int → Int → Option γ) (lp21 : (List (List Int × Int)) → Int → Int → Option γ) (lp15 : (List (List Int × Int)) → Int → Int → Int → Option γ) (lp33 : (List (List Int × Int)) → Int → Int → Int → Int → Int → Int → Int → Int → Option γ) (v0 : List (List Int × Int)) (v1 : Int) (v2 : Int) : Option γ :=
 bif decide (v2 > v1) then
  bif decide ((0 : Int) ≤ IntKind.i64.wrap (v2 - (1 : Int))) then
   bif decide ((IntKind.i64.wrap (v2 - (1 : Int))).toNat < v0.length) then
    bif decide ((IntKind.i64.wrap (v2 - (1 : Int))).toNat < v0.length) then
     bif decide ((0 : Int) ≤ v2) then
      bif decide (v2.toNat < v0.length) then
       bif decide (v2.toNat < v0.length) then
        bif decide ((0 : Int) ≤ v2) then
         bif decide (v2.toNat < v0.length) then
          bif decide (v2.toNat < v0.length) then
           bif decide ((0 : Int) ≤ IntKind.i64.wrap (v2 - (1 : Int))) then
            bif decide   ((IntKind.i64.wrap (v2 - (1 : Int))).toNat <     (v0.set v2.toNat         ((v0.getD (IntKind.i64.wrap (v2 - (1 : Int))).toNat ([], (0 : Int))).fst,           (v0.getD (IntKind.i64.wrap (v2 - (1 : Int))).toNat ([], (0 : Int))).snd)).length) then
             bif decide   ((IntKind.i64.wrap (v2 - (1 : Int))).toNat <     (v0.set v2.toNat         ((v0.getD (IntKind.i64.wrap (v2 - (1 : Int))).toNat ([], (0 : Int))).fst,           (v0.getD (IntKind.i64.wrap (v2 - (1 : Int))).toNat ([], (0 : Int))).snd)).length) then
              lp21 ((v0.set v2.toNat       ((v0.getD (IntKind.i64.wrap (v2 - (1 : Int))).toNat ([], (0 : Int))).fst,         (v0.getD (IntKind.i64.wrap (v2 - (1 : Int))).toNat ([], (0 : Int))).snd)).set   (IntKind.i64.wrap (v2 - (1 : Int))).toNat   ((v0.getD v2.toNat ([], (0 : Int))).fst, (v0.getD v2.toNat ([], (0 : Int))).snd)) (v1) (IntKind.i64.wrap (v2 - (1 : Int)))
             else
              none
            else
             none
           else
            none
          else
           none
         else
          none
        else
         none
       else
        none
      else
       none
     else
      none
    else
     none
   else
    none
  else
   none
 else
  ret (v0)
noncomputable def xs09.t15 {γ : Type} (ret : ((List (List Int × Int))) → Option γ) (lp9 : (List (List Int × Int)) → Int → Int → Option γ) (lp3 : (List (List Int × Int)) → Int → Int → Int → Option γ) (lp21 : (List (List Int × Int)) → Int → Int → Option γ) (lp15 : (List (List Int × Int)) → Int → Int → Int → Option γ) (lp33 : (List (List Int × Int)) → Int → Int → Int → Int → Int → Int → Int → Int → Option γ) (v0 : List (List Int × Int)) (v1 : Int) (v2 : Int) (v3 : Int) : Option γ :=
 bif decide (v2 < v3) then
  bif decide ((0 : Int) ≤ v1) then
   bif decide (v1.toNat < v0.length) then
    bif decide (v1.toNat < v0.length) then
     bif decide   ((0 : Int) ≤     IntKind.i64.wrap       ((IntKind.u64.wrap (IntKind.i64.wrap (v2 + v3))).fdiv         ((2 : Int) ^ Min.min (Int.toNat (1 : Int)) IntKind.u64.bits))) then
      bif decide   ((IntKind.i64.wrap         ((IntKind.u64.wrap (IntKind.i64.wrap (v2 + v3))).fdiv           ((2 : Int) ^ Min.min (Int.toNat (1 : Int)) IntKind.u64.bits))).toNat <     v0.length) then
       bif decide   ((IntKind.i64.wrap         ((IntKind.u64.wrap (IntKind.i64.wrap (v2 + v3))).fdiv           ((2 : Int) ^ Min.min (Int.toNat (1 : Int)) IntKind.u64.bits))).toNat <     v0.length) then
        (impl_summed_1 ((v0.getD v1.toNat ([], (0 : Int))).fst) ((v0.getD v1.toNat ([], (0 : Int))).snd) ((v0.getD     (IntKind.i64.wrap         ((IntKind.u64.wrap (IntKind.i64.wrap (v2 + v3))).fdiv           ((2 : Int) ^ Min.min (Int.toNat (1 : Int)) IntKind.u64.bits))).toNat     ([], (0 : Int))).fst) ((v0.getD     (IntKind.i64.wrap         ((IntKind.u64.wrap (IntKind.i64.wrap (v2 + v3))).fdiv           ((2 : Int) ^ Min.min (Int.toNat (1 : Int)) IntKind.u64.bits))).toNat     ([], (0 : Int))).snd)).bind fun (r1 : Int) =>
        bif !decide (r1 < (0 : Int)) then
         lp15 (v0) (v1) (IntKind.i64.wrap   (IntKind.i64.wrap       ((IntKind.u64.wrap (IntKind.i64.wrap (v2 + v3))).fdiv         ((2 : Int) ^ Min.min (Int.toNat (1 : Int)) IntKind.u64.bits)) +     (1 : Int))) (v3)
        else
         lp15 (v0) (v1) (v2) (IntKind.i64.wrap   ((IntKind.u64.wrap (IntKind.i64.wrap (v2 + v3))).fdiv     ((2 : Int) ^ Min.min (Int.toNat (1 : Int)) IntKind.u64.bits)))
       else
        none
      else
       none
     else
      none
    else
     none
   else
    none
  else
   none
 else
  lp21 (v0) (v2) (v1)
noncomputable def xs09.t33 {γ : Type} (ret : ((List (List Int × Int))) → Option γ) (lp9 : (List (List Int × Int)) → Int → Int → Option γ) (lp3 : (List (List Int × Int)) → Int → Int → Int → Option γ) (lp21 : (List (List Int × Int)) → Int → Int → Option γ) (lp15 : (List (List Int × Int)) → Int → Int → Int → Option γ) (lp33 : (List (List Int × Int)) → Int → Int → Int → Int → Int → Int → Int → Int → Option γ) (v0 : List (List Int × Int)) (v1 : Int) (v2 : Int) (v3 : Int) (v4 : Int) (v5 : Int) (v6 : Int) (v7 : Int) (v8 : Int) : Option γ :=
 bif decide (v6 < v7) then
  bif decide   ((0 : Int) ≤     IntKind.i64.wrap       (v8 -         IntKind.i64.wrap           ((IntKind.u64.wrap (IntKind.i64.wrap (v6 + v7))).fdiv             ((2 : Int) ^ Min.min (Int.toNat (1 : Int)) IntKind.u64.bits)))) then
   bif decide   ((IntKind.i64.wrap         (v8 -           IntKind.i64.wrap             ((IntKind.u64.wrap (IntKind.i64.wrap (v6 + v7))).fdiv               ((2 : Int) ^ Min.min (Int.toNat (1 : Int)) IntKind.u64.bits)))).toNat <     v0.length) then
    bif decide   ((IntKind.i64.wrap         (v8 -           IntKind.i64.wrap             ((IntKind.u64.wrap (IntKind.i64.wrap (v6 + v7))).fdiv               ((2 : Int) ^ Min.min (Int.toNat (1 : Int)) IntKind.u64.bits)))).toNat <     v0.length) then
     bif decide   ((0 : Int) ≤     IntKind.i64.wrap       ((IntKind.u64.wrap (IntKind.i64.wrap (v6 + v7))).fdiv         ((2 : Int) ^ Min.min (Int.toNat (1 : Int)) IntKind.u64.bits))) then
      bif decide   ((IntKind.i64.wrap         ((IntKind.u64.wrap (IntKind.i64.wrap (v6 + v7))).fdiv           ((2 : Int) ^ Min.min (Int.toNat (1 : Int)) IntKind.u64.bits))).toNat <     v0.length) then
       bif decide   ((IntKind.i64.wrap         ((IntKind.u64.wrap (IntKind.i64.wrap (v6 + v7))).fdiv           ((2 : Int) ^ Min.min (Int.toNat (1 : Int)) IntKind.u64.bits))).toNat <     v0.length) then
        (impl_summed_1 ((v0.getD     (IntKind.i64.wrap         (v8 -           IntKind.i64.wrap             ((IntKind.u64.wrap (IntKind.i64.wrap (v6 + v7))).fdiv               ((2 : Int) ^ Min.min (Int.toNat (1 : Int)) IntKind.u64.bits)))).toNat     ([], (0 : Int))).fst) ((v0.getD     (IntKind.i64.wrap         (v8 -           IntKind.i64.wrap             ((IntKind.u64.wrap (IntKind.i64.wrap (v6 + v7))).fdiv               ((2 : Int) ^ Min.min (Int.toNat (1 : Int)) IntKind.u64.bits)))).toNat     ([], (0 : Int))).snd) ((v0.getD     (IntKind.i64.wrap         ((IntKind.u64.wrap (IntKind.i64.wrap (v6 + v7))).fdiv           ((2 : Int) ^ Min.min (Int.toNat (1 : Int)) IntKind.u64.bits))).toNat     ([], (0 : Int))).fst) ((v0.getD     (IntKind.i64.wrap         ((IntKind.u64.wrap (IntKind.i64.wrap (v6 + v7))).fdiv           ((2 : Int) ^ Min.min (Int.toNat (1 : Int)) IntKind.u64.bits))).toNat     ([], (0 : Int))).snd)).bind fun (r2 : Int) =>
        bif !decide (r2 < (0 : Int)) then
         lp33 (v0) (v1) (v2) (v3) (v4) (v5) (IntKind.i64.wrap   (IntKind.i64.wrap       ((IntKind.u64.wrap (IntKind.i64.wrap (v6 + v7))).fdiv         ((2 : Int) ^ Min.min (Int.toNat (1 : Int)) IntKind.u64.bits)) +     (1 : Int))) (v7) (v8)
        else
         lp33 (v0) (v1) (v2) (v3) (v4) (v5) (v6) (IntKind.i64.wrap   ((IntKind.u64.wrap (IntKind.i64.wrap (v6 + v7))).fdiv     ((2 : Int) ^ Min.min (Int.toNat (1 : Int)) IntKind.u64.bits))) (v8)
       else
        none
      else
       none
     else
      none
    else
     none
   else
    none
  else
   none
 else
  bif decide (v6 < v2) then
   bif decide (v2 < IntKind.i64.wrap (v5 - v6)) then
    (xs0a (v0) (v6) (v2) (IntKind.i64.wrap (v5 - v6))).bind fun (r3 : (List (List Int × Int))) =>
    bif decide (v1 < v6) then
     bif decide (v6 < v4) then
      (xs09 (r3) (v1) (v6) (v4)).bind fun (r4 : (List (List Int × Int))) =>
      bif decide (v4 < IntKind.i64.wrap (v5 - v6)) then
       bif decide (IntKind.i64.wrap (v5 - v6) < v3) then
        (xs09 (r4) (v4) (IntKind.i64.wrap (v5 - v6)) (v3)).bind fun (r5 : (List (List Int × Int))) =>
        ret (r5)
       else
        ret (r4)
      else
       ret (r4)
     else
      bif decide (v4 < IntKind.i64.wrap (v5 - v6)) then
       bif decide (IntKind.i64.wrap (v5 - v6) < v3) then
        (xs09 (r3) (v4) (IntKind.i64.wrap (v5 - v6)) (v3)).bind fun (r6 : (List (List Int × Int))) =>
        ret (r6)
       else
        ret (r3)
      else
       ret (r3)
    else
     bif decide (v4 < IntKind.i64.wrap (v5 - v6)) then
      bif decide (IntKind.i64.wrap (v5 - v6) < v3) then
       (xs09 (r3) (v4) (IntKind.i64.wrap (v5 - v6)) (v3)).bind fun (r7 : (List (List Int × Int))) =>
       ret (r7)
      else
       ret (r3)
     else
      ret (r3)
   else
    bif decide (v1 < v6) then
     bif decide (v6 < v4) then
      (xs09 (v0) (v1) (v6) (v4)).bind fun (r8 : (List (List Int × Int))) =>
      bif decide (v4 < IntKind.i64.wrap (v5 - v6)) then
       bif decide (IntKind.i64.wrap (v5 - v6) < v3) then
        (xs09 (r8) (v4) (IntKind.i64.wrap (v5 - v6)) (v3)).bind fun (r9 : (List (List Int × Int))) =>
        ret (r9)
       else
        ret (r8)
      else
       ret (r8)
     else
      bif decide (v4 < IntKind.i64.wrap (v5 - v6)) then
       bif decide (IntKind.i64.wrap (v5 - v6) < v3) then
        (xs09 (v0) (v4) (IntKind.i64.wrap (v5 - v6)) (v3)).bind fun (r10 : (List (List Int × Int))) =>
        ret (r10)
       else
        ret (v0)
      else
       ret (v0)
    else
     bif decide (v4 < IntKind.i64.wrap (v5 - v6)) then
      bif decide (IntKind.i64.wrap (v5 - v6) < v3) then
       (xs09 (v0) (v4) (IntKind.i64.wrap (v5 - v6)) (v3)).bind fun (r11 : (List (List Int × Int))) =>
       ret (r11)
      else
       ret (v0)
     else
      ret (v0)
  else
   bif decide (v1 < v6) then
    bif decide (v6 < v4) then
     (xs09 (v0) (v1) (v6) (v4)).bind fun (r12 : (List (List Int × Int))) =>
     bif decide (v4 < IntKind.i64.wrap (v5 - v6)) then
      bif decide (IntKind.i64.wrap (v5 - v6) < v3) then
       (xs09 (r12) (v4) (IntKind.i64.wrap (v5 - v6)) (v3)).bind fun (r13 : (List (List Int × Int))) =>
       ret (r13)
      else
       ret (r12)
     else
      ret (r12)
    else
     bif decide (v4 < IntKind.i64.wrap (v5 - v6)) then
      bif decide (IntKind.i64.wrap (v5 - v6) < v3) then
       (xs09 (v0) (v4) (IntKind.i64.wrap (v5 - v6)) (v3)).bind fun (r14 : (List (List Int × Int))) =>
       ret (r14)
      else
       ret (v0)
     else
      ret (v0)
   else
    bif decide (v4 < IntKind.i64.wrap (v5 - v6)) then
     bif decide (IntKind.i64.wrap (v5 - v6) < v3) then
      (xs09 (v0) (v4) (IntKind.i64.wrap (v5 - v6)) (v3)).bind fun (r15 : (List (List Int × Int))) =>
      ret (r15)
     else
      ret (v0)
    else
     ret (v0)
theorem xs09.k (v0 : List (List Int × Int)) (v1 : Int) (v2 : Int) (v3 : Int) : topL E (callT E tab) 158 Try.f158 (xs09.c v0 v1 v2 v3) = xs09.t (fun b => some (xs09.mk b)) xs09.q9 xs09.q3 xs09.q21 xs09.q15 xs09.q33 v0 v1 v2 v3 := by kernel_rfl
theorem xs09.k9 (v0 : List (List Int × Int)) (v1 : Int) (v2 : Int) : roundL E (callT E tab) 158 Try.f158 5 [.l, .r, .l, .r, .r, .r, .l, .r, .b] (⟨(.val .one), [.d .sha (.sl (.pair (.sl (.int .i64)) (.int .i64))) v0], true, false, false, 0, 0⟩ :: nn 9 (vc (iL v1) :: nn 2 (vc (iL v2) :: nn 206 ([])))) = xs09.t9 (fun b => some (xs09.mk b)) xs09.q9 xs09.q3 xs09.q21 xs09.q15 xs09.q33 v0 v1 v2 := by kernel_rfl
theorem xs09.k3 (v0 : List (List Int × Int)) (v1 : Int) (v2 : Int) (v3 : Int) : roundL E (callT E tab) 158 Try.f158 5 [.l, .r, .l, .r, .r, .l, .b] (⟨(.val .one), [.d .sha (.sl (.pair (.sl (.int .i64)) (.int .i64))) v0], true, false, false, 0, 0⟩ :: vc (iL v1) :: nn 2 (vc (.fn 130 []) :: nn 5 (vc (iL v2) :: vc (iL v3) :: nn 208 ([])))) = xs09.t3 (fun b => some (xs09.mk b)) xs09.q9 xs09.q3 xs09.q21 xs09.q15 xs09.q33 v0 v1 v2 v3 := by kernel_rfl
theorem xs09.k21 (v0 : List (List Int × Int)) (v1 : Int) (v2 : Int) : roundL E (callT E tab) 158 Try.f158 5 [.r, .l, .r, .l, .r, .r, .r, .l, .r, .b] (⟨(.val .one), [.d .sha (.sl (.pair (.sl (.int .i64)) (.int .i64))) v0], true, false, false, 0, 0⟩ :: nn 13 (vc (iL v1) :: nn 2 (vc (iL v2) :: nn 202 ([])))) = xs09.t21 (fun b => some (xs09.mk b)) xs09.q9 xs09.q3 xs09.q21 xs09.q15 xs09.q33 v0 v1 v2 := by kernel_rfl
theorem xs09.k15 (v0 : List (List Int × Int)) (v1 : Int) (v2 : Int) (v3 : Int) : roundL E (callT E tab) 158 Try.f158 5 [.r, .l, .r, .l, .r, .r, .l, .b] (⟨(.val .one), [.d .sha (.sl (.pair (.sl (.int .i64)) (.int .i64))) v0], true, false, false, 0, 0⟩ :: nn 1 (vc (iL v1) :: nn 1 (vc (.fn 130 []) :: nn 9 (vc (iL v2) :: vc (iL v3) :: nn 204 ([]))))) = xs09.t15 (fun b => some (xs09.mk b)) xs09.q9 xs09.q3 xs09.q21 xs09.q15 xs09.q33 v0 v1 v2 v3 := by kernel_rfl
theorem xs09.k33 (v0 : List (List Int × Int)) (v1 : Int) (v2 : Int) (v3 : Int) (v4 : Int) (v5 : Int) (v6 : Int) (v7 : Int) (v8 : Int) : roundL E (callT E tab) 158 Try.f158 5 [.r, .r, .r, .r, .r, .r, .r, .l, .b] (⟨(.val .one), [.d .sha (.sl (.pair (.sl (.int .i64)) (.int .i64))) v0], true, false, false, 0, 0⟩ :: vc (iL v1) :: vc (iL v2) :: vc (iL v3) :: vc (.fn 130 []) :: nn 13 (vc (iL v4) :: vc (iL v5) :: vc (iL v6) :: vc (iL v7) :: vc (iL v8) :: nn 197 ([]))) = xs09.t33 (fun b => some (xs09.mk b)) xs09.q9 xs09.q3 xs09.q21 xs09.q15 xs09.q33 v0 v1 v2 v3 v4 v5 v6 v7 v8 := by kernel_rfl
theorem xs09.s (v0 : List (List Int × Int)) (v1 : Int) (v2 : Int) (v3 : Int) : Sub xs09.mk (xs09.t some xs09.l9 xs09.l3 xs09.l21 xs09.l15 xs09.l33 v0 v1 v2 v3) (xs09.t (fun b => some (xs09.mk b)) xs09.q9 xs09.q3 xs09.q21 xs09.q15 xs09.q33 v0 v1 v2 v3) := by
 unfold xs09.t
 repeat' first | exact Sub.ret | exact Sub.none | exact Sub.loop | apply Sub.cond | (apply Sub.bind; intro _)
theorem xs09.eq (v0 : List (List Int × Int)) (v1 : Int) (v2 : Int) (v3 : Int) {b : (List (List Int × Int))} (h : xs09.t some xs09.l9 xs09.l3 xs09.l21 xs09.l15 xs09.l33 v0 v1 v2 v3 = some b) : xs09 v0 v1 v2 v3 = some b := tOf_intro xs09.un (fun _ => by kernel_rfl) (vlim_fn (callT_le E tab) rfl rfl rfl ((xs09.k v0 v1 v2 v3).trans (xs09.s v0 v1 v2 v3 b h)))
theorem xs09.s9 (v0 : List (List Int × Int)) (v1 : Int) (v2 : Int) : Sub xs09.mk (xs09.t9 some xs09.l9 xs09.l3 xs09.l21 xs09.l15 xs09.l33 v0 v1 v2) (xs09.t9 (fun b => some (xs09.mk b)) xs09.q9 xs09.q3 xs09.q21 xs09.q15 xs09.q33 v0 v1 v2) := by
 unfold xs09.t9
 repeat' first | exact Sub.ret | exact Sub.none | exact Sub.loop | apply Sub.cond | (apply Sub.bind; intro _)
theorem xs09.eq9 (v0 : List (List Int × Int)) (v1 : Int) (v2 : Int) {b : (List (List Int × Int))} (h : xs09.t9 some xs09.l9 xs09.l3 xs09.l21 xs09.l15 xs09.l33 v0 v1 v2 = some b) : xs09.l9 v0 v1 v2 = some b := tOf_intro xs09.un (fun _ => by kernel_rfl) (loopAtL_step ((xs09.k9 v0 v1 v2).trans (xs09.s9 v0 v1 v2 b h)))
theorem xs09.s3 (v0 : List (List Int × Int)) (v1 : Int) (v2 : Int) (v3 : Int) : Sub xs09.mk (xs09.t3 some xs09.l9 xs09.l3 xs09.l21 xs09.l15 xs09.l33 v0 v1 v2 v3) (xs09.t3 (fun b => some (xs09.mk b)) xs09.q9 xs09.q3 xs09.q21 xs09.q15 xs09.q33 v0 v1 v2 v3) := by
 unfold xs09.t3
 repeat' first | exact Sub.ret | exact Sub.none | exact Sub.loop | apply Sub.cond | (apply Sub.bind; intro _)
theorem xs09.eq3 (v0 : List (List Int × Int)) (v1 : Int) (v2 : Int) (v3 : Int) {b : (List (List Int × Int))} (h : xs09.t3 some xs09.l9 xs09.l3 xs09.l21 xs09.l15 xs09.l33 v0 v1 v2 v3 = some b) : xs09.l3 v0 v1 v2 v3 = some b := tOf_intro xs09.un (fun _ => by kernel_rfl) (loopAtL_step ((xs09.k3 v0 v1 v2 v3).trans (xs09.s3 v0 v1 v2 v3 b h)))
theorem xs09.s21 (v0 : List (List Int × Int)) (v1 : Int) (v2 : Int) : Sub xs09.mk (xs09.t21 some xs09.l9 xs09.l3 xs09.l21 xs09.l15 xs09.l33 v0 v1 v2) (xs09.t21 (fun b => some (xs09.mk b)) xs09.q9 xs09.q3 xs09.q21 xs09.q15 xs09.q33 v0 v1 v2) := by
 unfold xs09.t21
 repeat' first | exact Sub.ret | exact Sub.none | exact Sub.loop | apply Sub.cond | (apply Sub.bind; intro _)
theorem xs09.eq21 (v0 : List (List Int × Int)) (v1 : Int) (v2 : Int) {b : (List (List Int × Int))} (h : xs09.t21 some xs09.l9 xs09.l3 xs09.l21 xs09.l15 xs09.l33 v0 v1 v2 = some b) : xs09.l21 v0 v1 v2 = some b := tOf_intro xs09.un (fun _ => by kernel_rfl) (loopAtL_step ((xs09.k21 v0 v1 v2).trans (xs09.s21 v0 v1 v2 b h)))
theorem xs09.s15 (v0 : List (List Int × Int)) (v1 : Int) (v2 : Int) (v3 : Int) : Sub xs09.mk (xs09.t15 some xs09.l9 xs09.l3 xs09.l21 xs09.l15 xs09.l33 v0 v1 v2 v3) (xs09.t15 (fun b => some (xs09.mk b)) xs09.q9 xs09.q3 xs09.q21 xs09.q15 xs09.q33 v0 v1 v2 v3) := by
 unfold xs09.t15
 repeat' first | exact Sub.ret | exact Sub.none | exact Sub.loop | apply Sub.cond | (apply Sub.bind; intro _)
theorem xs09.eq15 (v0 : List (List Int × Int)) (v1 : Int) (v2 : Int) (v3 : Int) {b : (List (List Int × Int))} (h : xs09.t15 some xs09.l9 xs09.l3 xs09.l21 xs09.l15 xs09.l33 v0 v1 v2 v3 = some b) : xs09.l15 v0 v1 v2 v3 = some b := tOf_intro xs09.un (fun _ => by kernel_rfl) (loopAtL_step ((xs09.k15 v0 v1 v2 v3).trans (xs09.s15 v0 v1 v2 v3 b h)))
theorem xs09.s33 (v0 : List (List Int × Int)) (v1 : Int) (v2 : Int) (v3 : Int) (v4 : Int) (v5 : Int) (v6 : Int) (v7 : Int) (v8 : Int) : Sub xs09.mk (xs09.t33 some xs09.l9 xs09.l3 xs09.l21 xs09.l15 xs09.l33 v0 v1 v2 v3 v4 v5 v6 v7 v8) (xs09.t33 (fun b => some (xs09.mk b)) xs09.q9 xs09.q3 xs09.q21 xs09.q15 xs09.q33 v0 v1 v2 v3 v4 v5 v6 v7 v8) := by
 unfold xs09.t33
 repeat' first | exact Sub.ret | exact Sub.none | exact Sub.loop | apply Sub.cond | (apply Sub.bind; intro _)
theorem xs09.eq33 (v0 : List (List Int × Int)) (v1 : Int) (v2 : Int) (v3 : Int) (v4 : Int) (v5 : Int) (v6 : Int) (v7 : Int) (v8 : Int) {b : (List (List Int × Int))} (h : xs09.t33 some xs09.l9 xs09.l3 xs09.l21 xs09.l15 xs09.l33 v0 v1 v2 v3 v4 v5 v6 v7 v8 = some b) : xs09.l33 v0 v1 v2 v3 v4 v5 v6 v7 v8 = some b := tOf_intro xs09.un (fun _ => by kernel_rfl) (loopAtL_step ((xs09.k33 v0 v1 v2 v3 v4 v5 v6 v7 v8).trans (xs09.s33 v0 v1 v2 v3 v4 v5 v6 v7 v8 b h)))
noncomputable def xs0a.q2 (v0 : List (List Int × Int)) (v1 : Int) (v2 : Int) (v3 : Int) : Option R := loopAtL E (callT E tab) 164 Try.f164 5 [.r, .r, .l, .b] (⟨(.val .one), [.d .sha (.sl (.pair (.sl (.int .i64)) (.int .i64))) v0], true, false, false, 0, 0⟩ :: nn 1 (vc (iL v1) :: nn 1 (vc (.fn 130 []) :: nn 5 (vc (iL v2) :: vc (iL v3) :: nn 46 ([])))))
noncomputable def xs0a.l2 (v0 : List (List Int × Int)) (v1 : Int) (v2 : Int) (v3 : Int) : Option ((List (List Int × Int))) := tOf xs0a.mk (xs0a.q2 v0 v1 v2 v3)
noncomputable def xs0a.t {γ : Type} (ret : ((List (List Int × Int))) → Option γ) (lp2 : (List (List Int × Int)) → Int → Int → Int → Option γ) (v0 : List (List Int × Int)) (v1 : Int) (v2 : Int) (v3 : Int) : Option γ :=
 lp2 (v0) (v2) (IntKind.i64.wrap (v2 - v1)) (IntKind.i64.wrap (v3 - v2))
noncomputable def xs0a.t2 {γ : Type} (ret : ((List (List Int × Int))) → Option γ) (lp2 : (List (List Int × Int)) → Int → Int → Int → Option γ) (v0 : List (List Int × Int)) (v1 : Int) (v2 : Int) (v3 : Int) : Option γ :=
 bif v2 != v3 then
  bif decide (v2 > v3) then
   (xs07 (v0) (IntKind.i64.wrap (v1 - v2)) (v1) (v3)).bind fun (r0 : (List (List Int × Int))) =>
   lp2 (r0) (v1) (IntKind.i64.wrap (v2 - v3)) (v3)
  else
   (xs07 (v0) (IntKind.i64.wrap (v1 - v2)) (IntKind.i64.wrap (IntKind.i64.wrap (v1 + v3) - v2)) (v2)).bind fun (r1 : (List (List Int × Int))) =>
   lp2 (r1) (v1) (v2) (IntKind.i64.wrap (v3 - v2))
 else
  (xs07 (v0) (IntKind.i64.wrap (v1 - v2)) (v1) (v2)).bind fun (r2 : (List (List Int × Int))) =>
  ret (r2)
theorem xs0a.k (v0 : List (List Int × Int)) (v1 : Int) (v2 : Int) (v3 : Int) : topL E (callT E tab) 164 Try.f164 (xs0a.c v0 v1 v2 v3) = xs0a.t (fun b => some (xs0a.mk b)) xs0a.q2 v0 v1 v2 v3 := by kernel_rfl
theorem xs0a.k2 (v0 : List (List Int × Int)) (v1 : Int) (v2 : Int) (v3 : Int) : roundL E (callT E tab) 164 Try.f164 5 [.r, .r, .l, .b] (⟨(.val .one), [.d .sha (.sl (.pair (.sl (.int .i64)) (.int .i64))) v0], true, false, false, 0, 0⟩ :: nn 1 (vc (iL v1) :: nn 1 (vc (.fn 130 []) :: nn 5 (vc (iL v2) :: vc (iL v3) :: nn 46 ([]))))) = xs0a.t2 (fun b => some (xs0a.mk b)) xs0a.q2 v0 v1 v2 v3 := by kernel_rfl
theorem xs0a.s (v0 : List (List Int × Int)) (v1 : Int) (v2 : Int) (v3 : Int) : Sub xs0a.mk (xs0a.t some xs0a.l2 v0 v1 v2 v3) (xs0a.t (fun b => some (xs0a.mk b)) xs0a.q2 v0 v1 v2 v3) := by
 unfold xs0a.t
 repeat' first | exact Sub.ret | exact Sub.none | exact Sub.loop | apply Sub.cond | (apply Sub.bind; intro _)
theorem xs0a.eq (v0 : List (List Int × Int)) (v1 : Int) (v2 : Int) (v3 : Int) {b : (List (List Int × Int))} (h : xs0a.t some xs0a.l2 v0 v1 v2 v3 = some b) : xs0a v0 v1 v2 v3 = some b := tOf_intro xs0a.un (fun _ => by kernel_rfl) (vlim_fn (callT_le E tab) rfl rfl rfl ((xs0a.k v0 v1 v2 v3).trans (xs0a.s v0 v1 v2 v3 b h)))
theorem xs0a.s2 (v0 : List (List Int × Int)) (v1 : Int) (v2 : Int) (v3 : Int) : Sub xs0a.mk (xs0a.t2 some xs0a.l2 v0 v1 v2 v3) (xs0a.t2 (fun b => some (xs0a.mk b)) xs0a.q2 v0 v1 v2 v3) := by
 unfold xs0a.t2
 repeat' first | exact Sub.ret | exact Sub.none | exact Sub.loop | apply Sub.cond | (apply Sub.bind; intro _)
theorem xs0a.eq2 (v0 : List (List Int × Int)) (v1 : Int) (v2 : Int) (v3 : Int) {b : (List (List Int × Int))} (h : xs0a.t2 some xs0a.l2 v0 v1 v2 v3 = some b) : xs0a.l2 v0 v1 v2 v3 = some b := tOf_intro xs0a.un (fun _ => by kernel_rfl) (loopAtL_step ((xs0a.k2 v0 v1 v2 v3).trans (xs0a.s2 v0 v1 v2 v3 b h)))
noncomputable def xs07.q1 (v0 : List (List Int × Int)) (v1 : Int) (v2 : Int) (v3 : Int) (v4 : Int) : Option R := loopAtL E (callT E tab) 165 Try.f165 5 [.r, .b] (⟨(.val .one), [.d .sha (.sl (.pair (.sl (.int .i64)) (.int .i64))) v0], true, false, false, 0, 0⟩ :: vc (iL v1) :: vc (iL v2) :: vc (iL v3) :: nn 6 (vc (iL v4) :: nn 27 ([])))
noncomputable def xs07.l1 (v0 : List (List Int × Int)) (v1 : Int) (v2 : Int) (v3 : Int) (v4 : Int) : Option ((List (List Int × Int))) := tOf xs07.mk (xs07.q1 v0 v1 v2 v3 v4)
noncomputable def xs07.t {γ : Type} (ret : ((List (List Int × Int))) → Option γ) (lp1 : (List (List Int × Int)) → Int → Int → Int → Int → Option γ) (v0 : List (List Int × Int)) (v1 : Int) (v2 : Int) (v3 : Int) : Option γ :=
 lp1 (v0) (v1) (v2) (v3) ((0 : Int))
noncomputable def xs07.t1 {γ : Type} (ret : ((List (List Int × Int))) → Option γ) (lp1 : (List (List Int × Int)) → Int → Int → Int → Int → Option γ) (v0 : List (List Int × Int)) (v1 : Int) (v2 : Int) (v3 : Int) (v4 : Int) : Option γ :=
 bif decide (v4 < v3) then
  bif decide ((0 : Int) ≤ IntKind.i64.wrap (v2 + v4)) then
   bif decide ((IntKind.i64.wrap (v2 + v4)).toNat < v0.length) then
    bif decide ((IntKind.i64.wrap (v2 + v4)).toNat < v0.length) then
     bif decide ((0 : Int) ≤ IntKind.i64.wrap (v1 + v4)) then
      bif decide ((IntKind.i64.wrap (v1 + v4)).toNat < v0.length) then
       bif decide ((IntKind.i64.wrap (v1 + v4)).toNat < v0.length) then
        bif decide ((0 : Int) ≤ IntKind.i64.wrap (v1 + v4)) then
         bif decide ((IntKind.i64.wrap (v1 + v4)).toNat < v0.length) then
          bif decide ((IntKind.i64.wrap (v1 + v4)).toNat < v0.length) then
           bif decide ((0 : Int) ≤ IntKind.i64.wrap (v2 + v4)) then
            bif decide   ((IntKind.i64.wrap (v2 + v4)).toNat <     (v0.set (IntKind.i64.wrap (v1 + v4)).toNat         ((v0.getD (IntKind.i64.wrap (v2 + v4)).toNat ([], (0 : Int))).fst,           (v0.getD (IntKind.i64.wrap (v2 + v4)).toNat ([], (0 : Int))).snd)).length) then
             bif decide   ((IntKind.i64.wrap (v2 + v4)).toNat <     (v0.set (IntKind.i64.wrap (v1 + v4)).toNat         ((v0.getD (IntKind.i64.wrap (v2 + v4)).toNat ([], (0 : Int))).fst,           (v0.getD (IntKind.i64.wrap (v2 + v4)).toNat ([], (0 : Int))).snd)).length) then
              lp1 ((v0.set (IntKind.i64.wrap (v1 + v4)).toNat       ((v0.getD (IntKind.i64.wrap (v2 + v4)).toNat ([], (0 : Int))).fst,         (v0.getD (IntKind.i64.wrap (v2 + v4)).toNat ([], (0 : Int))).snd)).set   (IntKind.i64.wrap (v2 + v4)).toNat   ((v0.getD (IntKind.i64.wrap (v1 + v4)).toNat ([], (0 : Int))).fst,     (v0.getD (IntKind.i64.wrap (v1 + v4)).toNat ([], (0 : Int))).snd)) (v1) (v2) (v3) (IntKind.i64.wrap (v4 + (1 : Int)))
             else
              none
            else
             none
           else
            none
          else
           none
         else
          none
        else
         none
       else
        none
      else
       none
     else
      none
    else
     none
   else
    none
  else
   none
 else
  ret (v0)
theorem xs07.k (v0 : List (List Int × Int)) (v1 : Int) (v2 : Int) (v3 : Int) : topL E (callT E tab) 165 Try.f165 (xs07.c v0 v1 v2 v3) = xs07.t (fun b => some (xs07.mk b)) xs07.q1 v0 v1 v2 v3 := by kernel_rfl
theorem xs07.k1 (v0 : List (List Int × Int)) (v1 : Int) (v2 : Int) (v3 : Int) (v4 : Int) : roundL E (callT E tab) 165 Try.f165 5 [.r, .b] (⟨(.val .one), [.d .sha (.sl (.pair (.sl (.int .i64)) (.int .i64))) v0], true, false, false, 0, 0⟩ :: vc (iL v1) :: vc (iL v2) :: vc (iL v3) :: nn 6 (vc (iL v4) :: nn 27 ([]))) = xs07.t1 (fun b => some (xs07.mk b)) xs07.q1 v0 v1 v2 v3 v4 := by kernel_rfl
theorem xs07.s (v0 : List (List Int × Int)) (v1 : Int) (v2 : Int) (v3 : Int) : Sub xs07.mk (xs07.t some xs07.l1 v0 v1 v2 v3) (xs07.t (fun b => some (xs07.mk b)) xs07.q1 v0 v1 v2 v3) := by
 unfold xs07.t
 repeat' first | exact Sub.ret | exact Sub.none | exact Sub.loop | apply Sub.cond | (apply Sub.bind; intro _)
theorem xs07.eq (v0 : List (List Int × Int)) (v1 : Int) (v2 : Int) (v3 : Int) {b : (List (List Int × Int))} (h : xs07.t some xs07.l1 v0 v1 v2 v3 = some b) : xs07 v0 v1 v2 v3 = some b := tOf_intro xs07.un (fun _ => by kernel_rfl) (vlim_fn (callT_le E tab) rfl rfl rfl ((xs07.k v0 v1 v2 v3).trans (xs07.s v0 v1 v2 v3 b h)))
theorem xs07.s1 (v0 : List (List Int × Int)) (v1 : Int) (v2 : Int) (v3 : Int) (v4 : Int) : Sub xs07.mk (xs07.t1 some xs07.l1 v0 v1 v2 v3 v4) (xs07.t1 (fun b => some (xs07.mk b)) xs07.q1 v0 v1 v2 v3 v4) := by
 unfold xs07.t1
 repeat' first | exact Sub.ret | exact Sub.none | exact Sub.loop | apply Sub.cond | (apply Sub.bind; intro _)
theorem xs07.eq1 (v0 : List (List Int × Int)) (v1 : Int) (v2 : Int) (v3 : Int) (v4 : Int) {b : (List (List Int × Int))} (h : xs07.t1 some xs07.l1 v0 v1 v2 v3 v4 = some b) : xs07.l1 v0 v1 v2 v3 v4 = some b := tOf_intro xs07.un (fun _ => by kernel_rfl) (loopAtL_step ((xs07.k1 v0 v1 v2 v3 v4).trans (xs07.s1 v0 v1 v2 v3 v4 b h)))
end GoV

/- Equations of the program's functions (printed by wip/tools/emit.py). -/
namespace GoV
open Go Go.Proofs
set_option maxRecDepth 100000

noncomputable def impl_Row_own.t {γ : Type} (ret : ((List Int)) → Option γ) (v0 : List Int) : Option γ :=
 (xs0r (v0)).bind fun (r0 : (List Int)) =>
 ret (r0)
theorem impl_Row_own.k (v0 : List Int) : topL E (callT E tab) 109 Try.f109 (impl_Row_own.c v0) = impl_Row_own.t (fun b => some (impl_Row_own.mk b)) v0 := by kernel_rfl
theorem impl_Row_own.s (v0 : List Int) : Sub impl_Row_own.mk (impl_Row_own.t some v0) (impl_Row_own.t (fun b => some (impl_Row_own.mk b)) v0) := by
 unfold impl_Row_own.t
 repeat' first | exact Sub.ret | exact Sub.none | exact Sub.loop | apply Sub.cond | (apply Sub.bind; intro _)
theorem impl_Row_own.eq (v0 : List Int) {b : (List Int)} (h : impl_Row_own.t some v0 = some b) : impl_Row_own v0 = some b := tOf_intro impl_Row_own.un (fun _ => by kernel_rfl) (vlim_fn (callT_le E tab) rfl rfl rfl ((impl_Row_own.k v0).trans (impl_Row_own.s v0 b h)))
noncomputable def xs0r.t {γ : Type} (ret : ((List Int)) → Option γ) (v0 : List Int) : Option γ :=
 bif decide (v0.length ≤ (4294967296 : Nat)) then
  ret (v0)
 else
  none
theorem xs0r.k (v0 : List Int) : extOf 142 (xs0r.c v0) = xs0r.t (fun b => some (xs0r.mk b)) v0 := by kernel_rfl
theorem xs0r.s (v0 : List Int) : Sub xs0r.mk (xs0r.t some v0) (xs0r.t (fun b => some (xs0r.mk b)) v0) := by
 unfold xs0r.t
 repeat' first | exact Sub.ret | exact Sub.none | exact Sub.loop | apply Sub.cond | (apply Sub.bind; intro _)
theorem xs0r.eq (v0 : List Int) {b : (List Int)} (h : xs0r.t some v0 = some b) : xs0r v0 = some b := tOf_intro xs0r.un (fun _ => by kernel_rfl) (vlim_ext (g := extOf 142) rfl ((xs0r.k v0).trans (xs0r.s v0 b h)))
noncomputable def xi0s.t {γ : Type} (ret : (Int × (List (List Int × Int)) × Bool) → Option γ) (v0 : Int) (v1 : List (List Int × Int)) : Option γ :=
 (impl_GoodTable (v0) (v1)).bind fun (r0 : Bool) =>
 bif !r0 then
  ret ((0 : Int), [], Bool.false)
 else
  ret (v0, v1, Bool.true)
theorem xi0s.k (v0 : Int) (v1 : List (List Int × Int)) : topL E (callT E tab) 67 Try.f67 (xi0s.c v0 v1) = xi0s.t (fun b => some (xi0s.mk b)) v0 v1 := by kernel_rfl
theorem xi0s.s (v0 : Int) (v1 : List (List Int × Int)) : Sub xi0s.mk (xi0s.t some v0 v1) (xi0s.t (fun b => some (xi0s.mk b)) v0 v1) := by
 unfold xi0s.t
 repeat' first | exact Sub.ret | exact Sub.none | exact Sub.loop | apply Sub.cond | (apply Sub.bind; intro _)
theorem xi0s.eq (v0 : Int) (v1 : List (List Int × Int)) {b : Int × (List (List Int × Int)) × Bool} (h : xi0s.t some v0 v1 = some b) : xi0s v0 v1 = some b := tOf_intro xi0s.un (fun _ => by kernel_rfl) (vlim_fn (callT_le E tab) rfl rfl rfl ((xi0s.k v0 v1).trans (xi0s.s v0 v1 b h)))
noncomputable def impl_GoodTable.q4 (v0 : Int) (v1 : List (List Int × Int)) (v2 : List (List Int × Int)) (v3 : Int) (v4 : Int) : Option R := loopAtL E (callT E tab) 62 Try.f62 1 [.r, .r, .l, .r, .b] (nn 1 (⟨(.box false), [iL v0, .d .fro (.sl (.pair (.sl (.int .i64)) (.int .i64))) v1], false, false, false, 0, 0⟩ :: nn 14 (vc (.d .fro (.sl (.pair (.sl (.int .i64)) (.int .i64))) v2) :: vc (iL v3) :: vc (iL v4) :: nn 39 ([]))))
noncomputable def impl_GoodTable.l4 (v0 : Int) (v1 : List (List Int × Int)) (v2 : List (List Int × Int)) (v3 : Int) (v4 : Int) : Option (Bool) := tOf impl_GoodTable.mk (impl_GoodTable.q4 v0 v1 v2 v3 v4)
noncomputable def impl_GoodTable.t {γ : Type} (ret : (Bool) → Option γ) (lp4 : Int → (List (List Int × Int)) → (List (List Int × Int)) → Int → Int → Option γ) (v0 : Int) (v1 : List (List Int × Int)) : Option γ :=
 (impl_isColumns (v0)).bind fun (r0 : Bool) =>
 bif !r0 then
  ret (Bool.false)
 else
  bif decide ((↑v1.length : Int) > (60 : Int)) then
   ret (Bool.false)
  else
   lp4 (v0) (v1) (v1) ((↑v1.length : Int)) ((0 : Int))
noncomputable def impl_GoodTable.t4 {γ : Type} (ret : (Bool) → Option γ) (lp4 : Int → (List (List Int × Int)) → (List (List Int × Int)) → Int → Int → Option γ) (v0 : Int) (v1 : List (List Int × Int)) (v2 : List (List Int × Int)) (v3 : Int) (v4 : Int) : Option γ :=
 bif decide (v4 < v3) then
  bif decide ((0 : Int) ≤ v4) then
   bif decide (v4.toNat < v2.length) then
    (impl_isRowOf ((v2.getD v4.toNat ([], (0 : Int))).fst) (v0)).bind fun (r1 : Bool) =>
    bif !r1 then
     ret (Bool.false)
    else
     (impl_isWeight ((v2.getD v4.toNat ([], (0 : Int))).snd)).bind fun (r2 : Bool) =>
     bif !r2 then
      ret (Bool.false)
     else
      bif (v2.getD v4.toNat ([], (0 : Int))).snd == (0 : Int) then
       ret (Bool.false)
      else
       bif decide (v4 > (0 : Int)) then
        bif decide ((0 : Int) ≤ IntKind.i64.wrap (v4 - (1 : Int))) then
         bif decide ((IntKind.i64.wrap (v4 - (1 : Int))).toNat < v1.length) then
          (impl_compareRows ((v1.getD (IntKind.i64.wrap (v4 - (1 : Int))).toNat ([], (0 : Int))).fst) ((v2.getD v4.toNat ([], (0 : Int))).fst)).bind fun (r3 : Int) =>
          bif decide (r3 ≥ (0 : Int)) then
           ret (Bool.false)
          else
           lp4 (v0) (v1) (v2) (v3) (IntKind.i64.wrap (v4 + (1 : Int)))
         else
          none
        else
         none
       else
        lp4 (v0) (v1) (v2) (v3) (IntKind.i64.wrap (v4 + (1 : Int)))
   else
    none
  else
   none
 else
  ret (Bool.true)
theorem impl_GoodTable.k (v0 : Int) (v1 : List (List Int × Int)) : topL E (callT E tab) 62 Try.f62 (impl_GoodTable.c v0 v1) = impl_GoodTable.t (fun b => some (impl_GoodTable.mk b)) impl_GoodTable.q4 v0 v1 := by kernel_rfl
theorem impl_GoodTable.k4 (v0 : Int) (v1 : List (List Int × Int)) (v2 : List (List Int × Int)) (v3 : Int) (v4 : Int) : roundL E (callT E tab) 62 Try.f62 1 [.r, .r, .l, .r, .b] (nn 1 (⟨(.box false), [iL v0, .d .fro (.sl (.pair (.sl (.int .i64)) (.int .i64))) v1], false, false, false, 0, 0⟩ :: nn 14 (vc (.d .fro (.sl (.pair (.sl (.int .i64)) (.int .i64))) v2) :: vc (iL v3) :: vc (iL v4) :: nn 39 ([])))) = impl_GoodTable.t4 (fun b => some (impl_GoodTable.mk b)) impl_GoodTable.q4 v0 v1 v2 v3 v4 := by kernel_rfl
theorem impl_GoodTable.s (v0 : Int) (v1 : List (List Int × Int)) : Sub impl_GoodTable.mk (impl_GoodTable.t some impl_GoodTable.l4 v0 v1) (impl_GoodTable.t (fun b => some (impl_GoodTable.mk b)) impl_GoodTable.q4 v0 v1) := by
 unfold impl_GoodTable.t
 repeat' first | exact Sub.ret | exact Sub.none | exact Sub.loop | apply Sub.cond | (apply Sub.bind; intro _)
theorem impl_GoodTable.eq (v0 : Int) (v1 : List (List Int × Int)) {b : Bool} (h : impl_GoodTable.t some impl_GoodTable.l4 v0 v1 = some b) : impl_GoodTable v0 v1 = some b := tOf_intro impl_GoodTable.un (fun _ => by kernel_rfl) (vlim_fn (callT_le E tab) rfl rfl rfl ((impl_GoodTable.k v0 v1).trans (impl_GoodTable.s v0 v1 b h)))
theorem impl_GoodTable.s4 (v0 : Int) (v1 : List (List Int × Int)) (v2 : List (List Int × Int)) (v3 : Int) (v4 : Int) : Sub impl_GoodTable.mk (impl_GoodTable.t4 some impl_GoodTable.l4 v0 v1 v2 v3 v4) (impl_GoodTable.t4 (fun b => some (impl_GoodTable.mk b)) impl_GoodTable.q4 v0 v1 v2 v3 v4) := by
 unfold impl_GoodTable.t4
 repeat' first | exact Sub.ret | exact Sub.none | exact Sub.loop | apply Sub.cond | (apply Sub.bind; intro _)
theorem impl_GoodTable.eq4 (v0 : Int) (v1 : List (List Int × Int)) (v2 : List (List Int × Int)) (v3 : Int) (v4 : Int) {b : Bool} (h : impl_GoodTable.t4 some impl_GoodTable.l4 v0 v1 v2 v3 v4 = some b) : impl_GoodTable.l4 v0 v1 v2 v3 v4 = some b := tOf_intro impl_GoodTable.un (fun _ => by kernel_rfl) (loopAtL_step ((impl_GoodTable.k4 v0 v1 v2 v3 v4).trans (impl_GoodTable.s4 v0 v1 v2 v3 v4 b h)))
noncomputable def laws_eqTable.t {γ : Type} (ret : (Bool) → Option γ) (v0 : Int) (v1 : List (List Int × Int)) (v2 : Int) (v3 : List (List Int × Int)) : Option γ :=
 bif v0 != v2 then
  ret (Bool.false)
 else
  (laws_eqWeightedS (v1) (v3)).bind fun (r0 : Bool) =>
  bif !r0 then
   ret (Bool.false)
  else
   ret (Bool.true)
theorem laws_eqTable.k (v0 : Int) (v1 : List (List Int × Int)) (v2 : Int) (v3 : List (List Int × Int)) : topL E (callT E tab) 19 Try.f19 (laws_eqTable.c v0 v1 v2 v3) = laws_eqTable.t (fun b => some (laws_eqTable.mk b)) v0 v1 v2 v3 := by kernel_rfl
theorem laws_eqTable.s (v0 : Int) (v1 : List (List Int × Int)) (v2 : Int) (v3 : List (List Int × Int)) : Sub laws_eqTable.mk (laws_eqTable.t some v0 v1 v2 v3) (laws_eqTable.t (fun b => some (laws_eqTable.mk b)) v0 v1 v2 v3) := by
 unfold laws_eqTable.t
 repeat' first | exact Sub.ret | exact Sub.none | exact Sub.loop | apply Sub.cond | (apply Sub.bind; intro _)
theorem laws_eqTable.eq (v0 : Int) (v1 : List (List Int × Int)) (v2 : Int) (v3 : List (List Int × Int)) {b : Bool} (h : laws_eqTable.t some v0 v1 v2 v3 = some b) : laws_eqTable v0 v1 v2 v3 = some b := tOf_intro laws_eqTable.un (fun _ => by kernel_rfl) (vlim_fn (callT_le E tab) rfl rfl rfl ((laws_eqTable.k v0 v1 v2 v3).trans (laws_eqTable.s v0 v1 v2 v3 b h)))
noncomputable def laws_eqWeightedS.q4 (v0 : List (List Int × Int)) (v1 : List (List Int × Int)) (v2 : Int) : Option R := loopAtL E (callT E tab) 40 Try.f40 2 [.r, .r, .l, .r, .b] (vc (.d .fro (.sl (.pair (.sl (.int .i64)) (.int .i64))) v0) :: vc (.d .fro (.sl (.pair (.sl (.int .i64)) (.int .i64))) v1) :: nn 3 (vc (iL v2) :: nn 21 ([])))
noncomputable def laws_eqWeightedS.l4 (v0 : List (List Int × Int)) (v1 : List (List Int × Int)) (v2 : Int) : Option (Bool) := tOf laws_eqWeightedS.mk (laws_eqWeightedS.q4 v0 v1 v2)
noncomputable def laws_eqWeightedS.t {γ : Type} (ret : (Bool) → Option γ) (lp4 : (List (List Int × Int)) → (List (List Int × Int)) → Int → Option γ) (v0 : List (List Int × Int)) (v1 : List (List Int × Int)) : Option γ :=
 bif (↑v0.length : Int) != (↑v1.length : Int) then
  ret (Bool.false)
 else
  lp4 (v0) (v1) ((0 : Int))
noncomputable def laws_eqWeightedS.t4 {γ : Type} (ret : (Bool) → Option γ) (lp4 : (List (List Int × Int)) → (List (List Int × Int)) → Int → Option γ) (v0 : List (List Int × Int)) (v1 : List (List Int × Int)) (v2 : Int) : Option γ :=
 bif decide (v2 < (↑v0.length : Int)) then
  bif decide ((0 : Int) ≤ v2) then
   bif decide (v2.toNat < v0.length) then
    bif decide ((0 : Int) ≤ v2) then
     bif decide (v2.toNat < v1.length) then
      (laws_eqWeighted ((v0.getD v2.toNat ([], (0 : Int))).fst) ((v0.getD v2.toNat ([], (0 : Int))).snd) ((v1.getD v2.toNat ([], (0 : Int))).fst) ((v1.getD v2.toNat ([], (0 : Int))).snd)).bind fun (r0 : Bool) =>
      bif !r0 then
       ret (Bool.false)
      else
       lp4 (v0) (v1) (IntKind.i64.wrap (v2 + (1 : Int)))
     else
      none
    else
     none
   else
    none
  else
   none
 else
  ret (Bool.true)
theorem laws_eqWeightedS.k (v0 : List (List Int × Int)) (v1 : List (List Int × Int)) : topL E (callT E tab) 40 Try.f40 (laws_eqWeightedS.c v0 v1) = laws_eqWeightedS.t (fun b => some (laws_eqWeightedS.mk b)) laws_eqWeightedS.q4 v0 v1 := by kernel_rfl
theorem laws_eqWeightedS.k4 (v0 : List (List Int × Int)) (v1 : List (List Int × Int)) (v2 : Int) : roundL E (callT E tab) 40 Try.f40 2 [.r, .r, .l, .r, .b] (vc (.d .fro (.sl (.pair (.sl (.int .i64)) (.int .i64))) v0) :: vc (.d .fro (.sl (.pair (.sl (.int .i64)) (.int .i64))) v1) :: nn 3 (vc (iL v2) :: nn 21 ([]))) = laws_eqWeightedS.t4 (fun b => some (laws_eqWeightedS.mk b)) laws_eqWeightedS.q4 v0 v1 v2 := by kernel_rfl
theorem laws_eqWeightedS.s (v0 : List (List Int × Int)) (v1 : List (List Int × Int)) : Sub laws_eqWeightedS.mk (laws_eqWeightedS.t some laws_eqWeightedS.l4 v0 v1) (laws_eqWeightedS.t (fun b => some (laws_eqWeightedS.mk b)) laws_eqWeightedS.q4 v0 v1) := by
 unfold laws_eqWeightedS.t
 repeat' first | exact Sub.ret | exact Sub.none | exact Sub.loop | apply Sub.cond | (apply Sub.bind; intro _)
theorem laws_eqWeightedS.eq (v0 : List (List Int × Int)) (v1 : List (List Int × Int)) {b : Bool} (h : laws_eqWeightedS.t some laws_eqWeightedS.l4 v0 v1 = some b) : laws_eqWeightedS v0 v1 = some b := tOf_intro laws_eqWeightedS.un (fun _ => by kernel_rfl) (vlim_fn (callT_le E tab) rfl rfl rfl ((laws_eqWeightedS.k v0 v1).trans (laws_eqWeightedS.s v0 v1 b h)))
theorem laws_eqWeightedS.s4 (v0 : List (List Int × Int)) (v1 : List (List Int × Int)) (v2 : Int) : Sub laws_eqWeightedS.mk (laws_eqWeightedS.t4 some laws_eqWeightedS.l4 v0 v1 v2) (laws_eqWeightedS.t4 (fun b => some (laws_eqWeightedS.mk b)) laws_eqWeightedS.q4 v0 v1 v2) := by
 unfold laws_eqWeightedS.t4
 repeat' first | exact Sub.ret | exact Sub.none | exact Sub.loop | apply Sub.cond | (apply Sub.bind; intro _)
theorem laws_eqWeightedS.eq4 (v0 : List (List Int × Int)) (v1 : List (List Int × Int)) (v2 : Int) {b : Bool} (h : laws_eqWeightedS.t4 some laws_eqWeightedS.l4 v0 v1 v2 = some b) : laws_eqWeightedS.l4 v0 v1 v2 = some b := tOf_intro laws_eqWeightedS.un (fun _ => by kernel_rfl) (loopAtL_step ((laws_eqWeightedS.k4 v0 v1 v2).trans (laws_eqWeightedS.s4 v0 v1 v2 b h)))
noncomputable def laws_eqWeighted.t {γ : Type} (ret : (Bool) → Option γ) (v0 : List Int) (v1 : Int) (v2 : List Int) (v3 : Int) : Option γ :=
 (laws_eqRow (v0) (v2)).bind fun (r0 : Bool) =>
 bif !r0 then
  ret (Bool.false)
 else
  bif v1 != v3 then
   ret (Bool.false)
  else
   ret (Bool.true)
theorem laws_eqWeighted.k (v0 : List Int) (v1 : Int) (v2 : List Int) (v3 : Int) : topL E (callT E tab) 94 Try.f94 (laws_eqWeighted.c v0 v1 v2 v3) = laws_eqWeighted.t (fun b => some (laws_eqWeighted.mk b)) v0 v1 v2 v3 := by kernel_rfl
theorem laws_eqWeighted.s (v0 : List Int) (v1 : Int) (v2 : List Int) (v3 : Int) : Sub laws_eqWeighted.mk (laws_eqWeighted.t some v0 v1 v2 v3) (laws_eqWeighted.t (fun b => some (laws_eqWeighted.mk b)) v0 v1 v2 v3) := by
 unfold laws_eqWeighted.t
 repeat' first | exact Sub.ret | exact Sub.none | exact Sub.loop | apply Sub.cond | (apply Sub.bind; intro _)
theorem laws_eqWeighted.eq (v0 : List Int) (v1 : Int) (v2 : List Int) (v3 : Int) {b : Bool} (h : laws_eqWeighted.t some v0 v1 v2 v3 = some b) : laws_eqWeighted v0 v1 v2 v3 = some b := tOf_intro laws_eqWeighted.un (fun _ => by kernel_rfl) (vlim_fn (callT_le E tab) rfl rfl rfl ((laws_eqWeighted.k v0 v1 v2 v3).trans (laws_eqWeighted.s v0 v1 v2 v3 b h)))
noncomputable def laws_eqRow.t {γ : Type} (ret : (Bool) → Option γ) (v0 : List Int) (v1 : List Int) : Option γ :=
 (laws_eqIntS (v0) (v1)).bind fun (r0 : Bool) =>
 bif !r0 then
  ret (Bool.false)
 else
  ret (Bool.true)
theorem laws_eqRow.k (v0 : List Int) (v1 : List Int) : topL E (callT E tab) 131 Try.f131 (laws_eqRow.c v0 v1) = laws_eqRow.t (fun b => some (laws_eqRow.mk b)) v0 v1 := by kernel_rfl
theorem laws_eqRow.s (v0 : List Int) (v1 : List Int) : Sub laws_eqRow.mk (laws_eqRow.t some v0 v1) (laws_eqRow.t (fun b => some (laws_eqRow.mk b)) v0 v1) := by
 unfold laws_eqRow.t
 repeat' first | exact Sub.ret | exact Sub.none | exact Sub.loop | apply Sub.cond | (apply Sub.bind; intro _)
theorem laws_eqRow.eq (v0 : List Int) (v1 : List Int) {b : Bool} (h : laws_eqRow.t some v0 v1 = some b) : laws_eqRow v0 v1 = some b := tOf_intro laws_eqRow.un (fun _ => by kernel_rfl) (vlim_fn (callT_le E tab) rfl rfl rfl ((laws_eqRow.k v0 v1).trans (laws_eqRow.s v0 v1 b h)))
noncomputable def laws_eqIntS.q4 (v0 : List Int) (v1 : List Int) (v2 : Int) : Option R := loopAtL E (callT E tab) 47 Try.f47 2 [.r, .r, .l, .r, .b] (vc (.d .fro (.sl (.int .i64)) v0) :: vc (.d .fro (.sl (.int .i64)) v1) :: nn 3 (vc (iL v2) :: nn 20 ([])))
noncomputable def laws_eqIntS.l4 (v0 : List Int) (v1 : List Int) (v2 : Int) : Option (Bool) := tOf laws_eqIntS.mk (laws_eqIntS.q4 v0 v1 v2)
noncomputable def laws_eqIntS.t {γ : Type} (ret : (Bool) → Option γ) (lp4 : (List Int) → (List Int) → Int → Option γ) (v0 : List Int) (v1 : List Int) : Option γ :=
 bif (↑v0.length : Int) != (↑v1.length : Int) then
  ret (Bool.false)
 else
  lp4 (v0) (v1) ((0 : Int))
noncomputable def laws_eqIntS.t4 {γ : Type} (ret : (Bool) → Option γ) (lp4 : (List Int) → (List Int) → Int → Option γ) (v0 : List Int) (v1 : List Int) (v2 : Int) : Option γ :=
 bif decide (v2 < (↑v0.length : Int)) then
  bif decide ((0 : Int) ≤ v2) then
   bif decide (v2.toNat < v0.length) then
    bif decide ((0 : Int) ≤ v2) then
     bif decide (v2.toNat < v1.length) then
      bif v0.getD v2.toNat (0 : Int) != v1.getD v2.toNat (0 : Int) then
       ret (Bool.false)
      else
       lp4 (v0) (v1) (IntKind.i64.wrap (v2 + (1 : Int)))
     else
      none
    else
     none
   else
    none
  else
   none
 else
  ret (Bool.true)
theorem laws_eqIntS.k (v0 : List Int) (v1 : List Int) : topL E (callT E tab) 47 Try.f47 (laws_eqIntS.c v0 v1) = laws_eqIntS.t (fun b => some (laws_eqIntS.mk b)) laws_eqIntS.q4 v0 v1 := by kernel_rfl
theorem laws_eqIntS.k4 (v0 : List Int) (v1 : List Int) (v2 : Int) : roundL E (callT E tab) 47 Try.f47 2 [.r, .r, .l, .r, .b] (vc (.d .fro (.sl (.int .i64)) v0) :: vc (.d .fro (.sl (.int .i64)) v1) :: nn 3 (vc (iL v2) :: nn 20 ([]))) = laws_eqIntS.t4 (fun b => some (laws_eqIntS.mk b)) laws_eqIntS.q4 v0 v1 v2 := by kernel_rfl
theorem laws_eqIntS.s (v0 : List Int) (v1 : List Int) : Sub laws_eqIntS.mk (laws_eqIntS.t some laws_eqIntS.l4 v0 v1) (laws_eqIntS.t (fun b => some (laws_eqIntS.mk b)) laws_eqIntS.q4 v0 v1) := by
 unfold laws_eqIntS.t
 repeat' first | exact Sub.ret | exact Sub.none | exact Sub.loop | apply Sub.cond | (apply Sub.bind; intro _)
theorem laws_eqIntS.eq (v0 : List Int) (v1 : List Int) {b : Bool} (h : laws_eqIntS.t some laws_eqIntS.l4 v0 v1 = some b) : laws_eqIntS v0 v1 = some b := tOf_intro laws_eqIntS.un (fun _ => by kernel_rfl) (vlim_fn (callT_le E tab) rfl rfl rfl ((laws_eqIntS.k v0 v1).trans (laws_eqIntS.s v0 v1 b h)))
theorem laws_eqIntS.s4 (v0 : List Int) (v1 : List Int) (v2 : Int) : Sub laws_eqIntS.mk (laws_eqIntS.t4 some laws_eqIntS.l4 v0 v1 v2) (laws_eqIntS.t4 (fun b => some (laws_eqIntS.mk b)) laws_eqIntS.q4 v0 v1 v2) := by
 unfold laws_eqIntS.t4
 repeat' first | exact Sub.ret | exact Sub.none | exact Sub.loop | apply Sub.cond | (apply Sub.bind; intro _)
theorem laws_eqIntS.eq4 (v0 : List Int) (v1 : List Int) (v2 : Int) {b : Bool} (h : laws_eqIntS.t4 some laws_eqIntS.l4 v0 v1 v2 = some b) : laws_eqIntS.l4 v0 v1 v2 = some b := tOf_intro laws_eqIntS.un (fun _ => by kernel_rfl) (loopAtL_step ((laws_eqIntS.k4 v0 v1 v2).trans (laws_eqIntS.s4 v0 v1 v2 b h)))
noncomputable def xl0o.q2 (v0 : List (List Int × Int)) (v1 : Int) (v2 : Int) : Option R := loopAtL E (callT E tab) 41 Try.f41 2 [.r, .l, .r, .b] (⟨(.val .one), [.d .deep (.sl (.pair (.sl (.int .i64)) (.int .i64))) v0], true, false, false, 0, 0⟩ :: vc (iL v1) :: nn 3 (vc (iL v2) :: nn 22 ([])))
noncomputable def xl0o.l2 (v0 : List (List Int × Int)) (v1 : Int) (v2 : Int) : Option (Int × (List (List Int × Int))) := tOf xl0o.mk (xl0o.q2 v0 v1 v2)
noncomputable def xl0o.t {γ : Type} (ret : (Int × (List (List Int × Int))) → Option γ) (lp2 : (List (List Int × Int)) → Int → Int → Option γ) (v0 : List (List Int × Int)) (v1 : Int) : Option γ :=
 lp2 (v0) (v1) ((0 : Int))
noncomputable def xl0o.t2 {γ : Type} (ret : (Int × (List (List Int × Int))) → Option γ) (lp2 : (List (List Int × Int)) → Int → Int → Option γ) (v0 : List (List Int × Int)) (v1 : Int) (v2 : Int) : Option γ :=
 bif decide (v2 < (↑v0.length : Int)) then
  bif decide ((0 : Int) ≤ v2) then
   bif decide (v2.toNat < v0.length) then
    bif decide (v2.toNat < v0.length) then
     bif decide (v2.toNat < v0.length) then
      (laws_markIntS_83f ((v0.getD v2.toNat ([], (0 : Int))).fst) (v1)).bind fun (r0 : Int × (List Int)) =>
      bif decide (v2.toNat = v2.toNat) &&   (decide ((0 : Nat) + (0 : Nat) + (0 : Nat) = (0 : Nat) + (0 : Nat) + (0 : Nat)) &&     decide ((1 : Nat) + (1 : Nat) = (1 : Nat) + (1 : Nat))) then
       bif decide (v2.toNat < v0.length) then
        bif decide ((0 : Int) ≤ v2) then
         bif decide (v2.toNat < (v0.set v2.toNat (r0.snd, (v0.getD v2.toNat ([], (0 : Int))).snd)).length) then
          bif decide (v2.toNat < (v0.set v2.toNat (r0.snd, (v0.getD v2.toNat ([], (0 : Int))).snd)).length) then
           lp2 ((v0.set v2.toNat (r0.snd, (v0.getD v2.toNat ([], (0 : Int))).snd)).set v2.toNat   (((v0.set v2.toNat (r0.snd, (v0.getD v2.toNat ([], (0 : Int))).snd)).getD v2.toNat ([], (0 : Int))).fst, r0.fst)) (IntKind.i64.wrap (r0.fst + (1 : Int))) (IntKind.i64.wrap (v2 + (1 : Int)))
          else
           none
         else
          none
        else
         none
       else
        none
      else
       none
     else
      none
    else
     none
   else
    none
  else
   none
 else
  ret (v1, v0)
theorem xl0o.k (v0 : List (List Int × Int)) (v1 : Int) : topL E (callT E tab) 41 Try.f41 (xl0o.c v0 v1) = xl0o.t (fun b => some (xl0o.mk b)) xl0o.q2 v0 v1 := by kernel_rfl
theorem xl0o.k2 (v0 : List (List Int × Int)) (v1 : Int) (v2 : Int) : roundL E (callT E tab) 41 Try.f41 2 [.r, .l, .r, .b] (⟨(.val .one), [.d .deep (.sl (.pair (.sl (.int .i64)) (.int .i64))) v0], true, false, false, 0, 0⟩ :: vc (iL v1) :: nn 3 (vc (iL v2) :: nn 22 ([]))) = xl0o.t2 (fun b => some (xl0o.mk b)) xl0o.q2 v0 v1 v2 := by kernel_rfl
theorem xl0o.s (v0 : List (List Int × Int)) (v1 : Int) : Sub xl0o.mk (xl0o.t some xl0o.l2 v0 v1) (xl0o.t (fun b => some (xl0o.mk b)) xl0o.q2 v0 v1) := by
 unfold xl0o.t
 repeat' first | exact Sub.ret | exact Sub.none | exact Sub.loop | apply Sub.cond | (apply Sub.bind; intro _)
theorem xl0o.eq (v0 : List (List Int × Int)) (v1 : Int) {b : Int × (List (List Int × Int))} (h : xl0o.t some xl0o.l2 v0 v1 = some b) : xl0o v0 v1 = some b := tOf_intro xl0o.un (fun _ => by kernel_rfl) (vlim_fn (callT_le E tab) rfl rfl rfl ((xl0o.k v0 v1).trans (xl0o.s v0 v1 b h)))
theorem xl0o.s2 (v0 : List (List Int × Int)) (v1 : Int) (v2 : Int) : Sub xl0o.mk (xl0o.t2 some xl0o.l2 v0 v1 v2) (xl0o.t2 (fun b => some (xl0o.mk b)) xl0o.q2 v0 v1 v2) := by
 unfold xl0o.t2
 repeat' first | exact Sub.ret | exact Sub.none | exact Sub.loop | apply Sub.cond | (apply Sub.bind; intro _)
theorem xl0o.eq2 (v0 : List (List Int × Int)) (v1 : Int) (v2 : Int) {b : Int × (List (List Int × Int))} (h : xl0o.t2 some xl0o.l2 v0 v1 v2 = some b) : xl0o.l2 v0 v1 v2 = some b := tOf_intro xl0o.un (fun _ => by kernel_rfl) (loopAtL_step ((xl0o.k2 v0 v1 v2).trans (xl0o.s2 v0 v1 v2 b h)))
noncomputable def laws_markIntS_83f.q2 (v0 : List Int) (v1 : Int) (v2 : Int) : Option R := loopAtL E (callT E tab) 48 Try.f48 2 [.r, .l, .r, .b] (⟨(.val .one), [.d .deep (.sl (.int .i64)) v0], true, false, false, 0, 0⟩ :: vc (iL v1) :: nn 3 (vc (iL v2) :: nn 13 ([])))
noncomputable def laws_markIntS_83f.l2 (v0 : List Int) (v1 : Int) (v2 : Int) : Option (Int × (List Int)) := tOf laws_markIntS_83f.mk (laws_markIntS_83f.q2 v0 v1 v2)
noncomputable def laws_markIntS_83f.t {γ : Type} (ret : (Int × (List Int)) → Option γ) (lp2 : (List Int) → Int → Int → Option γ) (v0 : List Int) (v1 : Int) : Option γ :=
 lp2 (v0) (v1) ((0 : Int))
noncomputable def laws_markIntS_83f.t2 {γ : Type} (ret : (Int × (List Int)) → Option γ) (lp2 : (List Int) → Int → Int → Option γ) (v0 : List Int) (v1 : Int) (v2 : Int) : Option γ :=
 bif decide (v2 < (↑v0.length : Int)) then
  bif decide ((0 : Int) ≤ v2) then
   bif decide (v2.toNat < v0.length) then
    bif decide (v2.toNat < v0.length) then
     lp2 (v0.set v2.toNat v1) (IntKind.i64.wrap (v1 + (1 : Int))) (IntKind.i64.wrap (v2 + (1 : Int)))
    else
     none
   else
    none
  else
   none
 else
  ret (v1, v0)
theorem laws_markIntS_83f.k (v0 : List Int) (v1 : Int) : topL E (callT E tab) 48 Try.f48 (laws_markIntS_83f.c v0 v1) = laws_markIntS_83f.t (fun b => some (laws_markIntS_83f.mk b)) laws_markIntS_83f.q2 v0 v1 := by kernel_rfl
theorem laws_markIntS_83f.k2 (v0 : List Int) (v1 : Int) (v2 : Int) : roundL E (callT E tab) 48 Try.f48 2 [.r, .l, .r, .b] (⟨(.val .one), [.d .deep (.sl (.int .i64)) v0], true, false, false, 0, 0⟩ :: vc (iL v1) :: nn 3 (vc (iL v2) :: nn 13 ([]))) = laws_markIntS_83f.t2 (fun b => some (laws_markIntS_83f.mk b)) laws_markIntS_83f.q2 v0 v1 v2 := by kernel_rfl
theorem laws_markIntS_83f.s (v0 : List Int) (v1 : Int) : Sub laws_markIntS_83f.mk (laws_markIntS_83f.t some laws_markIntS_83f.l2 v0 v1) (laws_markIntS_83f.t (fun b => some (laws_markIntS_83f.mk b)) laws_markIntS_83f.q2 v0 v1) := by
 unfold laws_markIntS_83f.t
 repeat' first | exact Sub.ret | exact Sub.none | exact Sub.loop | apply Sub.cond | (apply Sub.bind; intro _)
theorem laws_markIntS_83f.eq (v0 : List Int) (v1 : Int) {b : Int × (List Int)} (h : laws_markIntS_83f.t some laws_markIntS_83f.l2 v0 v1 = some b) : laws_markIntS_83f v0 v1 = some b := tOf_intro laws_markIntS_83f.un (fun _ => by kernel_rfl) (vlim_fn (callT_le E tab) rfl rfl rfl ((laws_markIntS_83f.k v0 v1).trans (laws_markIntS_83f.s v0 v1 b h)))
theorem laws_markIntS_83f.s2 (v0 : List Int) (v1 : Int) (v2 : Int) : Sub laws_markIntS_83f.mk (laws_markIntS_83f.t2 some laws_markIntS_83f.l2 v0 v1 v2) (laws_markIntS_83f.t2 (fun b => some (laws_markIntS_83f.mk b)) laws_markIntS_83f.q2 v0 v1 v2) := by
 unfold laws_markIntS_83f.t2
 repeat' first | exact Sub.ret | exact Sub.none | exact Sub.loop | apply Sub.cond | (apply Sub.bind; intro _)
theorem laws_markIntS_83f.eq2 (v0 : List Int) (v1 : Int) (v2 : Int) {b : Int × (List Int)} (h : laws_markIntS_83f.t2 some laws_markIntS_83f.l2 v0 v1 v2 = some b) : laws_markIntS_83f.l2 v0 v1 v2 = some b := tOf_intro laws_markIntS_83f.un (fun _ => by kernel_rfl) (loopAtL_step ((laws_markIntS_83f.k2 v0 v1 v2).trans (laws_markIntS_83f.s2 v0 v1 v2 b h)))
noncomputable def laws_markTable_d7a.t {γ : Type} (ret : (Int × Int × (List (List Int × Int))) → Option γ) (v0 : Int) (v1 : List (List Int × Int)) (v2 : Int) : Option γ :=
 (xl0o (v1) (v2)).bind fun (r0 : Int × (List (List Int × Int))) =>
 ret (r0.fst, v0, r0.snd)
theorem laws_markTable_d7a.k (v0 : Int) (v1 : List (List Int × Int)) (v2 : Int) : topL E (callT E tab) 20 Try.f20 (laws_markTable_d7a.c v0 v1 v2) = laws_markTable_d7a.t (fun b => some (laws_markTable_d7a.mk b)) v0 v1 v2 := by kernel_rfl
theorem laws_markTable_d7a.s (v0 : Int) (v1 : List (List Int × Int)) (v2 : Int) : Sub laws_markTable_d7a.mk (laws_markTable_d7a.t some v0 v1 v2) (laws_markTable_d7a.t (fun b => some (laws_markTable_d7a.mk b)) v0 v1 v2) := by
 unfold laws_markTable_d7a.t
 repeat' first | exact Sub.ret | exact Sub.none | exact Sub.loop | apply Sub.cond | (apply Sub.bind; intro _)
theorem laws_markTable_d7a.eq (v0 : Int) (v1 : List (List Int × Int)) (v2 : Int) {b : Int × Int × (List (List Int × Int))} (h : laws_markTable_d7a.t some v0 v1 v2 = some b) : laws_markTable_d7a v0 v1 v2 = some b := tOf_intro laws_markTable_d7a.un (fun _ => by kernel_rfl) (vlim_fn (callT_le E tab) rfl rfl rfl ((laws_markTable_d7a.k v0 v1 v2).trans (laws_markTable_d7a.s v0 v1 v2 b h)))
noncomputable def laws_heldTable.t {γ : Type} (ret : (Int) → Option γ) (v0 : Int) (v1 : List (List Int × Int)) (v2 : Int) : Option γ :=
 (laws_heldWeightedS (v1) (v2)).bind fun (r0 : Int) =>
 bif decide (r0 < (0 : Int)) then
  ret ((-1 : Int))
 else
  ret (r0)
theorem laws_heldTable.k (v0 : Int) (v1 : List (List Int × Int)) (v2 : Int) : topL E (callT E tab) 21 Try.f21 (laws_heldTable.c v0 v1 v2) = laws_heldTable.t (fun b => some (laws_heldTable.mk b)) v0 v1 v2 := by kernel_rfl
theorem laws_heldTable.s (v0 : Int) (v1 : List (List Int × Int)) (v2 : Int) : Sub laws_heldTable.mk (laws_heldTable.t some v0 v1 v2) (laws_heldTable.t (fun b => some (laws_heldTable.mk b)) v0 v1 v2) := by
 unfold laws_heldTable.t
 repeat' first | exact Sub.ret | exact Sub.none | exact Sub.loop | apply Sub.cond | (apply Sub.bind; intro _)
theorem laws_heldTable.eq (v0 : Int) (v1 : List (List Int × Int)) (v2 : Int) {b : Int} (h : laws_heldTable.t some v0 v1 v2 = some b) : laws_heldTable v0 v1 v2 = some b := tOf_intro laws_heldTable.un (fun _ => by kernel_rfl) (vlim_fn (callT_le E tab) rfl rfl rfl ((laws_heldTable.k v0 v1 v2).trans (laws_heldTable.s v0 v1 v2 b h)))
noncomputable def laws_heldWeightedS.q2 (v0 : List (List Int × Int)) (v1 : Int) (v2 : Int) : Option R := loopAtL E (callT E tab) 64 Try.f64 2 [.r, .l, .r, .b] (vc (.d .fro (.sl (.pair (.sl (.int .i64)) (.int .i64))) v0) :: vc (iL v1) :: nn 3 (vc (iL v2) :: nn 26 ([])))
noncomputable def laws_heldWeightedS.l2 (v0 : List (List Int × Int)) (v1 : Int) (v2 : Int) : Option (Int) := tOf laws_heldWeightedS.mk (laws_heldWeightedS.q2 v0 v1 v2)
noncomputable def laws_heldWeightedS.t {γ : Type} (ret : (Int) → Option γ) (lp2 : (List (List Int × Int)) → Int → Int → Option γ) (v0 : List (List Int × Int)) (v1 : Int) : Option γ :=
 lp2 (v0) (v1) ((0 : Int))
noncomputable def laws_heldWeightedS.t2 {γ : Type} (ret : (Int) → Option γ) (lp2 : (List (List Int × Int)) → Int → Int → Option γ) (v0 : List (List Int × Int)) (v1 : Int) (v2 : Int) : Option γ :=
 bif decide (v2 < (↑v0.length : Int)) then
  bif decide ((0 : Int) ≤ v2) then
   bif decide (v2.toNat < v0.length) then
    (laws_heldIntS ((v0.getD v2.toNat ([], (0 : Int))).fst) (v1)).bind fun (r0 : Int) =>
    bif decide (r0 < (0 : Int)) then
     ret ((-1 : Int))
    else
     bif decide ((0 : Int) ≤ v2) then
      bif decide (v2.toNat < v0.length) then
       bif (v0.getD v2.toNat ([], (0 : Int))).snd != r0 then
        ret ((-1 : Int))
       else
        lp2 (v0) (IntKind.i64.wrap (r0 + (1 : Int))) (IntKind.i64.wrap (v2 + (1 : Int)))
      else
       none
     else
      none
   else
    none
  else
   none
 else
  ret (v1)
theorem laws_heldWeightedS.k (v0 : List (List Int × Int)) (v1 : Int) : topL E (callT E tab) 64 Try.f64 (laws_heldWeightedS.c v0 v1) = laws_heldWeightedS.t (fun b => some (laws_heldWeightedS.mk b)) laws_heldWeightedS.q2 v0 v1 := by kernel_rfl
theorem laws_heldWeightedS.k2 (v0 : List (List Int × Int)) (v1 : Int) (v2 : Int) : roundL E (callT E tab) 64 Try.f64 2 [.r, .l, .r, .b] (vc (.d .fro (.sl (.pair (.sl (.int .i64)) (.int .i64))) v0) :: vc (iL v1) :: nn 3 (vc (iL v2) :: nn 26 ([]))) = laws_heldWeightedS.t2 (fun b => some (laws_heldWeightedS.mk b)) laws_heldWeightedS.q2 v0 v1 v2 := by kernel_rfl
theorem laws_heldWeightedS.s (v0 : List (List Int × Int)) (v1 : Int) : Sub laws_heldWeightedS.mk (laws_heldWeightedS.t some laws_heldWeightedS.l2 v0 v1) (laws_heldWeightedS.t (fun b => some (laws_heldWeightedS.mk b)) laws_heldWeightedS.q2 v0 v1) := by
 unfold laws_heldWeightedS.t
 repeat' first | exact Sub.ret | exact Sub.none | exact Sub.loop | apply Sub.cond | (apply Sub.bind; intro _)
theorem laws_heldWeightedS.eq (v0 : List (List Int × Int)) (v1 : Int) {b : Int} (h : laws_heldWeightedS.t some laws_heldWeightedS.l2 v0 v1 = some b) : laws_heldWeightedS v0 v1 = some b := tOf_intro laws_heldWeightedS.un (fun _ => by kernel_rfl) (vlim_fn (callT_le E tab) rfl rfl rfl ((laws_heldWeightedS.k v0 v1).trans (laws_heldWeightedS.s v0 v1 b h)))
theorem laws_heldWeightedS.s2 (v0 : List (List Int × Int)) (v1 : Int) (v2 : Int) : Sub laws_heldWeightedS.mk (laws_heldWeightedS.t2 some laws_heldWeightedS.l2 v0 v1 v2) (laws_heldWeightedS.t2 (fun b => some (laws_heldWeightedS.mk b)) laws_heldWeightedS.q2 v0 v1 v2) := by
 unfold laws_heldWeightedS.t2
 repeat' first | exact Sub.ret | exact Sub.none | exact Sub.loop | apply Sub.cond | (apply Sub.bind; intro _)
theorem laws_heldWeightedS.eq2 (v0 : List (List Int × Int)) (v1 : Int) (v2 : Int) {b : Int} (h : laws_heldWeightedS.t2 some laws_heldWeightedS.l2 v0 v1 v2 = some b) : laws_heldWeightedS.l2 v0 v1 v2 = some b := tOf_intro laws_heldWeightedS.un (fun _ => by kernel_rfl) (loopAtL_step ((laws_heldWeightedS.k2 v0 v1 v2).trans (laws_heldWeightedS.s2 v0 v1 v2 b h)))
noncomputable def laws_heldIntS.q2 (v0 : List Int) (v1 : Int) (v2 : Int) : Option R := loopAtL E (callT E tab) 110 Try.f110 2 [.r, .l, .r, .b] (vc (.d .fro (.sl (.int .i64)) v0) :: vc (iL v1) :: nn 3 (vc (iL v2) :: nn 15 ([])))
noncomputable def laws_heldIntS.l2 (v0 : List Int) (v1 : Int) (v2 : Int) : Option (Int) := tOf laws_heldIntS.mk (laws_heldIntS.q2 v0 v1 v2)
noncomputable def laws_heldIntS.t {γ : Type} (ret : (Int) → Option γ) (lp2 : (List Int) → Int → Int → Option γ) (v0 : List Int) (v1 : Int) : Option γ :=
 lp2 (v0) (v1) ((0 : Int))
noncomputable def laws_heldIntS.t2 {γ : Type} (ret : (Int) → Option γ) (lp2 : (List Int) → Int → Int → Option γ) (v0 : List Int) (v1 : Int) (v2 : Int) : Option γ :=
 bif decide (v2 < (↑v0.length : Int)) then
  bif decide ((0 : Int) ≤ v2) then
   bif decide (v2.toNat < v0.length) then
    bif v0.getD v2.toNat (0 : Int) != v1 then
     ret ((-1 : Int))
    else
     lp2 (v0) (IntKind.i64.wrap (v1 + (1 : Int))) (IntKind.i64.wrap (v2 + (1 : Int)))
   else
    none
  else
   none
 else
  ret (v1)
theorem laws_heldIntS.k (v0 : List Int) (v1 : Int) : topL E (callT E tab) 110 Try.f110 (laws_heldIntS.c v0 v1) = laws_heldIntS.t (fun b => some (laws_heldIntS.mk b)) laws_heldIntS.q2 v0 v1 := by kernel_rfl
theorem laws_heldIntS.k2 (v0 : List Int) (v1 : Int) (v2 : Int) : roundL E (callT E tab) 110 Try.f110 2 [.r, .l, .r, .b] (vc (.d .fro (.sl (.int .i64)) v0) :: vc (iL v1) :: nn 3 (vc (iL v2) :: nn 15 ([]))) = laws_heldIntS.t2 (fun b => some (laws_heldIntS.mk b)) laws_heldIntS.q2 v0 v1 v2 := by kernel_rfl
theorem laws_heldIntS.s (v0 : List Int) (v1 : Int) : Sub laws_heldIntS.mk (laws_heldIntS.t some laws_heldIntS.l2 v0 v1) (laws_heldIntS.t (fun b => some (laws_heldIntS.mk b)) laws_heldIntS.q2 v0 v1) := by
 unfold laws_heldIntS.t
 repeat' first | exact Sub.ret | exact Sub.none | exact Sub.loop | apply Sub.cond | (apply Sub.bind; intro _)
theorem laws_heldIntS.eq (v0 : List Int) (v1 : Int) {b : Int} (h : laws_heldIntS.t some laws_heldIntS.l2 v0 v1 = some b) : laws_heldIntS v0 v1 = some b := tOf_intro laws_heldIntS.un (fun _ => by kernel_rfl) (vlim_fn (callT_le E tab) rfl rfl rfl ((laws_heldIntS.k v0 v1).trans (laws_heldIntS.s v0 v1 b h)))
theorem laws_heldIntS.s2 (v0 : List Int) (v1 : Int) (v2 : Int) : Sub laws_heldIntS.mk (laws_heldIntS.t2 some laws_heldIntS.l2 v0 v1 v2) (laws_heldIntS.t2 (fun b => some (laws_heldIntS.mk b)) laws_heldIntS.q2 v0 v1 v2) := by
 unfold laws_heldIntS.t2
 repeat' first | exact Sub.ret | exact Sub.none | exact Sub.loop | apply Sub.cond | (apply Sub.bind; intro _)
theorem laws_heldIntS.eq2 (v0 : List Int) (v1 : Int) (v2 : Int) {b : Int} (h : laws_heldIntS.t2 some laws_heldIntS.l2 v0 v1 v2 = some b) : laws_heldIntS.l2 v0 v1 v2 = some b := tOf_intro laws_heldIntS.un (fun _ => by kernel_rfl) (loopAtL_step ((laws_heldIntS.k2 v0 v1 v2).trans (laws_heldIntS.s2 v0 v1 v2 b h)))
noncomputable def laws_szTable.t {γ : Type} (ret : (Int) → Option γ) (v0 : Int) (v1 : List (List Int × Int)) (v2 : Int) : Option γ :=
 (laws_szWeightedS (v1) (v2)).bind fun (r0 : Int) =>
 bif decide (r0 < (0 : Int)) then
  ret ((-1 : Int))
 else
  ret (r0)
theorem laws_szTable.k (v0 : Int) (v1 : List (List Int × Int)) (v2 : Int) : topL E (callT E tab) 15 Try.f15 (laws_szTable.c v0 v1 v2) = laws_szTable.t (fun b => some (laws_szTable.mk b)) v0 v1 v2 := by kernel_rfl
theorem laws_szTable.s (v0 : Int) (v1 : List (List Int × Int)) (v2 : Int) : Sub laws_szTable.mk (laws_szTable.t some v0 v1 v2) (laws_szTable.t (fun b => some (laws_szTable.mk b)) v0 v1 v2) := by
 unfold laws_szTable.t
 repeat' first | exact Sub.ret | exact Sub.none | exact Sub.loop | apply Sub.cond | (apply Sub.bind; intro _)
theorem laws_szTable.eq (v0 : Int) (v1 : List (List Int × Int)) (v2 : Int) {b : Int} (h : laws_szTable.t some v0 v1 v2 = some b) : laws_szTable v0 v1 v2 = some b := tOf_intro laws_szTable.un (fun _ => by kernel_rfl) (vlim_fn (callT_le E tab) rfl rfl rfl ((laws_szTable.k v0 v1 v2).trans (laws_szTable.s v0 v1 v2 b h)))
noncomputable def laws_toTable.t {γ : Type} (ret : (Int × (List (List Int × Int))) → Option γ) (v0 : Int) (v1 : List (List Int × Int)) : Option γ :=
 (laws_toWeightedS (v1)).bind fun (r0 : (List (List Int × Int))) =>
 ret (v0, r0)
theorem laws_toTable.k (v0 : Int) (v1 : List (List Int × Int)) : topL E (callT E tab) 17 Try.f17 (laws_toTable.c v0 v1) = laws_toTable.t (fun b => some (laws_toTable.mk b)) v0 v1 := by kernel_rfl
theorem laws_toTable.s (v0 : Int) (v1 : List (List Int × Int)) : Sub laws_toTable.mk (laws_toTable.t some v0 v1) (laws_toTable.t (fun b => some (laws_toTable.mk b)) v0 v1) := by
 unfold laws_toTable.t
 repeat' first | exact Sub.ret | exact Sub.none | exact Sub.loop | apply Sub.cond | (apply Sub.bind; intro _)
theorem laws_toTable.eq (v0 : Int) (v1 : List (List Int × Int)) {b : Int × (List (List Int × Int))} (h : laws_toTable.t some v0 v1 = some b) : laws_toTable v0 v1 = some b := tOf_intro laws_toTable.un (fun _ => by kernel_rfl) (vlim_fn (callT_le E tab) rfl rfl rfl ((laws_toTable.k v0 v1).trans (laws_toTable.s v0 v1 b h)))
noncomputable def impl_isPlace.t {γ : Type} (ret : (Bool) → Option γ) (v0 : Int) (v1 : Int) : Option γ :=
 bif decide (v0 ≥ (0 : Int)) then
  ret (decide (v0 < v1))
 else
  ret (Bool.false)
theorem impl_isPlace.k (v0 : Int) (v1 : Int) : topL E (callT E tab) 118 Try.f118 (impl_isPlace.c v0 v1) = impl_isPlace.t (fun b => some (impl_isPlace.mk b)) v0 v1 := by kernel_rfl
theorem impl_isPlace.s (v0 : Int) (v1 : Int) : Sub impl_isPlace.mk (impl_isPlace.t some v0 v1) (impl_isPlace.t (fun b => some (impl_isPlace.mk b)) v0 v1) := by
 unfold impl_isPlace.t
 repeat' first | exact Sub.ret | exact Sub.none | exact Sub.loop | apply Sub.cond | (apply Sub.bind; intro _)
theorem impl_isPlace.eq (v0 : Int) (v1 : Int) {b : Bool} (h : impl_isPlace.t some v0 v1 = some b) : impl_isPlace v0 v1 = some b := tOf_intro impl_isPlace.un (fun _ => by kernel_rfl) (vlim_fn (callT_le E tab) rfl rfl rfl ((impl_isPlace.k v0 v1).trans (impl_isPlace.s v0 v1 b h)))
noncomputable def impl_Row_picked.q3 (v0 : List Int) (v1 : List Int) (v2 : List Int) (v3 : List Int) (v4 : Int) (v5 : Int) : Option R := loopAtL E (callT E tab) 135 Try.f135 2 [.r, .r, .l, .r, .b] (nn 2 (⟨(.box false), [.d .fro (.sl (.int .i64)) v0], false, false, false, 0, 0⟩ :: nn 1 (⟨(.box false), [.d .deep (.sl (.int .i64)) v1], false, false, false, 0, 0⟩ :: ⟨(.box false), [.d .deep (.sl (.int .i64)) v2], false, false, false, 0, 0⟩ :: nn 2 (vc (.d .fro (.sl (.int .i64)) v3) :: vc (iL v4) :: vc (iL v5) :: nn 15 ([])))))
noncomputable def impl_Row_picked.l3 (v0 : List Int) (v1 : List Int) (v2 : List Int) (v3 : List Int) (v4 : Int) (v5 : Int) : Option ((List Int)) := tOf impl_Row_picked.mk (impl_Row_picked.q3 v0 v1 v2 v3 v4 v5)
noncomputable def impl_Row_picked.t {γ : Type} (ret : ((List Int)) → Option γ) (lp3 : (List Int) → (List Int) → (List Int) → (List Int) → Int → Int → Option γ) (v0 : List Int) (v1 : List Int) : Option γ :=
 lp3 (v0) ([]) ([]) (v1) ((↑v1.length : Int)) ((0 : Int))
noncomputable def impl_Row_picked.t3 {γ : Type} (ret : ((List Int)) → Option γ) (lp3 : (List Int) → (List Int) → (List Int) → (List Int) → Int → Int → Option γ) (v0 : List Int) (v1 : List Int) (v2 : List Int) (v3 : List Int) (v4 : Int) (v5 : Int) : Option γ :=
 bif decide (v5 < v4) then
  bif decide ((0 : Int) ≤ v5) then
   bif decide (v5.toNat < v3.length) then
    bif decide ((0 : Int) ≤ v3.getD v5.toNat (0 : Int)) then
     bif decide ((v3.getD v5.toNat (0 : Int)).toNat < v0.length) then
      bif decide (v2.length + [v0.getD (v3.getD v5.toNat (0 : Int)).toNat (0 : Int)].length ≤ (4294967296 : Nat)) then
       lp3 (v0) (v1) (v2 ++ [v0.getD (v3.getD v5.toNat (0 : Int)).toNat (0 : Int)]) (v3) (v4) (IntKind.i64.wrap (v5 + (1 : Int)))
      else
       none
     else
      none
    else
     none
   else
    none
  else
   none
 else
  ret (v2)
theorem impl_Row_picked.k (v0 : List Int) (v1 : List Int) : topL E (callT E tab) 135 Try.f135 (impl_Row_picked.c v0 v1) = impl_Row_picked.t (fun b => some (impl_Row_picked.mk b)) impl_Row_picked.q3 v0 v1 := by kernel_rfl
theorem impl_Row_picked.k3 (v0 : List Int) (v1 : List Int) (v2 : List Int) (v3 : List Int) (v4 : Int) (v5 : Int) : roundL E (callT E tab) 135 Try.f135 2 [.r, .r, .l, .r, .b] (nn 2 (⟨(.box false), [.d .fro (.sl (.int .i64)) v0], false, false, false, 0, 0⟩ :: nn 1 (⟨(.box false), [.d .deep (.sl (.int .i64)) v1], false, false, false, 0, 0⟩ :: ⟨(.box false), [.d .deep (.sl (.int .i64)) v2], false, false, false, 0, 0⟩ :: nn 2 (vc (.d .fro (.sl (.int .i64)) v3) :: vc (iL v4) :: vc (iL v5) :: nn 15 ([]))))) = impl_Row_picked.t3 (fun b => some (impl_Row_picked.mk b)) impl_Row_picked.q3 v0 v1 v2 v3 v4 v5 := by kernel_rfl
theorem impl_Row_picked.s (v0 : List Int) (v1 : List Int) : Sub impl_Row_picked.mk (impl_Row_picked.t some impl_Row_picked.l3 v0 v1) (impl_Row_picked.t (fun b => some (impl_Row_picked.mk b)) impl_Row_picked.q3 v0 v1) := by
 unfold impl_Row_picked.t
 repeat' first | exact Sub.ret | exact Sub.none | exact Sub.loop | apply Sub.cond | (apply Sub.bind; intro _)
theorem impl_Row_picked.eq (v0 : List Int) (v1 : List Int) {b : (List Int)} (h : impl_Row_picked.t some impl_Row_picked.l3 v0 v1 = some b) : impl_Row_picked v0 v1 = some b := tOf_intro impl_Row_picked.un (fun _ => by kernel_rfl) (vlim_fn (callT_le E tab) rfl rfl rfl ((impl_Row_picked.k v0 v1).trans (impl_Row_picked.s v0 v1 b h)))
theorem impl_Row_picked.s3 (v0 : List Int) (v1 : List Int) (v2 : List Int) (v3 : List Int) (v4 : Int) (v5 : Int) : Sub impl_Row_picked.mk (impl_Row_picked.t3 some impl_Row_picked.l3 v0 v1 v2 v3 v4 v5) (impl_Row_picked.t3 (fun b => some (impl_Row_picked.mk b)) impl_Row_picked.q3 v0 v1 v2 v3 v4 v5) := by
 unfold impl_Row_picked.t3
 repeat' first | exact Sub.ret | exact Sub.none | exact Sub.loop | apply Sub.cond | (apply Sub.bind; intro _)
theorem impl_Row_picked.eq3 (v0 : List Int) (v1 : List Int) (v2 : List Int) (v3 : List Int) (v4 : Int) (v5 : Int) {b : (List Int)} (h : impl_Row_picked.t3 some impl_Row_picked.l3 v0 v1 v2 v3 v4 v5 = some b) : impl_Row_picked.l3 v0 v1 v2 v3 v4 v5 = some b := tOf_intro impl_Row_picked.un (fun _ => by kernel_rfl) (loopAtL_step ((impl_Row_picked.k3 v0 v1 v2 v3 v4 v5).trans (impl_Row_picked.s3 v0 v1 v2 v3 v4 v5 b h)))
noncomputable def spec_JoinTables.t {γ : Type} (ret : (Int × (List (List Int × Int)) × Bool) → Option γ) (v0 : Int) (v1 : List (List Int × Int)) (v2 : Int) (v3 : List (List Int × Int)) (v4 : List (List Int)) : Option γ :=
 (spec_GoodTable (v0) (v1)).bind fun (r0 : Bool) =>
 bif !r0 then
  ret ((0 : Int), [], Bool.false)
 else
  (spec_GoodTable (v2) (v3)).bind fun (r1 : Bool) =>
  bif !r1 then
   ret ((0 : Int), [], Bool.false)
  else
   (spec_l1Pairs (v4) (v0) (v2)).bind fun (r2 : Bool) =>
   bif !r2 then
    ret ((0 : Int), [], Bool.false)
   else
    (spec_l3Left (v4) (v2)).bind fun (r3 : Int) =>
    bif decide (IntKind.i64.wrap (v0 + r3) > (6 : Int)) then
     ret ((0 : Int), [], Bool.false)
    else
     (spec_l3Left (v4) (v2)).bind fun (r4 : Int) =>
     (spec_l3Join (v1) (v3) (v4)).bind fun (r5 : (List (List Int × Int))) =>
     (spec_l2Tell (IntKind.i64.wrap (v0 + r4)) (r5)).bind fun (r6 : Int × (List (List Int × Int)) × Bool) =>
     ret (r6.fst, r6.snd.fst, r6.snd.snd)
theorem spec_JoinTables.k (v0 : Int) (v1 : List (List Int × Int)) (v2 : Int) (v3 : List (List Int × Int)) (v4 : List (List Int)) : topL E (callT E tab) 54 Try.f54 (spec_JoinTables.c v0 v1 v2 v3 v4) = spec_JoinTables.t (fun b => some (spec_JoinTables.mk b)) v0 v1 v2 v3 v4 := by kernel_rfl
theorem spec_JoinTables.s (v0 : Int) (v1 : List (List Int × Int)) (v2 : Int) (v3 : List (List Int × Int)) (v4 : List (List Int)) : Sub spec_JoinTables.mk (spec_JoinTables.t some v0 v1 v2 v3 v4) (spec_JoinTables.t (fun b => some (spec_JoinTables.mk b)) v0 v1 v2 v3 v4) := by
 unfold spec_JoinTables.t
 repeat' first | exact Sub.ret | exact Sub.none | exact Sub.loop | apply Sub.cond | (apply Sub.bind; intro _)
theorem spec_JoinTables.eq (v0 : Int) (v1 : List (List Int × Int)) (v2 : Int) (v3 : List (List Int × Int)) (v4 : List (List Int)) {b : Int × (List (List Int × Int)) × Bool} (h : spec_JoinTables.t some v0 v1 v2 v3 v4 = some b) : spec_JoinTables v0 v1 v2 v3 v4 = some b := tOf_intro spec_JoinTables.un (fun _ => by kernel_rfl) (vlim_fn (callT_le E tab) rfl rfl rfl ((spec_JoinTables.k v0 v1 v2 v3 v4).trans (spec_JoinTables.s v0 v1 v2 v3 v4 b h)))
end GoV
