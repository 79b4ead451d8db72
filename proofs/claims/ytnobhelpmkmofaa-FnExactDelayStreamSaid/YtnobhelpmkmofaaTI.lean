/- A part of the proof of FnExactDelayStream: an interpreter of the model over plain data, its soundness, and what it makes of the functions that the statement reaches. Conditions: none beyond what the given statement itself says. -/
import Derived.Test.YtnobhelpmkmofaaTH
set_option linter.unusedVariables false
set_option linter.unusedSimpArgs false
set_option linter.unnecessarySimpa false
set_option linter.unusedSectionVars false
/- The functions of the program, each told by what it answers in the end (printed by wip/tools/emit.py). -/
/-! Names of functions here: xs00 = slices_ContainsFunc_impl_Table_impl_Table_impl_areAll_impl_Table_1_impl_GoodStream_1, xs01 = slices_IndexFunc_impl_Table_impl_Table_impl_areAll_impl_Table_1_impl_GoodStream_1, xs02 = slices_ContainsFunc_int_int_impl_areAll_int_1_impl_isCell, xs03 = slices_IndexFunc_int_int_impl_areAll_int_1_impl_isCell, xi04 = impl_areAll_impl_Table_1_impl_GoodStream_1, xi05 = impl_areAll_impl_Table_impl_GoodStream_1, xi06 = impl_areAll_int_1_impl_isCell, xi07 = impl_areAll_int_impl_isCell, xl08 = laws_FnExactDelayStream, xl09 = laws_markWeightedS_d97, xs0a = slices_Compare_int_int, xs0b = slices_Clone_int_int, xl0c = laws_markStream_ee6, xl0d = laws_markTableS_3ec -/
namespace GoV
open Go Go.Proofs
set_option maxRecDepth 100000

def laws_szTable.c (v0 : Int) (v1 : List (List Int × Int)) (v2 : Int) : List Cell := ac [iL v0, .d .fro (.sl (.pair (.sl (.int .i64)) (.int .i64))) v1] :: vc (iL v2) :: []
def laws_szTable.mk (b : Int) : R := (⟨.one, [iL b]⟩, nn 2 ([]))
def laws_szTable.un (r : R) : Int := ((leafR r 0).dat (.int .i64))
noncomputable def laws_szTable (v0 : Int) (v1 : List (List Int × Int)) (v2 : Int) : Option (Int) := tOf laws_szTable.mk (vlim E 13 (laws_szTable.c v0 v1 v2))
def laws_szWeightedS.c (v0 : List (List Int × Int)) (v1 : Int) : List Cell := vc (.d .fro (.sl (.pair (.sl (.int .i64)) (.int .i64))) v0) :: vc (iL v1) :: []
def laws_szWeightedS.mk (b : Int) : R := (⟨.one, [iL b]⟩, nn 2 ([]))
def laws_szWeightedS.un (r : R) : Int := ((leafR r 0).dat (.int .i64))
noncomputable def laws_szWeightedS (v0 : List (List Int × Int)) (v1 : Int) : Option (Int) := tOf laws_szWeightedS.mk (vlim E 64 (laws_szWeightedS.c v0 v1))
def laws_szWeighted.c (v0 : List Int) (v1 : Int) (v2 : Int) : List Cell := ac [.d .fro (.sl (.int .i64)) v0, iL v1] :: vc (iL v2) :: []
def laws_szWeighted.mk (b : Int) : R := (⟨.one, [iL b]⟩, nn 2 ([]))
def laws_szWeighted.un (r : R) : Int := ((leafR r 0).dat (.int .i64))
noncomputable def laws_szWeighted (v0 : List Int) (v1 : Int) (v2 : Int) : Option (Int) := tOf laws_szWeighted.mk (vlim E 133 (laws_szWeighted.c v0 v1 v2))
def laws_szRow.c (v0 : List Int) (v1 : Int) : List Cell := ac [.d .fro (.sl (.int .i64)) v0] :: vc (iL v1) :: []
def laws_szRow.mk (b : Int) : R := (⟨.one, [iL b]⟩, nn 2 ([]))
def laws_szRow.un (r : R) : Int := ((leafR r 0).dat (.int .i64))
noncomputable def laws_szRow (v0 : List Int) (v1 : Int) : Option (Int) := tOf laws_szRow.mk (vlim E 153 (laws_szRow.c v0 v1))
def laws_szIntS.c (v0 : List Int) (v1 : Int) : List Cell := vc (.d .fro (.sl (.int .i64)) v0) :: vc (iL v1) :: []
def laws_szIntS.mk (b : Int) : R := (⟨.one, [iL b]⟩, nn 2 ([]))
def laws_szIntS.un (r : R) : Int := ((leafR r 0).dat (.int .i64))
noncomputable def laws_szIntS (v0 : List Int) (v1 : Int) : Option (Int) := tOf laws_szIntS.mk (vlim E 65 (laws_szIntS.c v0 v1))
def laws_toTable.c (v0 : Int) (v1 : List (List Int × Int)) : List Cell := ac [iL v0, .d .fro (.sl (.pair (.sl (.int .i64)) (.int .i64))) v1] :: []
def laws_toTable.mk (b : Int × (List (List Int × Int))) : R := (⟨.agg, [iL b.1, .d .deep (.sl (.pair (.sl (.int .i64)) (.int .i64))) b.2]⟩, nn 1 ([]))
def laws_toTable.un (r : R) : Int × (List (List Int × Int)) := ((leafR r 0).dat (.int .i64), (leafR r 1).dat (.sl (.pair (.sl (.int .i64)) (.int .i64))))
noncomputable def laws_toTable (v0 : Int) (v1 : List (List Int × Int)) : Option (Int × (List (List Int × Int))) := tOf laws_toTable.mk (vlim E 16 (laws_toTable.c v0 v1))
def laws_toWeightedS.c (v0 : List (List Int × Int)) : List Cell := vc (.d .fro (.sl (.pair (.sl (.int .i64)) (.int .i64))) v0) :: []
def laws_toWeightedS.mk (b : (List (List Int × Int))) : R := (⟨.one, [.d .deep (.sl (.pair (.sl (.int .i64)) (.int .i64))) b]⟩, nn 1 ([]))
def laws_toWeightedS.un (r : R) : (List (List Int × Int)) := ((leafR r 0).dat (.sl (.pair (.sl (.int .i64)) (.int .i64))))
noncomputable def laws_toWeightedS (v0 : List (List Int × Int)) : Option ((List (List Int × Int))) := tOf laws_toWeightedS.mk (vlim E 70 (laws_toWeightedS.c v0))
def laws_toWeighted.c (v0 : List Int) (v1 : Int) : List Cell := ac [.d .fro (.sl (.int .i64)) v0, iL v1] :: []
def laws_toWeighted.mk (b : (List Int) × Int) : R := (⟨.agg, [.d .deep (.sl (.int .i64)) b.1, iL b.2]⟩, nn 1 ([]))
def laws_toWeighted.un (r : R) : (List Int) × Int := ((leafR r 0).dat (.sl (.int .i64)), (leafR r 1).dat (.int .i64))
noncomputable def laws_toWeighted (v0 : List Int) (v1 : Int) : Option ((List Int) × Int) := tOf laws_toWeighted.mk (vlim E 139 (laws_toWeighted.c v0 v1))
def laws_toRow.c (v0 : List Int) : List Cell := ac [.d .fro (.sl (.int .i64)) v0] :: []
def laws_toRow.mk (b : (List Int)) : R := (⟨.agg, [.d .deep (.sl (.int .i64)) b]⟩, nn 1 ([]))
def laws_toRow.un (r : R) : (List Int) := ((leafR r 0).dat (.sl (.int .i64)))
noncomputable def laws_toRow (v0 : List Int) : Option ((List Int)) := tOf laws_toRow.mk (vlim E 157 (laws_toRow.c v0))
def laws_toIntS.c (v0 : List Int) : List Cell := vc (.d .fro (.sl (.int .i64)) v0) :: []
def laws_toIntS.mk (b : (List Int)) : R := (⟨.one, [.d .deep (.sl (.int .i64)) b]⟩, nn 1 ([]))
def laws_toIntS.un (r : R) : (List Int) := ((leafR r 0).dat (.sl (.int .i64)))
noncomputable def laws_toIntS (v0 : List Int) : Option ((List Int)) := tOf laws_toIntS.mk (vlim E 71 (laws_toIntS.c v0))
def spec_GoodTable.c (v0 : Int) (v1 : List (List Int × Int)) : List Cell := ac [iL v0, .d .fro (.sl (.pair (.sl (.int .i64)) (.int .i64))) v1] :: []
def spec_GoodTable.mk (b : Bool) : R := (⟨.one, [bL b]⟩, nn 1 ([]))
def spec_GoodTable.un (r : R) : Bool := ((leafR r 0).dat .bool)
noncomputable def spec_GoodTable (v0 : Int) (v1 : List (List Int × Int)) : Option (Bool) := tOf spec_GoodTable.mk (vlim E 66 (spec_GoodTable.c v0 v1))
def spec_GoodRow.c (v0 : List Int) : List Cell := ac [.d .fro (.sl (.int .i64)) v0] :: []
def spec_GoodRow.mk (b : Bool) : R := (⟨.one, [bL b]⟩, nn 1 ([]))
def spec_GoodRow.un (r : R) : Bool := ((leafR r 0).dat .bool)
noncomputable def spec_GoodRow (v0 : List Int) : Option (Bool) := tOf spec_GoodRow.mk (vlim E 134 (spec_GoodRow.c v0))
def spec_l1In.c (v0 : Int) (v1 : Int) (v2 : Int) : List Cell := vc (iL v0) :: vc (iL v1) :: vc (iL v2) :: []
def spec_l1In.mk (b : Bool) : R := (⟨.one, [bL b]⟩, nn 3 ([]))
def spec_l1In.un (r : R) : Bool := ((leafR r 0).dat .bool)
noncomputable def spec_l1In (v0 : Int) (v1 : Int) (v2 : Int) : Option (Bool) := tOf spec_l1In.mk (vlim E 137 (spec_l1In.c v0 v1 v2))
def spec_l2Weight.c (v0 : Int) : List Cell := vc (iL v0) :: []
def spec_l2Weight.mk (b : Bool) : R := (⟨.one, [bL b]⟩, nn 1 ([]))
def spec_l2Weight.un (r : R) : Bool := ((leafR r 0).dat .bool)
noncomputable def spec_l2Weight (v0 : Int) : Option (Bool) := tOf spec_l2Weight.mk (vlim E 135 (spec_l2Weight.c v0))
def spec_l1Compare.c (v0 : List Int) (v1 : List Int) : List Cell := ac [.d .fro (.sl (.int .i64)) v0] :: ac [.d .fro (.sl (.int .i64)) v1] :: []
def spec_l1Compare.mk (b : Int) : R := (⟨.one, [iL b]⟩, nn 2 ([]))
def spec_l1Compare.un (r : R) : Int := ((leafR r 0).dat (.int .i64))
noncomputable def spec_l1Compare (v0 : List Int) (v1 : List Int) : Option (Int) := tOf spec_l1Compare.mk (vlim E 136 (spec_l1Compare.c v0 v1))
def spec_l2Tell.c (v0 : Int) (v1 : List (List Int × Int)) : List Cell := vc (iL v0) :: vc (.d .fro (.sl (.pair (.sl (.int .i64)) (.int .i64))) v1) :: []
def spec_l2Tell.mk (b : Int × (List (List Int × Int)) × Bool) : R := (⟨(.tup [some 2, none]), [iL b.1, .d .deep (.sl (.pair (.sl (.int .i64)) (.int .i64))) b.2.1, bL b.2.2]⟩, nn 2 ([]))
def spec_l2Tell.un (r : R) : Int × (List (List Int × Int)) × Bool := ((leafR r 0).dat (.int .i64), (leafR r 1).dat (.sl (.pair (.sl (.int .i64)) (.int .i64))), (leafR r 2).dat .bool)
noncomputable def spec_l2Tell (v0 : Int) (v1 : List (List Int × Int)) : Option (Int × (List (List Int × Int)) × Bool) := tOf spec_l2Tell.mk (vlim E 68 (spec_l2Tell.c v0 v1))
def spec_l2OwnRow.c (v0 : List Int) : List Cell := ac [.d .fro (.sl (.int .i64)) v0] :: []
def spec_l2OwnRow.mk (b : (List Int)) : R := (⟨.agg, [.d .deep (.sl (.int .i64)) b]⟩, nn 1 ([]))
def spec_l2OwnRow.un (r : R) : (List Int) := ((leafR r 0).dat (.sl (.int .i64)))
noncomputable def spec_l2OwnRow (v0 : List Int) : Option ((List Int)) := tOf spec_l2OwnRow.mk (vlim E 138 (spec_l2OwnRow.c v0))
def impl_GoodTable.c (v0 : Int) (v1 : List (List Int × Int)) : List Cell := ac [iL v0, .d .fro (.sl (.pair (.sl (.int .i64)) (.int .i64))) v1] :: []
def impl_GoodTable.mk (b : Bool) : R := (⟨.one, [bL b]⟩, nn 1 ([]))
def impl_GoodTable.un (r : R) : Bool := ((leafR r 0).dat .bool)
noncomputable def impl_GoodTable (v0 : Int) (v1 : List (List Int × Int)) : Option (Bool) := tOf impl_GoodTable.mk (vlim E 72 (impl_GoodTable.c v0 v1))
def impl_isColumns.c (v0 : Int) : List Cell := vc (iL v0) :: []
def impl_isColumns.mk (b : Bool) : R := (⟨.one, [bL b]⟩, nn 1 ([]))
def impl_isColumns.un (r : R) : Bool := ((leafR r 0).dat .bool)
noncomputable def impl_isColumns (v0 : Int) : Option (Bool) := tOf impl_isColumns.mk (vlim E 140 (impl_isColumns.c v0))
def impl_within.c (v0 : Int) (v1 : Int) (v2 : Int) : List Cell := vc (iL v0) :: vc (iL v1) :: vc (iL v2) :: []
def impl_within.mk (b : Bool) : R := (⟨.one, [bL b]⟩, nn 3 ([]))
def impl_within.un (r : R) : Bool := ((leafR r 0).dat .bool)
noncomputable def impl_within (v0 : Int) (v1 : Int) (v2 : Int) : Option (Bool) := tOf impl_within.mk (vlim E 158 (impl_within.c v0 v1 v2))
def impl_isRowOf.c (v0 : List Int) (v1 : Int) : List Cell := ac [.d .fro (.sl (.int .i64)) v0] :: vc (iL v1) :: []
def impl_isRowOf.mk (b : Bool) : R := (⟨.one, [bL b]⟩, nn 2 ([]))
def impl_isRowOf.un (r : R) : Bool := ((leafR r 0).dat .bool)
noncomputable def impl_isRowOf (v0 : List Int) (v1 : Int) : Option (Bool) := tOf impl_isRowOf.mk (vlim E 141 (impl_isRowOf.c v0 v1))
def impl_GoodRow.c (v0 : List Int) : List Cell := ac [.d .fro (.sl (.int .i64)) v0] :: []
def impl_GoodRow.mk (b : Bool) : R := (⟨.one, [bL b]⟩, nn 1 ([]))
def impl_GoodRow.un (r : R) : Bool := ((leafR r 0).dat .bool)
noncomputable def impl_GoodRow (v0 : List Int) : Option (Bool) := tOf impl_GoodRow.mk (vlim E 197 (impl_GoodRow.c v0))
def xi07.c (v0 : List Int) : List Cell := vc (.d .fro (.sl (.int .i64)) v0) :: vc (.fn 223 []) :: []
def xi07.mk (b : Bool) : R := (⟨.one, [bL b]⟩, nn 2 ([]))
def xi07.un (r : R) : Bool := ((leafR r 0).dat .bool)
noncomputable def xi07 (v0 : List Int) : Option (Bool) := tOf xi07.mk (vlim E 161 (xi07.c v0))
def xs02.c (v0 : List Int) : List Cell := vc (.d .fro (.sl (.int .i64)) v0) :: vc (.fn 206 [.rp [.fn 223 []] 0]) :: []
def xs02.mk (b : Bool) : R := (⟨.one, [bL b]⟩, nn 2 ([]))
def xs02.un (r : R) : Bool := ((leafR r 0).dat .bool)
noncomputable def xs02 (v0 : List Int) : Option (Bool) := tOf xs02.mk (vlim E 205 (xs02.c v0))
def xs03.c (v0 : List Int) : List Cell := vc (.d .fro (.sl (.int .i64)) v0) :: vc (.fn 206 [.rp [.fn 223 []] 0]) :: []
def xs03.mk (b : Int) : R := (⟨.one, [iL b]⟩, nn 2 ([]))
def xs03.un (r : R) : Int := ((leafR r 0).dat (.int .i64))
noncomputable def xs03 (v0 : List Int) : Option (Int) := tOf xs03.mk (vlim E 228 (xs03.c v0))
def xi06.c (v0 : Int) : List Cell := vc (iL v0) :: vc (.rp [.fn 223 []] 0) :: []
def xi06.mk (b : Bool) : R := (⟨.one, [bL b]⟩, nn 2 ([]))
def xi06.un (r : R) : Bool := ((leafR r 0).dat .bool)
noncomputable def xi06 (v0 : Int) : Option (Bool) := tOf xi06.mk (vlim E 206 (xi06.c v0))
def impl_isCell.c (v0 : Int) : List Cell := vc (iL v0) :: []
def impl_isCell.mk (b : Bool) : R := (⟨.one, [bL b]⟩, nn 1 ([]))
def impl_isCell.un (r : R) : Bool := ((leafR r 0).dat .bool)
noncomputable def impl_isCell (v0 : Int) : Option (Bool) := tOf impl_isCell.mk (vlim E 223 (impl_isCell.c v0))
def impl_isWeight.c (v0 : Int) : List Cell := vc (iL v0) :: []
def impl_isWeight.mk (b : Bool) : R := (⟨.one, [bL b]⟩, nn 1 ([]))
def impl_isWeight.un (r : R) : Bool := ((leafR r 0).dat .bool)
noncomputable def impl_isWeight (v0 : Int) : Option (Bool) := tOf impl_isWeight.mk (vlim E 142 (impl_isWeight.c v0))
def impl_compareRows.c (v0 : List Int) (v1 : List Int) : List Cell := ac [.d .fro (.sl (.int .i64)) v0] :: ac [.d .fro (.sl (.int .i64)) v1] :: []
def impl_compareRows.mk (b : Int) : R := (⟨.one, [iL b]⟩, nn 2 ([]))
def impl_compareRows.un (r : R) : Int := ((leafR r 0).dat (.int .i64))
noncomputable def impl_compareRows (v0 : List Int) (v1 : List Int) : Option (Int) := tOf impl_compareRows.mk (vlim E 143 (impl_compareRows.c v0 v1))
def xs0a.c (v0 : List Int) (v1 : List Int) : List Cell := vc (.d .fro (.sl (.int .i64)) v0) :: vc (.d .fro (.sl (.int .i64)) v1) :: []
def xs0a.mk (b : Int) : R := (⟨.one, [iL b]⟩, nn 2 ([]))
def xs0a.un (r : R) : Int := ((leafR r 0).dat (.int .i64))
noncomputable def xs0a (v0 : List Int) (v1 : List Int) : Option (Int) := tOf xs0a.mk (vlim E 198 (xs0a.c v0 v1))
def cmp_Compare_int.c (v0 : Int) (v1 : Int) : List Cell := vc (iL v0) :: vc (iL v1) :: []
def cmp_Compare_int.mk (b : Int) : R := (⟨.one, [iL b]⟩, nn 2 ([]))
def cmp_Compare_int.un (r : R) : Int := ((leafR r 0).dat (.int .i64))
noncomputable def cmp_Compare_int (v0 : Int) (v1 : Int) : Option (Int) := tOf cmp_Compare_int.mk (vlim E 224 (cmp_Compare_int.c v0 v1))
def cmp_isNaN_int.c (v0 : Int) : List Cell := vc (iL v0) :: []
def cmp_isNaN_int.mk (b : Bool) : R := (⟨.one, [bL b]⟩, nn 1 ([]))
def cmp_isNaN_int.un (r : R) : Bool := ((leafR r 0).dat .bool)
noncomputable def cmp_isNaN_int (v0 : Int) : Option (Bool) := tOf cmp_isNaN_int.mk (vlim E 236 (cmp_isNaN_int.c v0))
def impl_Row_own.c (v0 : List Int) : List Cell := ac [.d .fro (.sl (.int .i64)) v0] :: []
def impl_Row_own.mk (b : (List Int)) : R := (⟨.agg, [.d .deep (.sl (.int .i64)) b]⟩, nn 1 ([]))
def impl_Row_own.un (r : R) : (List Int) := ((leafR r 0).dat (.sl (.int .i64)))
noncomputable def impl_Row_own (v0 : List Int) : Option ((List Int)) := tOf impl_Row_own.mk (vlim E 152 (impl_Row_own.c v0))
def xs0b.c (v0 : List Int) : List Cell := vc (.d .fro (.sl (.int .i64)) v0) :: []
def xs0b.mk (b : (List Int)) : R := (⟨.one, [.d .deep (.sl (.int .i64)) b]⟩, nn 1 ([]))
def xs0b.un (r : R) : (List Int) := ((leafR r 0).dat (.sl (.int .i64)))
noncomputable def xs0b (v0 : List Int) : Option ((List Int)) := tOf xs0b.mk (vlim E 178 (xs0b.c v0))
def laws_eqTable.c (v0 : Int) (v1 : List (List Int × Int)) (v2 : Int) (v3 : List (List Int × Int)) : List Cell := ac [iL v0, .d .fro (.sl (.pair (.sl (.int .i64)) (.int .i64))) v1] :: ac [iL v2, .d .fro (.sl (.pair (.sl (.int .i64)) (.int .i64))) v3] :: []
def laws_eqTable.mk (b : Bool) : R := (⟨.one, [bL b]⟩, nn 2 ([]))
def laws_eqTable.un (r : R) : Bool := ((leafR r 0).dat .bool)
noncomputable def laws_eqTable (v0 : Int) (v1 : List (List Int × Int)) (v2 : Int) (v3 : List (List Int × Int)) : Option (Bool) := tOf laws_eqTable.mk (vlim E 19 (laws_eqTable.c v0 v1 v2 v3))
def laws_eqWeightedS.c (v0 : List (List Int × Int)) (v1 : List (List Int × Int)) : List Cell := vc (.d .fro (.sl (.pair (.sl (.int .i64)) (.int .i64))) v0) :: vc (.d .fro (.sl (.pair (.sl (.int .i64)) (.int .i64))) v1) :: []
def laws_eqWeightedS.mk (b : Bool) : R := (⟨.one, [bL b]⟩, nn 2 ([]))
def laws_eqWeightedS.un (r : R) : Bool := ((leafR r 0).dat .bool)
noncomputable def laws_eqWeightedS (v0 : List (List Int × Int)) (v1 : List (List Int × Int)) : Option (Bool) := tOf laws_eqWeightedS.mk (vlim E 75 (laws_eqWeightedS.c v0 v1))
def laws_eqWeighted.c (v0 : List Int) (v1 : Int) (v2 : List Int) (v3 : Int) : List Cell := ac [.d .fro (.sl (.int .i64)) v0, iL v1] :: ac [.d .fro (.sl (.int .i64)) v2, iL v3] :: []
def laws_eqWeighted.mk (b : Bool) : R := (⟨.one, [bL b]⟩, nn 2 ([]))
def laws_eqWeighted.un (r : R) : Bool := ((leafR r 0).dat .bool)
noncomputable def laws_eqWeighted (v0 : List Int) (v1 : Int) (v2 : List Int) (v3 : Int) : Option (Bool) := tOf laws_eqWeighted.mk (vlim E 149 (laws_eqWeighted.c v0 v1 v2 v3))
def laws_eqRow.c (v0 : List Int) (v1 : List Int) : List Cell := ac [.d .fro (.sl (.int .i64)) v0] :: ac [.d .fro (.sl (.int .i64)) v1] :: []
def laws_eqRow.mk (b : Bool) : R := (⟨.one, [bL b]⟩, nn 2 ([]))
def laws_eqRow.un (r : R) : Bool := ((leafR r 0).dat .bool)
noncomputable def laws_eqRow (v0 : List Int) (v1 : List Int) : Option (Bool) := tOf laws_eqRow.mk (vlim E 168 (laws_eqRow.c v0 v1))
def laws_eqIntS.c (v0 : List Int) (v1 : List Int) : List Cell := vc (.d .fro (.sl (.int .i64)) v0) :: vc (.d .fro (.sl (.int .i64)) v1) :: []
def laws_eqIntS.mk (b : Bool) : R := (⟨.one, [bL b]⟩, nn 2 ([]))
def laws_eqIntS.un (r : R) : Bool := ((leafR r 0).dat .bool)
noncomputable def laws_eqIntS (v0 : List Int) (v1 : List Int) : Option (Bool) := tOf laws_eqIntS.mk (vlim E 76 (laws_eqIntS.c v0 v1))
def xl09.c (v0 : List (List Int × Int)) (v1 : Int) : List Cell := ⟨(.val .one), [.d .deep (.sl (.pair (.sl (.int .i64)) (.int .i64))) v0], true, false, false, 0, 0⟩ :: vc (iL v1) :: []
def xl09.mk (b : Int × (List (List Int × Int))) : R := (⟨.one, [iL b.1]⟩, ⟨(.val .one), [.d .deep (.sl (.pair (.sl (.int .i64)) (.int .i64))) b.2], true, false, false, 0, 0⟩ :: nn 1 ([]))
def xl09.un (r : R) : Int × (List (List Int × Int)) := ((leafR r 0).dat (.int .i64), (leafF r 0 0).dat (.sl (.pair (.sl (.int .i64)) (.int .i64))))
noncomputable def xl09 (v0 : List (List Int × Int)) (v1 : Int) : Option (Int × (List (List Int × Int))) := tOf xl09.mk (vlim E 77 (xl09.c v0 v1))
def laws_markIntS_83f.c (v0 : List Int) (v1 : Int) : List Cell := ⟨(.val .one), [.d .deep (.sl (.int .i64)) v0], true, false, false, 0, 0⟩ :: vc (iL v1) :: []
def laws_markIntS_83f.mk (b : Int × (List Int)) : R := (⟨.one, [iL b.1]⟩, ⟨(.val .one), [.d .deep (.sl (.int .i64)) b.2], true, false, false, 0, 0⟩ :: nn 1 ([]))
def laws_markIntS_83f.un (r : R) : Int × (List Int) := ((leafR r 0).dat (.int .i64), (leafF r 0 0).dat (.sl (.int .i64)))
noncomputable def laws_markIntS_83f (v0 : List Int) (v1 : Int) : Option (Int × (List Int)) := tOf laws_markIntS_83f.mk (vlim E 78 (laws_markIntS_83f.c v0 v1))
def laws_heldWeightedS.c (v0 : List (List Int × Int)) (v1 : Int) : List Cell := vc (.d .fro (.sl (.pair (.sl (.int .i64)) (.int .i64))) v0) :: vc (iL v1) :: []
def laws_heldWeightedS.mk (b : Int) : R := (⟨.one, [iL b]⟩, nn 2 ([]))
def laws_heldWeightedS.un (r : R) : Int := ((leafR r 0).dat (.int .i64))
noncomputable def laws_heldWeightedS (v0 : List (List Int × Int)) (v1 : Int) : Option (Int) := tOf laws_heldWeightedS.mk (vlim E 79 (laws_heldWeightedS.c v0 v1))
def laws_heldIntS.c (v0 : List Int) (v1 : Int) : List Cell := vc (.d .fro (.sl (.int .i64)) v0) :: vc (iL v1) :: []
def laws_heldIntS.mk (b : Int) : R := (⟨.one, [iL b]⟩, nn 2 ([]))
def laws_heldIntS.un (r : R) : Int := ((leafR r 0).dat (.int .i64))
noncomputable def laws_heldIntS (v0 : List Int) (v1 : Int) : Option (Int) := tOf laws_heldIntS.mk (vlim E 117 (laws_heldIntS.c v0 v1))
def xl08.c (v0 : Int) (v1 : List (Int × List (List Int × Int))) : List Cell := ac [iL v0, .d .fro (.sl (.pair (.int .i64) (.sl (.pair (.sl (.int .i64)) (.int .i64))))) v1] :: []
def xl08.mk (b : Bool) : R := (⟨.one, [bL b]⟩, nn 1 ([]))
def xl08.un (r : R) : Bool := ((leafR r 0).dat .bool)
noncomputable def xl08 (v0 : Int) (v1 : List (Int × List (List Int × Int))) : Option (Bool) := tOf xl08.mk (vlim E 4 (xl08.c v0 v1))
def laws_szStream.c (v0 : Int) (v1 : List (Int × List (List Int × Int))) (v2 : Int) : List Cell := ac [iL v0, .d .fro (.sl (.pair (.int .i64) (.sl (.pair (.sl (.int .i64)) (.int .i64))))) v1] :: vc (iL v2) :: []
def laws_szStream.mk (b : Int) : R := (⟨.one, [iL b]⟩, nn 2 ([]))
def laws_szStream.un (r : R) : Int := ((leafR r 0).dat (.int .i64))
noncomputable def laws_szStream (v0 : Int) (v1 : List (Int × List (List Int × Int))) (v2 : Int) : Option (Int) := tOf laws_szStream.mk (vlim E 24 (laws_szStream.c v0 v1 v2))
def laws_szTableS.c (v0 : List (Int × List (List Int × Int))) (v1 : Int) : List Cell := vc (.d .fro (.sl (.pair (.int .i64) (.sl (.pair (.sl (.int .i64)) (.int .i64))))) v0) :: vc (iL v1) :: []
def laws_szTableS.mk (b : Int) : R := (⟨.one, [iL b]⟩, nn 2 ([]))
def laws_szTableS.un (r : R) : Int := ((leafR r 0).dat (.int .i64))
noncomputable def laws_szTableS (v0 : List (Int × List (List Int × Int))) (v1 : Int) : Option (Int) := tOf laws_szTableS.mk (vlim E 80 (laws_szTableS.c v0 v1))
def laws_toStream.c (v0 : Int) (v1 : List (Int × List (List Int × Int))) : List Cell := ac [iL v0, .d .fro (.sl (.pair (.int .i64) (.sl (.pair (.sl (.int .i64)) (.int .i64))))) v1] :: []
def laws_toStream.mk (b : Int × (List (Int × List (List Int × Int)))) : R := (⟨.agg, [iL b.1, .d .deep (.sl (.pair (.int .i64) (.sl (.pair (.sl (.int .i64)) (.int .i64))))) b.2]⟩, nn 1 ([]))
def laws_toStream.un (r : R) : Int × (List (Int × List (List Int × Int))) := ((leafR r 0).dat (.int .i64), (leafR r 1).dat (.sl (.pair (.int .i64) (.sl (.pair (.sl (.int .i64)) (.int .i64))))))
noncomputable def laws_toStream (v0 : Int) (v1 : List (Int × List (List Int × Int))) : Option (Int × (List (Int × List (List Int × Int)))) := tOf laws_toStream.mk (vlim E 26 (laws_toStream.c v0 v1))
def laws_toTableS.c (v0 : List (Int × List (List Int × Int))) : List Cell := vc (.d .fro (.sl (.pair (.int .i64) (.sl (.pair (.sl (.int .i64)) (.int .i64))))) v0) :: []
def laws_toTableS.mk (b : (List (Int × List (List Int × Int)))) : R := (⟨.one, [.d .deep (.sl (.pair (.int .i64) (.sl (.pair (.sl (.int .i64)) (.int .i64))))) b]⟩, nn 1 ([]))
def laws_toTableS.un (r : R) : (List (Int × List (List Int × Int))) := ((leafR r 0).dat (.sl (.pair (.int .i64) (.sl (.pair (.sl (.int .i64)) (.int .i64))))))
noncomputable def laws_toTableS (v0 : List (Int × List (List Int × Int))) : Option ((List (Int × List (List Int × Int)))) := tOf laws_toTableS.mk (vlim E 83 (laws_toTableS.c v0))
def spec_DelayStream.c (v0 : Int) (v1 : List (Int × List (List Int × Int))) : List Cell := ac [iL v0, .d .fro (.sl (.pair (.int .i64) (.sl (.pair (.sl (.int .i64)) (.int .i64))))) v1] :: []
def spec_DelayStream.mk (b : Int × (List (Int × List (List Int × Int))) × Bool) : R := (⟨(.tup [some 2, none]), [iL b.1, .d .deep (.sl (.pair (.int .i64) (.sl (.pair (.sl (.int .i64)) (.int .i64))))) b.2.1, bL b.2.2]⟩, nn 1 ([]))
def spec_DelayStream.un (r : R) : Int × (List (Int × List (List Int × Int))) × Bool := ((leafR r 0).dat (.int .i64), (leafR r 1).dat (.sl (.pair (.int .i64) (.sl (.pair (.sl (.int .i64)) (.int .i64))))), (leafR r 2).dat .bool)
noncomputable def spec_DelayStream (v0 : Int) (v1 : List (Int × List (List Int × Int))) : Option (Int × (List (Int × List (List Int × Int))) × Bool) := tOf spec_DelayStream.mk (vlim E 25 (spec_DelayStream.c v0 v1))
def spec_GoodStream.c (v0 : Int) (v1 : List (Int × List (List Int × Int))) : List Cell := ac [iL v0, .d .fro (.sl (.pair (.int .i64) (.sl (.pair (.sl (.int .i64)) (.int .i64))))) v1] :: []
def spec_GoodStream.mk (b : Bool) : R := (⟨.one, [bL b]⟩, nn 1 ([]))
def spec_GoodStream.un (r : R) : Bool := ((leafR r 0).dat .bool)
noncomputable def spec_GoodStream (v0 : Int) (v1 : List (Int × List (List Int × Int))) : Option (Bool) := tOf spec_GoodStream.mk (vlim E 81 (spec_GoodStream.c v0 v1))
def spec_l4Stream.c (v0 : Int) (v1 : List (List (List Int × Int))) : List Cell := vc (iL v0) :: vc (.d .fro (.sl (.sl (.pair (.sl (.int .i64)) (.int .i64)))) v1) :: []
def spec_l4Stream.mk (b : Int × (List (Int × List (List Int × Int))) × Bool) : R := (⟨(.tup [some 2, none]), [iL b.1, .d .deep (.sl (.pair (.int .i64) (.sl (.pair (.sl (.int .i64)) (.int .i64))))) b.2.1, bL b.2.2]⟩, nn 2 ([]))
def spec_l4Stream.un (r : R) : Int × (List (Int × List (List Int × Int))) × Bool := ((leafR r 0).dat (.int .i64), (leafR r 1).dat (.sl (.pair (.int .i64) (.sl (.pair (.sl (.int .i64)) (.int .i64))))), (leafR r 2).dat .bool)
noncomputable def spec_l4Stream (v0 : Int) (v1 : List (List (List Int × Int))) : Option (Int × (List (Int × List (List Int × Int))) × Bool) := tOf spec_l4Stream.mk (vlim E 82 (spec_l4Stream.c v0 v1))
def impl_DelayStream.c (v0 : Int) (v1 : List (Int × List (List Int × Int))) : List Cell := ac [iL v0, .d .fro (.sl (.pair (.int .i64) (.sl (.pair (.sl (.int .i64)) (.int .i64))))) v1] :: []
def impl_DelayStream.mk (b : Int × (List (Int × List (List Int × Int))) × Bool) : R := (⟨(.tup [some 2, none]), [iL b.1, .d .deep (.sl (.pair (.int .i64) (.sl (.pair (.sl (.int .i64)) (.int .i64))))) b.2.1, bL b.2.2]⟩, nn 1 ([]))
def impl_DelayStream.un (r : R) : Int × (List (Int × List (List Int × Int))) × Bool := ((leafR r 0).dat (.int .i64), (leafR r 1).dat (.sl (.pair (.int .i64) (.sl (.pair (.sl (.int .i64)) (.int .i64))))), (leafR r 2).dat .bool)
noncomputable def impl_DelayStream (v0 : Int) (v1 : List (Int × List (List Int × Int))) : Option (Int × (List (Int × List (List Int × Int))) × Bool) := tOf impl_DelayStream.mk (vlim E 27 (impl_DelayStream.c v0 v1))
def impl_GoodStream.c (v0 : Int) (v1 : List (Int × List (List Int × Int))) : List Cell := ac [iL v0, .d .fro (.sl (.pair (.int .i64) (.sl (.pair (.sl (.int .i64)) (.int .i64))))) v1] :: []
def impl_GoodStream.mk (b : Bool) : R := (⟨.one, [bL b]⟩, nn 1 ([]))
def impl_GoodStream.un (r : R) : Bool := ((leafR r 0).dat .bool)
noncomputable def impl_GoodStream (v0 : Int) (v1 : List (Int × List (List Int × Int))) : Option (Bool) := tOf impl_GoodStream.mk (vlim E 84 (impl_GoodStream.c v0 v1))
def xi05.c (v0 : List (Int × List (List Int × Int))) (v1 : Int) (v2 : List (Int × List (List Int × Int))) : List Cell := vc (.d .fro (.sl (.pair (.int .i64) (.sl (.pair (.sl (.int .i64)) (.int .i64))))) v0) :: vc (.fn 151 [.rp [iL v1, .d .fro (.sl (.pair (.int .i64) (.sl (.pair (.sl (.int .i64)) (.int .i64))))) v2] 0]) :: []
def xi05.mk (b : Bool) : R := (⟨.one, [bL b]⟩, nn 2 ([]))
def xi05.un (r : R) : Bool := ((leafR r 0).dat .bool)
noncomputable def xi05 (v0 : List (Int × List (List Int × Int))) (v1 : Int) (v2 : List (Int × List (List Int × Int))) : Option (Bool) := tOf xi05.mk (vlim E 150 (xi05.c v0 v1 v2))
def xs00.c (v0 : List (Int × List (List Int × Int))) (v1 : Int) (v2 : List (Int × List (List Int × Int))) : List Cell := vc (.d .fro (.sl (.pair (.int .i64) (.sl (.pair (.sl (.int .i64)) (.int .i64))))) v0) :: vc (.fn 202 [.rp [.fn 151 [.rp [iL v1, .d .fro (.sl (.pair (.int .i64) (.sl (.pair (.sl (.int .i64)) (.int .i64))))) v2] 0]] 0]) :: []
def xs00.mk (b : Bool) : R := (⟨.one, [bL b]⟩, nn 2 ([]))
def xs00.un (r : R) : Bool := ((leafR r 0).dat .bool)
noncomputable def xs00 (v0 : List (Int × List (List Int × Int))) (v1 : Int) (v2 : List (Int × List (List Int × Int))) : Option (Bool) := tOf xs00.mk (vlim E 201 (xs00.c v0 v1 v2))
def xs01.c (v0 : List (Int × List (List Int × Int))) (v1 : Int) (v2 : List (Int × List (List Int × Int))) : List Cell := vc (.d .fro (.sl (.pair (.int .i64) (.sl (.pair (.sl (.int .i64)) (.int .i64))))) v0) :: vc (.fn 202 [.rp [.fn 151 [.rp [iL v1, .d .fro (.sl (.pair (.int .i64) (.sl (.pair (.sl (.int .i64)) (.int .i64))))) v2] 0]] 0]) :: []
def xs01.mk (b : Int) : R := (⟨.one, [iL b]⟩, nn 2 ([]))
def xs01.un (r : R) : Int := ((leafR r 0).dat (.int .i64))
noncomputable def xs01 (v0 : List (Int × List (List Int × Int))) (v1 : Int) (v2 : List (Int × List (List Int × Int))) : Option (Int) := tOf xs01.mk (vlim E 226 (xs01.c v0 v1 v2))
def xi04.c (v0 : Int) (v1 : List (List Int × Int)) (v2 : Int) (v3 : List (Int × List (List Int × Int))) : List Cell := ac [iL v0, .d .fro (.sl (.pair (.sl (.int .i64)) (.int .i64))) v1] :: vc (.rp [.fn 151 [.rp [iL v2, .d .fro (.sl (.pair (.int .i64) (.sl (.pair (.sl (.int .i64)) (.int .i64))))) v3] 0]] 0) :: []
def xi04.mk (b : Bool) : R := (⟨.one, [bL b]⟩, nn 2 ([]))
def xi04.un (r : R) : Bool := ((leafR r 0).dat .bool)
noncomputable def xi04 (v0 : Int) (v1 : List (List Int × Int)) (v2 : Int) (v3 : List (Int × List (List Int × Int))) : Option (Bool) := tOf xi04.mk (vlim E 202 (xi04.c v0 v1 v2 v3))
def impl_GoodStream_1.c (v0 : Int) (v1 : List (List Int × Int)) (v2 : Int) (v3 : List (Int × List (List Int × Int))) : List Cell := ac [iL v0, .d .fro (.sl (.pair (.sl (.int .i64)) (.int .i64))) v1] :: vc (.rp [iL v2, .d .fro (.sl (.pair (.int .i64) (.sl (.pair (.sl (.int .i64)) (.int .i64))))) v3] 0) :: []
def impl_GoodStream_1.mk (b : Bool) : R := (⟨.one, [bL b]⟩, nn 2 ([]))
def impl_GoodStream_1.un (r : R) : Bool := ((leafR r 0).dat .bool)
noncomputable def impl_GoodStream_1 (v0 : Int) (v1 : List (List Int × Int)) (v2 : Int) (v3 : List (Int × List (List Int × Int))) : Option (Bool) := tOf impl_GoodStream_1.mk (vlim E 151 (impl_GoodStream_1.c v0 v1 v2 v3))
def impl_Table_scaled.c (v0 : Int) (v1 : List (List Int × Int)) (v2 : Int) : List Cell := ac [iL v0, .d .fro (.sl (.pair (.sl (.int .i64)) (.int .i64))) v1] :: vc (iL v2) :: []
def impl_Table_scaled.mk (b : Int × (List (List Int × Int))) : R := (⟨.agg, [iL b.1, .d .deep (.sl (.pair (.sl (.int .i64)) (.int .i64))) b.2]⟩, nn 2 ([]))
def impl_Table_scaled.un (r : R) : Int × (List (List Int × Int)) := ((leafR r 0).dat (.int .i64), (leafR r 1).dat (.sl (.pair (.sl (.int .i64)) (.int .i64))))
noncomputable def impl_Table_scaled (v0 : Int) (v1 : List (List Int × Int)) (v2 : Int) : Option (Int × (List (List Int × Int))) := tOf impl_Table_scaled.mk (vlim E 85 (impl_Table_scaled.c v0 v1 v2))
def laws_eqStream.c (v0 : Int) (v1 : List (Int × List (List Int × Int))) (v2 : Int) (v3 : List (Int × List (List Int × Int))) : List Cell := ac [iL v0, .d .fro (.sl (.pair (.int .i64) (.sl (.pair (.sl (.int .i64)) (.int .i64))))) v1] :: ac [iL v2, .d .fro (.sl (.pair (.int .i64) (.sl (.pair (.sl (.int .i64)) (.int .i64))))) v3] :: []
def laws_eqStream.mk (b : Bool) : R := (⟨.one, [bL b]⟩, nn 2 ([]))
def laws_eqStream.un (r : R) : Bool := ((leafR r 0).dat .bool)
noncomputable def laws_eqStream (v0 : Int) (v1 : List (Int × List (List Int × Int))) (v2 : Int) (v3 : List (Int × List (List Int × Int))) : Option (Bool) := tOf laws_eqStream.mk (vlim E 28 (laws_eqStream.c v0 v1 v2 v3))
def laws_eqTableS.c (v0 : List (Int × List (List Int × Int))) (v1 : List (Int × List (List Int × Int))) : List Cell := vc (.d .fro (.sl (.pair (.int .i64) (.sl (.pair (.sl (.int .i64)) (.int .i64))))) v0) :: vc (.d .fro (.sl (.pair (.int .i64) (.sl (.pair (.sl (.int .i64)) (.int .i64))))) v1) :: []
def laws_eqTableS.mk (b : Bool) : R := (⟨.one, [bL b]⟩, nn 2 ([]))
def laws_eqTableS.un (r : R) : Bool := ((leafR r 0).dat .bool)
noncomputable def laws_eqTableS (v0 : List (Int × List (List Int × Int))) (v1 : List (Int × List (List Int × Int))) : Option (Bool) := tOf laws_eqTableS.mk (vlim E 61 (laws_eqTableS.c v0 v1))
def xl0c.c (v0 : Int) (v1 : List (Int × List (List Int × Int))) (v2 : Int) : List Cell := ⟨(.val .agg), [iL v0, .d .deep (.sl (.pair (.int .i64) (.sl (.pair (.sl (.int .i64)) (.int .i64))))) v1], true, false, false, 0, 0⟩ :: vc (iL v2) :: []
def xl0c.mk (b : Int × Int × (List (Int × List (List Int × Int)))) : R := (⟨.one, [iL b.1]⟩, ⟨(.val .agg), [iL b.2.1, .d .deep (.sl (.pair (.int .i64) (.sl (.pair (.sl (.int .i64)) (.int .i64))))) b.2.2], true, false, false, 0, 0⟩ :: nn 1 ([]))
def xl0c.un (r : R) : Int × Int × (List (Int × List (List Int × Int))) := ((leafR r 0).dat (.int .i64), (leafF r 0 0).dat (.int .i64), (leafF r 0 1).dat (.sl (.pair (.int .i64) (.sl (.pair (.sl (.int .i64)) (.int .i64))))))
noncomputable def xl0c (v0 : Int) (v1 : List (Int × List (List Int × Int))) (v2 : Int) : Option (Int × Int × (List (Int × List (List Int × Int)))) := tOf xl0c.mk (vlim E 29 (xl0c.c v0 v1 v2))
def xl0d.c (v0 : List (Int × List (List Int × Int))) (v1 : Int) : List Cell := ⟨(.val .one), [.d .deep (.sl (.pair (.int .i64) (.sl (.pair (.sl (.int .i64)) (.int .i64))))) v0], true, false, false, 0, 0⟩ :: vc (iL v1) :: []
def xl0d.mk (b : Int × (List (Int × List (List Int × Int)))) : R := (⟨.one, [iL b.1]⟩, ⟨(.val .one), [.d .deep (.sl (.pair (.int .i64) (.sl (.pair (.sl (.int .i64)) (.int .i64))))) b.2], true, false, false, 0, 0⟩ :: nn 1 ([]))
def xl0d.un (r : R) : Int × (List (Int × List (List Int × Int))) := ((leafR r 0).dat (.int .i64), (leafF r 0 0).dat (.sl (.pair (.int .i64) (.sl (.pair (.sl (.int .i64)) (.int .i64))))))
noncomputable def xl0d (v0 : List (Int × List (List Int × Int))) (v1 : Int) : Option (Int × (List (Int × List (List Int × Int)))) := tOf xl0d.mk (vlim E 62 (xl0d.c v0 v1))
def laws_heldStream.c (v0 : Int) (v1 : List (Int × List (List Int × Int))) (v2 : Int) : List Cell := ac [iL v0, .d .fro (.sl (.pair (.int .i64) (.sl (.pair (.sl (.int .i64)) (.int .i64))))) v1] :: vc (iL v2) :: []
def laws_heldStream.mk (b : Int) : R := (⟨.one, [iL b]⟩, nn 2 ([]))
def laws_heldStream.un (r : R) : Int := ((leafR r 0).dat (.int .i64))
noncomputable def laws_heldStream (v0 : Int) (v1 : List (Int × List (List Int × Int))) (v2 : Int) : Option (Int) := tOf laws_heldStream.mk (vlim E 30 (laws_heldStream.c v0 v1 v2))
def laws_heldTableS.c (v0 : List (Int × List (List Int × Int))) (v1 : Int) : List Cell := vc (.d .fro (.sl (.pair (.int .i64) (.sl (.pair (.sl (.int .i64)) (.int .i64))))) v0) :: vc (iL v1) :: []
def laws_heldTableS.mk (b : Int) : R := (⟨.one, [iL b]⟩, nn 2 ([]))
def laws_heldTableS.un (r : R) : Int := ((leafR r 0).dat (.int .i64))
noncomputable def laws_heldTableS (v0 : List (Int × List (List Int × Int))) (v1 : Int) : Option (Int) := tOf laws_heldTableS.mk (vlim E 63 (laws_heldTableS.c v0 v1))
def tabT : List (Nat × List (List Cell × Tb)) := [
 (4, [(xl08.c 0 [], ⟨Bool, xl08.mk⟩)]),
 (13, [(laws_szTable.c 0 [] 0, ⟨Int, laws_szTable.mk⟩)]),
 (16, [(laws_toTable.c 0 [], ⟨Int × (List (List Int × Int)), laws_toTable.mk⟩)]),
 (19, [(laws_eqTable.c 0 [] 0 [], ⟨Bool, laws_eqTable.mk⟩)]),
 (24, [(laws_szStream.c 0 [] 0, ⟨Int, laws_szStream.mk⟩)]),
 (25, [(spec_DelayStream.c 0 [], ⟨Int × (List (Int × List (List Int × Int))) × Bool, spec_DelayStream.mk⟩)]),
 (26, [(laws_toStream.c 0 [], ⟨Int × (List (Int × List (List Int × Int))), laws_toStream.mk⟩)]),
 (27, [(impl_DelayStream.c 0 [], ⟨Int × (List (Int × List (List Int × Int))) × Bool, impl_DelayStream.mk⟩)]),
 (28, [(laws_eqStream.c 0 [] 0 [], ⟨Bool, laws_eqStream.mk⟩)]),
 (29, [(xl0c.c 0 [] 0, ⟨Int × Int × (List (Int × List (List Int × Int))), xl0c.mk⟩)]),
 (30, [(laws_heldStream.c 0 [] 0, ⟨Int, laws_heldStream.mk⟩)]),
 (61, [(laws_eqTableS.c [] [], ⟨Bool, laws_eqTableS.mk⟩)]),
 (62, [(xl0d.c [] 0, ⟨Int × (List (Int × List (List Int × Int))), xl0d.mk⟩)]),
 (63, [(laws_heldTableS.c [] 0, ⟨Int, laws_heldTableS.mk⟩)]),
 (64, [(laws_szWeightedS.c [] 0, ⟨Int, laws_szWeightedS.mk⟩)]),
 (65, [(laws_szIntS.c [] 0, ⟨Int, laws_szIntS.mk⟩)]),
 (66, [(spec_GoodTable.c 0 [], ⟨Bool, spec_GoodTable.mk⟩)]),
 (68, [(spec_l2Tell.c 0 [], ⟨Int × (List (List Int × Int)) × Bool, spec_l2Tell.mk⟩)]),
 (70, [(laws_toWeightedS.c [], ⟨(List (List Int × Int)), laws_toWeightedS.mk⟩)]),
 (71, [(laws_toIntS.c [], ⟨(List Int), laws_toIntS.mk⟩)]),
 (72, [(impl_GoodTable.c 0 [], ⟨Bool, impl_GoodTable.mk⟩)]),
 (75, [(laws_eqWeightedS.c [] [], ⟨Bool, laws_eqWeightedS.mk⟩)]),
 (76, [(laws_eqIntS.c [] [], ⟨Bool, laws_eqIntS.mk⟩)]),
 (77, [(xl09.c [] 0, ⟨Int × (List (List Int × Int)), xl09.mk⟩)]),
 (78, [(laws_markIntS_83f.c [] 0, ⟨Int × (List Int), laws_markIntS_83f.mk⟩)]),
 (79, [(laws_heldWeightedS.c [] 0, ⟨Int, laws_heldWeightedS.mk⟩)]),
 (80, [(laws_szTableS.c [] 0, ⟨Int, laws_szTableS.mk⟩)]),
 (81, [(spec_GoodStream.c 0 [], ⟨Bool, spec_GoodStream.mk⟩)]),
 (82, [(spec_l4Stream.c 0 [], ⟨Int × (List (Int × List (List Int × Int))) × Bool, spec_l4Stream.mk⟩)]),
 (83, [(laws_toTableS.c [], ⟨(List (Int × List (List Int × Int))), laws_toTableS.mk⟩)]),
 (84, [(impl_GoodStream.c 0 [], ⟨Bool, impl_GoodStream.mk⟩)]),
 (85, [(impl_Table_scaled.c 0 [] 0, ⟨Int × (List (List Int × Int)), impl_Table_scaled.mk⟩)]),
 (117, [(laws_heldIntS.c [] 0, ⟨Int, laws_heldIntS.mk⟩)]),
 (133, [(laws_szWeighted.c [] 0 0, ⟨Int, laws_szWeighted.mk⟩)]),
 (134, [(spec_GoodRow.c [], ⟨Bool, spec_GoodRow.mk⟩)]),
 (135, [(spec_l2Weight.c 0, ⟨Bool, spec_l2Weight.mk⟩)]),
 (136, [(spec_l1Compare.c [] [], ⟨Int, spec_l1Compare.mk⟩)]),
 (137, [(spec_l1In.c 0 0 0, ⟨Bool, spec_l1In.mk⟩)]),
 (138, [(spec_l2OwnRow.c [], ⟨(List Int), spec_l2OwnRow.mk⟩)]),
 (139, [(laws_toWeighted.c [] 0, ⟨(List Int) × Int, laws_toWeighted.mk⟩)]),
 (140, [(impl_isColumns.c 0, ⟨Bool, impl_isColumns.mk⟩)]),
 (141, [(impl_isRowOf.c [] 0, ⟨Bool, impl_isRowOf.mk⟩)]),
 (142, [(impl_isWeight.c 0, ⟨Bool, impl_isWeight.mk⟩)]),
 (143, [(impl_compareRows.c [] [], ⟨Int, impl_compareRows.mk⟩)]),
 (149, [(laws_eqWeighted.c [] 0 [] 0, ⟨Bool, laws_eqWeighted.mk⟩)]),
 (150, [(xi05.c [] 0 [], ⟨Bool, xi05.mk⟩)]),
 (151, [(impl_GoodStream_1.c 0 [] 0 [], ⟨Bool, impl_GoodStream_1.mk⟩)]),
 (152, [(impl_Row_own.c [], ⟨(List Int), impl_Row_own.mk⟩)]),
 (153, [(laws_szRow.c [] 0, ⟨Int, laws_szRow.mk⟩)]),
 (157, [(laws_toRow.c [], ⟨(List Int), laws_toRow.mk⟩)]),
 (158, [(impl_within.c 0 0 0, ⟨Bool, impl_within.mk⟩)]),
 (161, [(xi07.c [], ⟨Bool, xi07.mk⟩)]),
 (168, [(laws_eqRow.c [] [], ⟨Bool, laws_eqRow.mk⟩)]),
 (178, [(xs0b.c [], ⟨(List Int), xs0b.mk⟩)]),
 (197, [(impl_GoodRow.c [], ⟨Bool, impl_GoodRow.mk⟩)]),
 (198, [(xs0a.c [] [], ⟨Int, xs0a.mk⟩)]),
 (201, [(xs00.c [] 0 [], ⟨Bool, xs00.mk⟩)]),
 (202, [(xi04.c 0 [] 0 [], ⟨Bool, xi04.mk⟩)]),
 (205, [(xs02.c [], ⟨Bool, xs02.mk⟩)]),
 (206, [(xi06.c 0, ⟨Bool, xi06.mk⟩)]),
 (223, [(impl_isCell.c 0, ⟨Bool, impl_isCell.mk⟩)]),
 (224, [(cmp_Compare_int.c 0 0, ⟨Int, cmp_Compare_int.mk⟩)]),
 (226, [(xs01.c [] 0 [], ⟨Int, xs01.mk⟩)]),
 (228, [(xs03.c [], ⟨Int, xs03.mk⟩)]),
 (236, [(cmp_isNaN_int.c 0, ⟨Bool, cmp_isNaN_int.mk⟩)])]
def tab : FuncId → List Cell → Tb := fun g cs => match assoc tabT g with | some l => pickT l cs | none => ⟨Unit, fun _ => (⟨.one, []⟩, [])⟩
end GoV

/- Equations of the program's functions (printed by wip/tools/emit.py). -/
namespace GoV
open Go Go.Proofs
set_option maxRecDepth 100000

noncomputable def laws_szTable.t {γ : Type} (ret : (Int) → Option γ) (v0 : Int) (v1 : List (List Int × Int)) (v2 : Int) : Option γ :=
 (laws_szWeightedS (v1) (v2)).bind fun (r0 : Int) =>
 bif decide (r0 < (0 : Int)) then
  ret ((-1 : Int))
 else
  ret (r0)
theorem laws_szTable.k (v0 : Int) (v1 : List (List Int × Int)) (v2 : Int) : topL E (callT E tab) 13 Try.f13 (laws_szTable.c v0 v1 v2) = laws_szTable.t (fun b => some (laws_szTable.mk b)) v0 v1 v2 := by kernel_rfl
theorem laws_szTable.s (v0 : Int) (v1 : List (List Int × Int)) (v2 : Int) : Sub laws_szTable.mk (laws_szTable.t some v0 v1 v2) (laws_szTable.t (fun b => some (laws_szTable.mk b)) v0 v1 v2) := by
 unfold laws_szTable.t
 repeat' first | exact Sub.ret | exact Sub.none | exact Sub.loop | apply Sub.cond | (apply Sub.bind; intro _)
theorem laws_szTable.eq (v0 : Int) (v1 : List (List Int × Int)) (v2 : Int) {b : Int} (h : laws_szTable.t some v0 v1 v2 = some b) : laws_szTable v0 v1 v2 = some b := tOf_intro laws_szTable.un (fun _ => by kernel_rfl) (vlim_fn (callT_le E tab) rfl rfl rfl ((laws_szTable.k v0 v1 v2).trans (laws_szTable.s v0 v1 v2 b h)))
noncomputable def laws_szWeightedS.q5 (v0 : List (List Int × Int)) (v1 : Int) (v2 : Int) : Option R := loopAtL E (callT E tab) 64 Try.f64 2 [.r, .r, .r, .l, .r, .b] (vc (.d .fro (.sl (.pair (.sl (.int .i64)) (.int .i64))) v0) :: vc (iL v1) :: nn 3 (vc (iL v2) :: nn 21 ([])))
noncomputable def laws_szWeightedS.l5 (v0 : List (List Int × Int)) (v1 : Int) (v2 : Int) : Option (Int) := tOf laws_szWeightedS.mk (laws_szWeightedS.q5 v0 v1 v2)
noncomputable def laws_szWeightedS.t {γ : Type} (ret : (Int) → Option γ) (lp5 : (List (List Int × Int)) → Int → Int → Option γ) (v0 : List (List Int × Int)) (v1 : Int) : Option γ :=
 bif decide (IntKind.i64.wrap (v1 - (↑v0.length : Int)) < (0 : Int)) then
  ret ((-1 : Int))
 else
  lp5 (v0) (IntKind.i64.wrap (v1 - (↑v0.length : Int))) ((0 : Int))
noncomputable def laws_szWeightedS.t5 {γ : Type} (ret : (Int) → Option γ) (lp5 : (List (List Int × Int)) → Int → Int → Option γ) (v0 : List (List Int × Int)) (v1 : Int) (v2 : Int) : Option γ :=
 bif decide (v2 < (↑v0.length : Int)) then
  bif decide ((0 : Int) ≤ v2) then
   bif decide (v2.toNat < v0.length) then
    (laws_szWeighted ((v0.getD v2.toNat ([], (0 : Int))).fst) ((v0.getD v2.toNat ([], (0 : Int))).snd) (v1)).bind fun (r0 : Int) =>
    bif decide (r0 < (0 : Int)) then
     ret ((-1 : Int))
    else
     lp5 (v0) (r0) (IntKind.i64.wrap (v2 + (1 : Int)))
   else
    none
  else
   none
 else
  ret (v1)
theorem laws_szWeightedS.k (v0 : List (List Int × Int)) (v1 : Int) : topL E (callT E tab) 64 Try.f64 (laws_szWeightedS.c v0 v1) = laws_szWeightedS.t (fun b => some (laws_szWeightedS.mk b)) laws_szWeightedS.q5 v0 v1 := by kernel_rfl
theorem laws_szWeightedS.k5 (v0 : List (List Int × Int)) (v1 : Int) (v2 : Int) : roundL E (callT E tab) 64 Try.f64 2 [.r, .r, .r, .l, .r, .b] (vc (.d .fro (.sl (.pair (.sl (.int .i64)) (.int .i64))) v0) :: vc (iL v1) :: nn 3 (vc (iL v2) :: nn 21 ([]))) = laws_szWeightedS.t5 (fun b => some (laws_szWeightedS.mk b)) laws_szWeightedS.q5 v0 v1 v2 := by kernel_rfl
theorem laws_szWeightedS.s (v0 : List (List Int × Int)) (v1 : Int) : Sub laws_szWeightedS.mk (laws_szWeightedS.t some laws_szWeightedS.l5 v0 v1) (laws_szWeightedS.t (fun b => some (laws_szWeightedS.mk b)) laws_szWeightedS.q5 v0 v1) := by
 unfold laws_szWeightedS.t
 repeat' first | exact Sub.ret | exact Sub.none | exact Sub.loop | apply Sub.cond | (apply Sub.bind; intro _)
theorem laws_szWeightedS.eq (v0 : List (List Int × Int)) (v1 : Int) {b : Int} (h : laws_szWeightedS.t some laws_szWeightedS.l5 v0 v1 = some b) : laws_szWeightedS v0 v1 = some b := tOf_intro laws_szWeightedS.un (fun _ => by kernel_rfl) (vlim_fn (callT_le E tab) rfl rfl rfl ((laws_szWeightedS.k v0 v1).trans (laws_szWeightedS.s v0 v1 b h)))
theorem laws_szWeightedS.s5 (v0 : List (List Int × Int)) (v1 : Int) (v2 : Int) : Sub laws_szWeightedS.mk (laws_szWeightedS.t5 some laws_szWeightedS.l5 v0 v1 v2) (laws_szWeightedS.t5 (fun b => some (laws_szWeightedS.mk b)) laws_szWeightedS.q5 v0 v1 v2) := by
 unfold laws_szWeightedS.t5
 repeat' first | exact Sub.ret | exact Sub.none | exact Sub.loop | apply Sub.cond | (apply Sub.bind; intro _)
theorem laws_szWeightedS.eq5 (v0 : List (List Int × Int)) (v1 : Int) (v2 : Int) {b : Int} (h : laws_szWeightedS.t5 some laws_szWeightedS.l5 v0 v1 v2 = some b) : laws_szWeightedS.l5 v0 v1 v2 = some b := tOf_intro laws_szWeightedS.un (fun _ => by kernel_rfl) (loopAtL_step ((laws_szWeightedS.k5 v0 v1 v2).trans (laws_szWeightedS.s5 v0 v1 v2 b h)))
noncomputable def laws_szWeighted.t {γ : Type} (ret : (Int) → Option γ) (v0 : List Int) (v1 : Int) (v2 : Int) : Option γ :=
 (laws_szRow (v0) (v2)).bind fun (r0 : Int) =>
 bif decide (r0 < (0 : Int)) then
  ret ((-1 : Int))
 else
  ret (r0)
theorem laws_szWeighted.k (v0 : List Int) (v1 : Int) (v2 : Int) : topL E (callT E tab) 133 Try.f133 (laws_szWeighted.c v0 v1 v2) = laws_szWeighted.t (fun b => some (laws_szWeighted.mk b)) v0 v1 v2 := by kernel_rfl
theorem laws_szWeighted.s (v0 : List Int) (v1 : Int) (v2 : Int) : Sub laws_szWeighted.mk (laws_szWeighted.t some v0 v1 v2) (laws_szWeighted.t (fun b => some (laws_szWeighted.mk b)) v0 v1 v2) := by
 unfold laws_szWeighted.t
 repeat' first | exact Sub.ret | exact Sub.none | exact Sub.loop | apply Sub.cond | (apply Sub.bind; intro _)
theorem laws_szWeighted.eq (v0 : List Int) (v1 : Int) (v2 : Int) {b : Int} (h : laws_szWeighted.t some v0 v1 v2 = some b) : laws_szWeighted v0 v1 v2 = some b := tOf_intro laws_szWeighted.un (fun _ => by kernel_rfl) (vlim_fn (callT_le E tab) rfl rfl rfl ((laws_szWeighted.k v0 v1 v2).trans (laws_szWeighted.s v0 v1 v2 b h)))
noncomputable def laws_szRow.t {γ : Type} (ret : (Int) → Option γ) (v0 : List Int) (v1 : Int) : Option γ :=
 (laws_szIntS (v0) (v1)).bind fun (r0 : Int) =>
 bif decide (r0 < (0 : Int)) then
  ret ((-1 : Int))
 else
  ret (r0)
theorem laws_szRow.k (v0 : List Int) (v1 : Int) : topL E (callT E tab) 153 Try.f153 (laws_szRow.c v0 v1) = laws_szRow.t (fun b => some (laws_szRow.mk b)) v0 v1 := by kernel_rfl
theorem laws_szRow.s (v0 : List Int) (v1 : Int) : Sub laws_szRow.mk (laws_szRow.t some v0 v1) (laws_szRow.t (fun b => some (laws_szRow.mk b)) v0 v1) := by
 unfold laws_szRow.t
 repeat' first | exact Sub.ret | exact Sub.none | exact Sub.loop | apply Sub.cond | (apply Sub.bind; intro _)
theorem laws_szRow.eq (v0 : List Int) (v1 : Int) {b : Int} (h : laws_szRow.t some v0 v1 = some b) : laws_szRow v0 v1 = some b := tOf_intro laws_szRow.un (fun _ => by kernel_rfl) (vlim_fn (callT_le E tab) rfl rfl rfl ((laws_szRow.k v0 v1).trans (laws_szRow.s v0 v1 b h)))
noncomputable def laws_szIntS.t {γ : Type} (ret : (Int) → Option γ) (v0 : List Int) (v1 : Int) : Option γ :=
 bif decide (IntKind.i64.wrap (v1 - (↑v0.length : Int)) < (0 : Int)) then
  ret ((-1 : Int))
 else
  ret (IntKind.i64.wrap (v1 - (↑v0.length : Int)))
theorem laws_szIntS.k (v0 : List Int) (v1 : Int) : topL E (callT E tab) 65 Try.f65 (laws_szIntS.c v0 v1) = laws_szIntS.t (fun b => some (laws_szIntS.mk b)) v0 v1 := by kernel_rfl
theorem laws_szIntS.s (v0 : List Int) (v1 : Int) : Sub laws_szIntS.mk (laws_szIntS.t some v0 v1) (laws_szIntS.t (fun b => some (laws_szIntS.mk b)) v0 v1) := by
 unfold laws_szIntS.t
 repeat' first | exact Sub.ret | exact Sub.none | exact Sub.loop | apply Sub.cond | (apply Sub.bind; intro _)
theorem laws_szIntS.eq (v0 : List Int) (v1 : Int) {b : Int} (h : laws_szIntS.t some v0 v1 = some b) : laws_szIntS v0 v1 = some b := tOf_intro laws_szIntS.un (fun _ => by kernel_rfl) (vlim_fn (callT_le E tab) rfl rfl rfl ((laws_szIntS.k v0 v1).trans (laws_szIntS.s v0 v1 b h)))
noncomputable def laws_toTable.t {γ : Type} (ret : (Int × (List (List Int × Int))) → Option γ) (v0 : Int) (v1 : List (List Int × Int)) : Option γ :=
 (laws_toWeightedS (v1)).bind fun (r0 : (List (List Int × Int))) =>
 ret (v0, r0)
theorem laws_toTable.k (v0 : Int) (v1 : List (List Int × Int)) : topL E (callT E tab) 16 Try.f16 (laws_toTable.c v0 v1) = laws_toTable.t (fun b => some (laws_toTable.mk b)) v0 v1 := by kernel_rfl
theorem laws_toTable.s (v0 : Int) (v1 : List (List Int × Int)) : Sub laws_toTable.mk (laws_toTable.t some v0 v1) (laws_toTable.t (fun b => some (laws_toTable.mk b)) v0 v1) := by
 unfold laws_toTable.t
 repeat' first | exact Sub.ret | exact Sub.none | exact Sub.loop | apply Sub.cond | (apply Sub.bind; intro _)
theorem laws_toTable.eq (v0 : Int) (v1 : List (List Int × Int)) {b : Int × (List (List Int × Int))} (h : laws_toTable.t some v0 v1 = some b) : laws_toTable v0 v1 = some b := tOf_intro laws_toTable.un (fun _ => by kernel_rfl) (vlim_fn (callT_le E tab) rfl rfl rfl ((laws_toTable.k v0 v1).trans (laws_toTable.s v0 v1 b h)))
noncomputable def laws_toWeightedS.q3 (v0 : List (List Int × Int)) (v1 : List (List Int × Int)) (v2 : Int) : Option R := loopAtL E (callT E tab) 70 Try.f70 1 [.r, .r, .l, .r, .b] (vc (.d .fro (.sl (.pair (.sl (.int .i64)) (.int .i64))) v0) :: nn 2 (vc (.d .deep (.sl (.pair (.sl (.int .i64)) (.int .i64))) v1) :: vc (iL v2) :: nn 18 ([])))
noncomputable def laws_toWeightedS.l3 (v0 : List (List Int × Int)) (v1 : List (List Int × Int)) (v2 : Int) : Option ((List (List Int × Int))) := tOf laws_toWeightedS.mk (laws_toWeightedS.q3 v0 v1 v2)
noncomputable def laws_toWeightedS.t {γ : Type} (ret : ((List (List Int × Int))) → Option γ) (lp3 : (List (List Int × Int)) → (List (List Int × Int)) → Int → Option γ) (v0 : List (List Int × Int)) : Option γ :=
 bif decide ((↑v0.length : Int) = (↑v0.length : Int)) then
  bif decide ((↑v0.length : Int) ≤ (↑(4294967296 : Nat) : Int)) then
   lp3 (v0) (List.replicate (↑v0.length : Int).toNat ([], (0 : Int))) ((0 : Int))
  else
   none
 else
  none
noncomputable def laws_toWeightedS.t3 {γ : Type} (ret : ((List (List Int × Int))) → Option γ) (lp3 : (List (List Int × Int)) → (List (List Int × Int)) → Int → Option γ) (v0 : List (List Int × Int)) (v1 : List (List Int × Int)) (v2 : Int) : Option γ :=
 bif decide (v2 < (↑v0.length : Int)) then
  bif decide ((0 : Int) ≤ v2) then
   bif decide (v2.toNat < v0.length) then
    (laws_toWeighted ((v0.getD v2.toNat ([], (0 : Int))).fst) ((v0.getD v2.toNat ([], (0 : Int))).snd)).bind fun (r0 : (List Int) × Int) =>
    bif decide ((0 : Int) ≤ v2) then
     bif decide (v2.toNat < v1.length) then
      bif decide (v2.toNat < v1.length) then
       lp3 (v0) (v1.set v2.toNat (r0.fst, r0.snd)) (IntKind.i64.wrap (v2 + (1 : Int)))
      else
       none
     else
      none
    else
     none
   else
    none
  else
   none
 else
  ret (v1)
theorem laws_toWeightedS.k (v0 : List (List Int × Int)) : topL E (callT E tab) 70 Try.f70 (laws_toWeightedS.c v0) = laws_toWeightedS.t (fun b => some (laws_toWeightedS.mk b)) laws_toWeightedS.q3 v0 := by kernel_rfl
theorem laws_toWeightedS.k3 (v0 : List (List Int × Int)) (v1 : List (List Int × Int)) (v2 : Int) : roundL E (callT E tab) 70 Try.f70 1 [.r, .r, .l, .r, .b] (vc (.d .fro (.sl (.pair (.sl (.int .i64)) (.int .i64))) v0) :: nn 2 (vc (.d .deep (.sl (.pair (.sl (.int .i64)) (.int .i64))) v1) :: vc (iL v2) :: nn 18 ([]))) = laws_toWeightedS.t3 (fun b => some (laws_toWeightedS.mk b)) laws_toWeightedS.q3 v0 v1 v2 := by kernel_rfl
theorem laws_toWeightedS.s (v0 : List (List Int × Int)) : Sub laws_toWeightedS.mk (laws_toWeightedS.t some laws_toWeightedS.l3 v0) (laws_toWeightedS.t (fun b => some (laws_toWeightedS.mk b)) laws_toWeightedS.q3 v0) := by
 unfold laws_toWeightedS.t
 repeat' first | exact Sub.ret | exact Sub.none | exact Sub.loop | apply Sub.cond | (apply Sub.bind; intro _)
theorem laws_toWeightedS.eq (v0 : List (List Int × Int)) {b : (List (List Int × Int))} (h : laws_toWeightedS.t some laws_toWeightedS.l3 v0 = some b) : laws_toWeightedS v0 = some b := tOf_intro laws_toWeightedS.un (fun _ => by kernel_rfl) (vlim_fn (callT_le E tab) rfl rfl rfl ((laws_toWeightedS.k v0).trans (laws_toWeightedS.s v0 b h)))
theorem laws_toWeightedS.s3 (v0 : List (List Int × Int)) (v1 : List (List Int × Int)) (v2 : Int) : Sub laws_toWeightedS.mk (laws_toWeightedS.t3 some laws_toWeightedS.l3 v0 v1 v2) (laws_toWeightedS.t3 (fun b => some (laws_toWeightedS.mk b)) laws_toWeightedS.q3 v0 v1 v2) := by
 unfold laws_toWeightedS.t3
 repeat' first | exact Sub.ret | exact Sub.none | exact Sub.loop | apply Sub.cond | (apply Sub.bind; intro _)
theorem laws_toWeightedS.eq3 (v0 : List (List Int × Int)) (v1 : List (List Int × Int)) (v2 : Int) {b : (List (List Int × Int))} (h : laws_toWeightedS.t3 some laws_toWeightedS.l3 v0 v1 v2 = some b) : laws_toWeightedS.l3 v0 v1 v2 = some b := tOf_intro laws_toWeightedS.un (fun _ => by kernel_rfl) (loopAtL_step ((laws_toWeightedS.k3 v0 v1 v2).trans (laws_toWeightedS.s3 v0 v1 v2 b h)))
noncomputable def laws_toWeighted.t {γ : Type} (ret : ((List Int) × Int) → Option γ) (v0 : List Int) (v1 : Int) : Option γ :=
 (laws_toRow (v0)).bind fun (r0 : (List Int)) =>
 ret (r0, v1)
theorem laws_toWeighted.k (v0 : List Int) (v1 : Int) : topL E (callT E tab) 139 Try.f139 (laws_toWeighted.c v0 v1) = laws_toWeighted.t (fun b => some (laws_toWeighted.mk b)) v0 v1 := by kernel_rfl
theorem laws_toWeighted.s (v0 : List Int) (v1 : Int) : Sub laws_toWeighted.mk (laws_toWeighted.t some v0 v1) (laws_toWeighted.t (fun b => some (laws_toWeighted.mk b)) v0 v1) := by
 unfold laws_toWeighted.t
 repeat' first | exact Sub.ret | exact Sub.none | exact Sub.loop | apply Sub.cond | (apply Sub.bind; intro _)
theorem laws_toWeighted.eq (v0 : List Int) (v1 : Int) {b : (List Int) × Int} (h : laws_toWeighted.t some v0 v1 = some b) : laws_toWeighted v0 v1 = some b := tOf_intro laws_toWeighted.un (fun _ => by kernel_rfl) (vlim_fn (callT_le E tab) rfl rfl rfl ((laws_toWeighted.k v0 v1).trans (laws_toWeighted.s v0 v1 b h)))
noncomputable def laws_toRow.t {γ : Type} (ret : ((List Int)) → Option γ) (v0 : List Int) : Option γ :=
 (laws_toIntS (v0)).bind fun (r0 : (List Int)) =>
 ret (r0)
theorem laws_toRow.k (v0 : List Int) : topL E (callT E tab) 157 Try.f157 (laws_toRow.c v0) = laws_toRow.t (fun b => some (laws_toRow.mk b)) v0 := by kernel_rfl
theorem laws_toRow.s (v0 : List Int) : Sub laws_toRow.mk (laws_toRow.t some v0) (laws_toRow.t (fun b => some (laws_toRow.mk b)) v0) := by
 unfold laws_toRow.t
 repeat' first | exact Sub.ret | exact Sub.none | exact Sub.loop | apply Sub.cond | (apply Sub.bind; intro _)
theorem laws_toRow.eq (v0 : List Int) {b : (List Int)} (h : laws_toRow.t some v0 = some b) : laws_toRow v0 = some b := tOf_intro laws_toRow.un (fun _ => by kernel_rfl) (vlim_fn (callT_le E tab) rfl rfl rfl ((laws_toRow.k v0).trans (laws_toRow.s v0 b h)))
noncomputable def laws_toIntS.q3 (v0 : List Int) (v1 : List Int) (v2 : Int) : Option R := loopAtL E (callT E tab) 71 Try.f71 1 [.r, .r, .l, .r, .b] (vc (.d .fro (.sl (.int .i64)) v0) :: nn 2 (vc (.d .deep (.sl (.int .i64)) v1) :: vc (iL v2) :: nn 17 ([])))
noncomputable def laws_toIntS.l3 (v0 : List Int) (v1 : List Int) (v2 : Int) : Option ((List Int)) := tOf laws_toIntS.mk (laws_toIntS.q3 v0 v1 v2)
noncomputable def laws_toIntS.t {γ : Type} (ret : ((List Int)) → Option γ) (lp3 : (List Int) → (List Int) → Int → Option γ) (v0 : List Int) : Option γ :=
 bif decide ((↑v0.length : Int) = (↑v0.length : Int)) then
  bif decide ((↑v0.length : Int) ≤ (↑(4294967296 : Nat) : Int)) then
   lp3 (v0) (List.replicate (↑v0.length : Int).toNat (0 : Int)) ((0 : Int))
  else
   none
 else
  none
noncomputable def laws_toIntS.t3 {γ : Type} (ret : ((List Int)) → Option γ) (lp3 : (List Int) → (List Int) → Int → Option γ) (v0 : List Int) (v1 : List Int) (v2 : Int) : Option γ :=
 bif decide (v2 < (↑v0.length : Int)) then
  bif decide ((0 : Int) ≤ v2) then
   bif decide (v2.toNat < v0.length) then
    bif decide ((0 : Int) ≤ v2) then
     bif decide (v2.toNat < v1.length) then
      bif decide (v2.toNat < v1.length) then
       lp3 (v0) (v1.set v2.toNat (v0.getD v2.toNat (0 : Int))) (IntKind.i64.wrap (v2 + (1 : Int)))
      else
       none
     else
      none
    else
     none
   else
    none
  else
   none
 else
  ret (v1)
theorem laws_toIntS.k (v0 : List Int) : topL E (callT E tab) 71 Try.f71 (laws_toIntS.c v0) = laws_toIntS.t (fun b => some (laws_toIntS.mk b)) laws_toIntS.q3 v0 := by kernel_rfl
theorem laws_toIntS.k3 (v0 : List Int) (v1 : List Int) (v2 : Int) : roundL E (callT E tab) 71 Try.f71 1 [.r, .r, .l, .r, .b] (vc (.d .fro (.sl (.int .i64)) v0) :: nn 2 (vc (.d .deep (.sl (.int .i64)) v1) :: vc (iL v2) :: nn 17 ([]))) = laws_toIntS.t3 (fun b => some (laws_toIntS.mk b)) laws_toIntS.q3 v0 v1 v2 := by kernel_rfl
theorem laws_toIntS.s (v0 : List Int) : Sub laws_toIntS.mk (laws_toIntS.t some laws_toIntS.l3 v0) (laws_toIntS.t (fun b => some (laws_toIntS.mk b)) laws_toIntS.q3 v0) := by
 unfold laws_toIntS.t
 repeat' first | exact Sub.ret | exact Sub.none | exact Sub.loop | apply Sub.cond | (apply Sub.bind; intro _)
theorem laws_toIntS.eq (v0 : List Int) {b : (List Int)} (h : laws_toIntS.t some laws_toIntS.l3 v0 = some b) : laws_toIntS v0 = some b := tOf_intro laws_toIntS.un (fun _ => by kernel_rfl) (vlim_fn (callT_le E tab) rfl rfl rfl ((laws_toIntS.k v0).trans (laws_toIntS.s v0 b h)))
theorem laws_toIntS.s3 (v0 : List Int) (v1 : List Int) (v2 : Int) : Sub laws_toIntS.mk (laws_toIntS.t3 some laws_toIntS.l3 v0 v1 v2) (laws_toIntS.t3 (fun b => some (laws_toIntS.mk b)) laws_toIntS.q3 v0 v1 v2) := by
 unfold laws_toIntS.t3
 repeat' first | exact Sub.ret | exact Sub.none | exact Sub.loop | apply Sub.cond | (apply Sub.bind; intro _)
theorem laws_toIntS.eq3 (v0 : List Int) (v1 : List Int) (v2 : Int) {b : (List Int)} (h : laws_toIntS.t3 some laws_toIntS.l3 v0 v1 v2 = some b) : laws_toIntS.l3 v0 v1 v2 = some b := tOf_intro laws_toIntS.un (fun _ => by kernel_rfl) (loopAtL_step ((laws_toIntS.k3 v0 v1 v2).trans (laws_toIntS.s3 v0 v1 v2 b h)))
noncomputable def spec_GoodTable.q2 (v0 : Int) (v1 : List (List Int × Int)) (v2 : List (List Int × Int)) (v3 : Int) (v4 : Int) : Option R := loopAtL E (callT E tab) 66 Try.f66 1 [.r, .l, .r, .b] (nn 1 (⟨(.box false), [iL v0, .d .fro (.sl (.pair (.sl (.int .i64)) (.int .i64))) v1], false, false, false, 0, 0⟩ :: nn 4 (vc (.d .fro (.sl (.pair (.sl (.int .i64)) (.int .i64))) v2) :: vc (iL v3) :: vc (iL v4) :: nn 55 ([]))))
noncomputable def spec_GoodTable.l2 (v0 : Int) (v1 : List (List Int × Int)) (v2 : List (List Int × Int)) (v3 : Int) (v4 : Int) : Option (Bool) := tOf spec_GoodTable.mk (spec_GoodTable.q2 v0 v1 v2 v3 v4)
noncomputable def spec_GoodTable.t {γ : Type} (ret : (Bool) → Option γ) (lp2 : Int → (List (List Int × Int)) → (List (List Int × Int)) → Int → Int → Option γ) (v0 : Int) (v1 : List (List Int × Int)) : Option γ :=
 lp2 (v0) (v1) (v1) ((↑v1.length : Int)) ((0 : Int))
noncomputable def spec_GoodTable.t2 {γ : Type} (ret : (Bool) → Option γ) (lp2 : Int → (List (List Int × Int)) → (List (List Int × Int)) → Int → Int → Option γ) (v0 : Int) (v1 : List (List Int × Int)) (v2 : List (List Int × Int)) (v3 : Int) (v4 : Int) : Option γ :=
 bif decide (v4 < v3) then
  bif decide ((0 : Int) ≤ v4) then
   bif decide (v4.toNat < v2.length) then
    (spec_GoodRow ((v2.getD v4.toNat ([], (0 : Int))).fst)).bind fun (r0 : Bool) =>
    bif !r0 then
     ret (Bool.false)
    else
     bif (↑(v2.getD v4.toNat ([], (0 : Int))).fst.length : Int) != v0 then
      ret (Bool.false)
     else
      (spec_l2Weight ((v2.getD v4.toNat ([], (0 : Int))).snd)).bind fun (r1 : Bool) =>
      bif !r1 then
       ret (Bool.false)
      else
       bif (v2.getD v4.toNat ([], (0 : Int))).snd == (0 : Int) then
        ret (Bool.false)
       else
        bif decide (v4 > (0 : Int)) then
         bif decide ((0 : Int) ≤ IntKind.i64.wrap (v4 - (1 : Int))) then
          bif decide ((IntKind.i64.wrap (v4 - (1 : Int))).toNat < v1.length) then
           (spec_l1Compare ((v1.getD (IntKind.i64.wrap (v4 - (1 : Int))).toNat ([], (0 : Int))).fst) ((v2.getD v4.toNat ([], (0 : Int))).fst)).bind fun (r2 : Int) =>
           bif decide (r2 ≥ (0 : Int)) then
            ret (Bool.false)
           else
            lp2 (v0) (v1) (v2) (v3) (IntKind.i64.wrap (v4 + (1 : Int)))
          else
           none
         else
          none
        else
         lp2 (v0) (v1) (v2) (v3) (IntKind.i64.wrap (v4 + (1 : Int)))
   else
    none
  else
   none
 else
  (spec_l1In (v0) ((0 : Int)) ((6 : Int))).bind fun (r3 : Bool) =>
  bif r3 then
   ret (decide ((↑v1.length : Int) ≤ (60 : Int)))
  else
   ret (Bool.false)
theorem spec_GoodTable.k (v0 : Int) (v1 : List (List Int × Int)) : topL E (callT E tab) 66 Try.f66 (spec_GoodTable.c v0 v1) = spec_GoodTable.t (fun b => some (spec_GoodTable.mk b)) spec_GoodTable.q2 v0 v1 := by kernel_rfl
theorem spec_GoodTable.k2 (v0 : Int) (v1 : List (List Int × Int)) (v2 : List (List Int × Int)) (v3 : Int) (v4 : Int) : roundL E (callT E tab) 66 Try.f66 1 [.r, .l, .r, .b] (nn 1 (⟨(.box false), [iL v0, .d .fro (.sl (.pair (.sl (.int .i64)) (.int .i64))) v1], false, false, false, 0, 0⟩ :: nn 4 (vc (.d .fro (.sl (.pair (.sl (.int .i64)) (.int .i64))) v2) :: vc (iL v3) :: vc (iL v4) :: nn 55 ([])))) = spec_GoodTable.t2 (fun b => some (spec_GoodTable.mk b)) spec_GoodTable.q2 v0 v1 v2 v3 v4 := by kernel_rfl
theorem spec_GoodTable.s (v0 : Int) (v1 : List (List Int × Int)) : Sub spec_GoodTable.mk (spec_GoodTable.t some spec_GoodTable.l2 v0 v1) (spec_GoodTable.t (fun b => some (spec_GoodTable.mk b)) spec_GoodTable.q2 v0 v1) := by
 unfold spec_GoodTable.t
 repeat' first | exact Sub.ret | exact Sub.none | exact Sub.loop | apply Sub.cond | (apply Sub.bind; intro _)
theorem spec_GoodTable.eq (v0 : Int) (v1 : List (List Int × Int)) {b : Bool} (h : spec_GoodTable.t some spec_GoodTable.l2 v0 v1 = some b) : spec_GoodTable v0 v1 = some b := tOf_intro spec_GoodTable.un (fun _ => by kernel_rfl) (vlim_fn (callT_le E tab) rfl rfl rfl ((spec_GoodTable.k v0 v1).trans (spec_GoodTable.s v0 v1 b h)))
theorem spec_GoodTable.s2 (v0 : Int) (v1 : List (List Int × Int)) (v2 : List (List Int × Int)) (v3 : Int) (v4 : Int) : Sub spec_GoodTable.mk (spec_GoodTable.t2 some spec_GoodTable.l2 v0 v1 v2 v3 v4) (spec_GoodTable.t2 (fun b => some (spec_GoodTable.mk b)) spec_GoodTable.q2 v0 v1 v2 v3 v4) := by
 unfold spec_GoodTable.t2
 repeat' first | exact Sub.ret | exact Sub.none | exact Sub.loop | apply Sub.cond | (apply Sub.bind; intro _)
theorem spec_GoodTable.eq2 (v0 : Int) (v1 : List (List Int × Int)) (v2 : List (List Int × Int)) (v3 : Int) (v4 : Int) {b : Bool} (h : spec_GoodTable.t2 some spec_GoodTable.l2 v0 v1 v2 v3 v4 = some b) : spec_GoodTable.l2 v0 v1 v2 v3 v4 = some b := tOf_intro spec_GoodTable.un (fun _ => by kernel_rfl) (loopAtL_step ((spec_GoodTable.k2 v0 v1 v2 v3 v4).trans (spec_GoodTable.s2 v0 v1 v2 v3 v4 b h)))
noncomputable def spec_GoodRow.q2 (v0 : List Int) (v1 : List Int) (v2 : Int) (v3 : Int) : Option R := loopAtL E (callT E tab) 134 Try.f134 1 [.r, .l, .r, .b] (nn 1 (⟨(.box false), [.d .fro (.sl (.int .i64)) v0], false, false, false, 0, 0⟩ :: nn 4 (vc (.d .fro (.sl (.int .i64)) v1) :: vc (iL v2) :: vc (iL v3) :: nn 11 ([]))))
noncomputable def spec_GoodRow.l2 (v0 : List Int) (v1 : List Int) (v2 : Int) (v3 : Int) : Option (Bool) := tOf spec_GoodRow.mk (spec_GoodRow.q2 v0 v1 v2 v3)
noncomputable def spec_GoodRow.t {γ : Type} (ret : (Bool) → Option γ) (lp2 : (List Int) → (List Int) → Int → Int → Option γ) (v0 : List Int) : Option γ :=
 lp2 (v0) (v0) ((↑v0.length : Int)) ((0 : Int))
noncomputable def spec_GoodRow.t2 {γ : Type} (ret : (Bool) → Option γ) (lp2 : (List Int) → (List Int) → Int → Int → Option γ) (v0 : List Int) (v1 : List Int) (v2 : Int) (v3 : Int) : Option γ :=
 bif decide (v3 < v2) then
  bif decide ((0 : Int) ≤ v3) then
   bif decide (v3.toNat < v1.length) then
    (spec_l1In (v1.getD v3.toNat (0 : Int)) ((-100000 : Int)) ((100000 : Int))).bind fun (r0 : Bool) =>
    bif !r0 then
     ret (Bool.false)
    else
     lp2 (v0) (v1) (v2) (IntKind.i64.wrap (v3 + (1 : Int)))
   else
    none
  else
   none
 else
  ret (decide ((↑v0.length : Int) ≤ (6 : Int)))
theorem spec_GoodRow.k (v0 : List Int) : topL E (callT E tab) 134 Try.f134 (spec_GoodRow.c v0) = spec_GoodRow.t (fun b => some (spec_GoodRow.mk b)) spec_GoodRow.q2 v0 := by kernel_rfl
theorem spec_GoodRow.k2 (v0 : List Int) (v1 : List Int) (v2 : Int) (v3 : Int) : roundL E (callT E tab) 134 Try.f134 1 [.r, .l, .r, .b] (nn 1 (⟨(.box false), [.d .fro (.sl (.int .i64)) v0], false, false, false, 0, 0⟩ :: nn 4 (vc (.d .fro (.sl (.int .i64)) v1) :: vc (iL v2) :: vc (iL v3) :: nn 11 ([])))) = spec_GoodRow.t2 (fun b => some (spec_GoodRow.mk b)) spec_GoodRow.q2 v0 v1 v2 v3 := by kernel_rfl
theorem spec_GoodRow.s (v0 : List Int) : Sub spec_GoodRow.mk (spec_GoodRow.t some spec_GoodRow.l2 v0) (spec_GoodRow.t (fun b => some (spec_GoodRow.mk b)) spec_GoodRow.q2 v0) := by
 unfold spec_GoodRow.t
 repeat' first | exact Sub.ret | exact Sub.none | exact Sub.loop | apply Sub.cond | (apply Sub.bind; intro _)
theorem spec_GoodRow.eq (v0 : List Int) {b : Bool} (h : spec_GoodRow.t some spec_GoodRow.l2 v0 = some b) : spec_GoodRow v0 = some b := tOf_intro spec_GoodRow.un (fun _ => by kernel_rfl) (vlim_fn (callT_le E tab) rfl rfl rfl ((spec_GoodRow.k v0).trans (spec_GoodRow.s v0 b h)))
theorem spec_GoodRow.s2 (v0 : List Int) (v1 : List Int) (v2 : Int) (v3 : Int) : Sub spec_GoodRow.mk (spec_GoodRow.t2 some spec_GoodRow.l2 v0 v1 v2 v3) (spec_GoodRow.t2 (fun b => some (spec_GoodRow.mk b)) spec_GoodRow.q2 v0 v1 v2 v3) := by
 unfold spec_GoodRow.t2
 repeat' first | exact Sub.ret | exact Sub.none | exact Sub.loop | apply Sub.cond | (apply Sub.bind; intro _)
theorem spec_GoodRow.eq2 (v0 : List Int) (v1 : List Int) (v2 : Int) (v3 : Int) {b : Bool} (h : spec_GoodRow.t2 some spec_GoodRow.l2 v0 v1 v2 v3 = some b) : spec_GoodRow.l2 v0 v1 v2 v3 = some b := tOf_intro spec_GoodRow.un (fun _ => by kernel_rfl) (loopAtL_step ((spec_GoodRow.k2 v0 v1 v2 v3).trans (spec_GoodRow.s2 v0 v1 v2 v3 b h)))
noncomputable def spec_l1In.t {γ : Type} (ret : (Bool) → Option γ) (v0 : Int) (v1 : Int) (v2 : Int) : Option γ :=
 bif decide (v0 ≥ v1) then
  ret (decide (v0 ≤ v2))
 else
  ret (Bool.false)
theorem spec_l1In.k (v0 : Int) (v1 : Int) (v2 : Int) : topL E (callT E tab) 137 Try.f137 (spec_l1In.c v0 v1 v2) = spec_l1In.t (fun b => some (spec_l1In.mk b)) v0 v1 v2 := by kernel_rfl
theorem spec_l1In.s (v0 : Int) (v1 : Int) (v2 : Int) : Sub spec_l1In.mk (spec_l1In.t some v0 v1 v2) (spec_l1In.t (fun b => some (spec_l1In.mk b)) v0 v1 v2) := by
 unfold spec_l1In.t
 repeat' first | exact Sub.ret | exact Sub.none | exact Sub.loop | apply Sub.cond | (apply Sub.bind; intro _)
theorem spec_l1In.eq (v0 : Int) (v1 : Int) (v2 : Int) {b : Bool} (h : spec_l1In.t some v0 v1 v2 = some b) : spec_l1In v0 v1 v2 = some b := tOf_intro spec_l1In.un (fun _ => by kernel_rfl) (vlim_fn (callT_le E tab) rfl rfl rfl ((spec_l1In.k v0 v1 v2).trans (spec_l1In.s v0 v1 v2 b h)))
noncomputable def spec_l2Weight.t {γ : Type} (ret : (Bool) → Option γ) (v0 : Int) : Option γ :=
 (spec_l1In (v0) ((-1000000 : Int)) ((1000000 : Int))).bind fun (r0 : Bool) =>
 ret (r0)
theorem spec_l2Weight.k (v0 : Int) : topL E (callT E tab) 135 Try.f135 (spec_l2Weight.c v0) = spec_l2Weight.t (fun b => some (spec_l2Weight.mk b)) v0 := by kernel_rfl
theorem spec_l2Weight.s (v0 : Int) : Sub spec_l2Weight.mk (spec_l2Weight.t some v0) (spec_l2Weight.t (fun b => some (spec_l2Weight.mk b)) v0) := by
 unfold spec_l2Weight.t
 repeat' first | exact Sub.ret | exact Sub.none | exact Sub.loop | apply Sub.cond | (apply Sub.bind; intro _)
theorem spec_l2Weight.eq (v0 : Int) {b : Bool} (h : spec_l2Weight.t some v0 = some b) : spec_l2Weight v0 = some b := tOf_intro spec_l2Weight.un (fun _ => by kernel_rfl) (vlim_fn (callT_le E tab) rfl rfl rfl ((spec_l2Weight.k v0).trans (spec_l2Weight.s v0 b h)))
noncomputable def spec_l1Compare.q2 (v0 : List Int) (v1 : List Int) (v2 : Int) : Option R := loopAtL E (callT E tab) 136 Try.f136 2 [.r, .l, .r, .b] (nn 2 (⟨(.box false), [.d .fro (.sl (.int .i64)) v0], false, false, false, 0, 0⟩ :: ⟨(.box false), [.d .fro (.sl (.int .i64)) v1], false, false, false, 0, 0⟩ :: nn 1 (vc (iL v2) :: nn 52 ([]))))
noncomputable def spec_l1Compare.l2 (v0 : List Int) (v1 : List Int) (v2 : Int) : Option (Int) := tOf spec_l1Compare.mk (spec_l1Compare.q2 v0 v1 v2)
noncomputable def spec_l1Compare.t {γ : Type} (ret : (Int) → Option γ) (lp2 : (List Int) → (List Int) → Int → Option γ) (v0 : List Int) (v1 : List Int) : Option γ :=
 lp2 (v0) (v1) ((0 : Int))
noncomputable def spec_l1Compare.t2 {γ : Type} (ret : (Int) → Option γ) (lp2 : (List Int) → (List Int) → Int → Option γ) (v0 : List Int) (v1 : List Int) (v2 : Int) : Option γ :=
 bif decide (v2 < (↑v0.length : Int)) then
  bif decide (v2 < (↑v1.length : Int)) then
   bif decide ((0 : Int) ≤ v2) then
    bif decide (v2.toNat < v0.length) then
     bif decide ((0 : Int) ≤ v2) then
      bif decide (v2.toNat < v1.length) then
       bif decide (v0.getD v2.toNat (0 : Int) < v1.getD v2.toNat (0 : Int)) then
        ret ((-1 : Int))
       else
        bif decide ((0 : Int) ≤ v2) then
         bif decide (v2.toNat < v0.length) then
          bif decide ((0 : Int) ≤ v2) then
           bif decide (v2.toNat < v1.length) then
            bif decide (v0.getD v2.toNat (0 : Int) > v1.getD v2.toNat (0 : Int)) then
             ret ((1 : Int))
            else
             lp2 (v0) (v1) (IntKind.i64.wrap (v2 + (1 : Int)))
           else
            none
          else
           none
         else
          none
        else
         none
      else
       none
     else
      none
    else
     none
   else
    none
  else
   bif decide ((↑v0.length : Int) < (↑v1.length : Int)) then
    ret ((-1 : Int))
   else
    bif decide ((↑v0.length : Int) > (↑v1.length : Int)) then
     ret ((1 : Int))
    else
     ret ((0 : Int))
 else
  bif decide ((↑v0.length : Int) < (↑v1.length : Int)) then
   ret ((-1 : Int))
  else
   bif decide ((↑v0.length : Int) > (↑v1.length : Int)) then
    ret ((1 : Int))
   else
    ret ((0 : Int))
theorem spec_l1Compare.k (v0 : List Int) (v1 : List Int) : topL E (callT E tab) 136 Try.f136 (spec_l1Compare.c v0 v1) = spec_l1Compare.t (fun b => some (spec_l1Compare.mk b)) spec_l1Compare.q2 v0 v1 := by kernel_rfl
theorem spec_l1Compare.k2 (v0 : List Int) (v1 : List Int) (v2 : Int) : roundL E (callT E tab) 136 Try.f136 2 [.r, .l, .r, .b] (nn 2 (⟨(.box false), [.d .fro (.sl (.int .i64)) v0], false, false, false, 0, 0⟩ :: ⟨(.box false), [.d .fro (.sl (.int .i64)) v1], false, false, false, 0, 0⟩ :: nn 1 (vc (iL v2) :: nn 52 ([])))) = spec_l1Compare.t2 (fun b => some (spec_l1Compare.mk b)) spec_l1Compare.q2 v0 v1 v2 := by kernel_rfl
theorem spec_l1Compare.s (v0 : List Int) (v1 : List Int) : Sub spec_l1Compare.mk (spec_l1Compare.t some spec_l1Compare.l2 v0 v1) (spec_l1Compare.t (fun b => some (spec_l1Compare.mk b)) spec_l1Compare.q2 v0 v1) := by
 unfold spec_l1Compare.t
 repeat' first | exact Sub.ret | exact Sub.none | exact Sub.loop | apply Sub.cond | (apply Sub.bind; intro _)
theorem spec_l1Compare.eq (v0 : List Int) (v1 : List Int) {b : Int} (h : spec_l1Compare.t some spec_l1Compare.l2 v0 v1 = some b) : spec_l1Compare v0 v1 = some b := tOf_intro spec_l1Compare.un (fun _ => by kernel_rfl) (vlim_fn (callT_le E tab) rfl rfl rfl ((spec_l1Compare.k v0 v1).trans (spec_l1Compare.s v0 v1 b h)))
theorem spec_l1Compare.s2 (v0 : List Int) (v1 : List Int) (v2 : Int) : Sub spec_l1Compare.mk (spec_l1Compare.t2 some spec_l1Compare.l2 v0 v1 v2) (spec_l1Compare.t2 (fun b => some (spec_l1Compare.mk b)) spec_l1Compare.q2 v0 v1 v2) := by
 unfold spec_l1Compare.t2
 repeat' first | exact Sub.ret | exact Sub.none | exact Sub.loop | apply Sub.cond | (apply Sub.bind; intro _)
theorem spec_l1Compare.eq2 (v0 : List Int) (v1 : List Int) (v2 : Int) {b : Int} (h : spec_l1Compare.t2 some spec_l1Compare.l2 v0 v1 v2 = some b) : spec_l1Compare.l2 v0 v1 v2 = some b := tOf_intro spec_l1Compare.un (fun _ => by kernel_rfl) (loopAtL_step ((spec_l1Compare.k2 v0 v1 v2).trans (spec_l1Compare.s2 v0 v1 v2 b h)))
noncomputable def spec_l2Tell.q3 (v0 : Int) (v1 : List (List Int × Int)) (v2 : Int) (v3 : List (List Int × Int)) (v4 : List (List Int × Int)) (v5 : Int) (v6 : Int) : Option R := loopAtL E (callT E tab) 68 Try.f68 2 [.r, .r, .l, .r, .b] (nn 4 (⟨(.box false), [iL v0, .d .deep (.sl (.pair (.sl (.int .i64)) (.int .i64))) v1], false, false, false, 0, 0⟩ :: nn 1 (⟨(.box false), [iL v2, .d .deep (.sl (.pair (.sl (.int .i64)) (.int .i64))) v3], false, false, false, 0, 0⟩ :: nn 4 (vc (.d .fro (.sl (.pair (.sl (.int .i64)) (.int .i64))) v4) :: vc (iL v5) :: vc (iL v6) :: nn 20 ([])))))
noncomputable def spec_l2Tell.l3 (v0 : Int) (v1 : List (List Int × Int)) (v2 : Int) (v3 : List (List Int × Int)) (v4 : List (List Int × Int)) (v5 : Int) (v6 : Int) : Option (Int × (List (List Int × Int)) × Bool) := tOf spec_l2Tell.mk (spec_l2Tell.q3 v0 v1 v2 v3 v4 v5 v6)
noncomputable def spec_l2Tell.t {γ : Type} (ret : (Int × (List (List Int × Int)) × Bool) → Option γ) (lp3 : Int → (List (List Int × Int)) → Int → (List (List Int × Int)) → (List (List Int × Int)) → Int → Int → Option γ) (v0 : Int) (v1 : List (List Int × Int)) : Option γ :=
 lp3 ((0 : Int)) ([]) (v0) ([]) (v1) ((↑v1.length : Int)) ((0 : Int))
noncomputable def spec_l2Tell.t3 {γ : Type} (ret : (Int × (List (List Int × Int)) × Bool) → Option γ) (lp3 : Int → (List (List Int × Int)) → Int → (List (List Int × Int)) → (List (List Int × Int)) → Int → Int → Option γ) (v0 : Int) (v1 : List (List Int × Int)) (v2 : Int) (v3 : List (List Int × Int)) (v4 : List (List Int × Int)) (v5 : Int) (v6 : Int) : Option γ :=
 bif decide (v6 < v5) then
  bif decide ((0 : Int) ≤ v6) then
   bif decide (v6.toNat < v4.length) then
    (spec_l2OwnRow ((v4.getD v6.toNat ([], (0 : Int))).fst)).bind fun (r0 : (List Int)) =>
    bif decide (v3.length + [(r0, (v4.getD v6.toNat ([], (0 : Int))).snd)].length ≤ (4294967296 : Nat)) then
     lp3 (v0) (v1) (v2) (v3 ++ [(r0, (v4.getD v6.toNat ([], (0 : Int))).snd)]) (v4) (v5) (IntKind.i64.wrap (v6 + (1 : Int)))
    else
     none
   else
    none
  else
   none
 else
  (spec_GoodTable (v2) (v3)).bind fun (r1 : Bool) =>
  bif !r1 then
   ret ((0 : Int), [], Bool.false)
  else
   ret (v2, v3, Bool.true)
theorem spec_l2Tell.k (v0 : Int) (v1 : List (List Int × Int)) : topL E (callT E tab) 68 Try.f68 (spec_l2Tell.c v0 v1) = spec_l2Tell.t (fun b => some (spec_l2Tell.mk b)) spec_l2Tell.q3 v0 v1 := by kernel_rfl
theorem spec_l2Tell.k3 (v0 : Int) (v1 : List (List Int × Int)) (v2 : Int) (v3 : List (List Int × Int)) (v4 : List (List Int × Int)) (v5 : Int) (v6 : Int) : roundL E (callT E tab) 68 Try.f68 2 [.r, .r, .l, .r, .b] (nn 4 (⟨(.box false), [iL v0, .d .deep (.sl (.pair (.sl (.int .i64)) (.int .i64))) v1], false, false, false, 0, 0⟩ :: nn 1 (⟨(.box false), [iL v2, .d .deep (.sl (.pair (.sl (.int .i64)) (.int .i64))) v3], false, false, false, 0, 0⟩ :: nn 4 (vc (.d .fro (.sl (.pair (.sl (.int .i64)) (.int .i64))) v4) :: vc (iL v5) :: vc (iL v6) :: nn 20 ([]))))) = spec_l2Tell.t3 (fun b => some (spec_l2Tell.mk b)) spec_l2Tell.q3 v0 v1 v2 v3 v4 v5 v6 := by kernel_rfl
theorem spec_l2Tell.s (v0 : Int) (v1 : List (List Int × Int)) : Sub spec_l2Tell.mk (spec_l2Tell.t some spec_l2Tell.l3 v0 v1) (spec_l2Tell.t (fun b => some (spec_l2Tell.mk b)) spec_l2Tell.q3 v0 v1) := by
 unfold spec_l2Tell.t
 repeat' first | exact Sub.ret | exact Sub.none | exact Sub.loop | apply Sub.cond | (apply Sub.bind; intro _)
theorem spec_l2Tell.eq (v0 : Int) (v1 : List (List Int × Int)) {b : Int × (List (List Int × Int)) × Bool} (h : spec_l2Tell.t some spec_l2Tell.l3 v0 v1 = some b) : spec_l2Tell v0 v1 = some b := tOf_intro spec_l2Tell.un (fun _ => by kernel_rfl) (vlim_fn (callT_le E tab) rfl rfl rfl ((spec_l2Tell.k v0 v1).trans (spec_l2Tell.s v0 v1 b h)))
theorem spec_l2Tell.s3 (v0 : Int) (v1 : List (List Int × Int)) (v2 : Int) (v3 : List (List Int × Int)) (v4 : List (List Int × Int)) (v5 : Int) (v6 : Int) : Sub spec_l2Tell.mk (spec_l2Tell.t3 some spec_l2Tell.l3 v0 v1 v2 v3 v4 v5 v6) (spec_l2Tell.t3 (fun b => some (spec_l2Tell.mk b)) spec_l2Tell.q3 v0 v1 v2 v3 v4 v5 v6) := by
 unfold spec_l2Tell.t3
 repeat' first | exact Sub.ret | exact Sub.none | exact Sub.loop | apply Sub.cond | (apply Sub.bind; intro _)
theorem spec_l2Tell.eq3 (v0 : Int) (v1 : List (List Int × Int)) (v2 : Int) (v3 : List (List Int × Int)) (v4 : List (List Int × Int)) (v5 : Int) (v6 : Int) {b : Int × (List (List Int × Int)) × Bool} (h : spec_l2Tell.t3 some spec_l2Tell.l3 v0 v1 v2 v3 v4 v5 v6 = some b) : spec_l2Tell.l3 v0 v1 v2 v3 v4 v5 v6 = some b := tOf_intro spec_l2Tell.un (fun _ => by kernel_rfl) (loopAtL_step ((spec_l2Tell.k3 v0 v1 v2 v3 v4 v5 v6).trans (spec_l2Tell.s3 v0 v1 v2 v3 v4 v5 v6 b h)))
noncomputable def spec_l2OwnRow.t {γ : Type} (ret : ((List Int)) → Option γ) (v0 : List Int) : Option γ :=
 bif decide (([] : List Int).length + v0.length ≤ (4294967296 : Nat)) then
  ret ([] ++ v0)
 else
  none
theorem spec_l2OwnRow.k (v0 : List Int) : topL E (callT E tab) 138 Try.f138 (spec_l2OwnRow.c v0) = spec_l2OwnRow.t (fun b => some (spec_l2OwnRow.mk b)) v0 := by kernel_rfl
theorem spec_l2OwnRow.s (v0 : List Int) : Sub spec_l2OwnRow.mk (spec_l2OwnRow.t some v0) (spec_l2OwnRow.t (fun b => some (spec_l2OwnRow.mk b)) v0) := by
 unfold spec_l2OwnRow.t
 repeat' first | exact Sub.ret | exact Sub.none | exact Sub.loop | apply Sub.cond | (apply Sub.bind; intro _)
theorem spec_l2OwnRow.eq (v0 : List Int) {b : (List Int)} (h : spec_l2OwnRow.t some v0 = some b) : spec_l2OwnRow v0 = some b := tOf_intro spec_l2OwnRow.un (fun _ => by kernel_rfl) (vlim_fn (callT_le E tab) rfl rfl rfl ((spec_l2OwnRow.k v0).trans (spec_l2OwnRow.s v0 b h)))
noncomputable def impl_GoodTable.q4 (v0 : Int) (v1 : List (List Int × Int)) (v2 : List (List Int × Int)) (v3 : Int) (v4 : Int) : Option R := loopAtL E (callT E tab) 72 Try.f72 1 [.r, .r, .l, .r, .b] (nn 1 (⟨(.box false), [iL v0, .d .fro (.sl (.pair (.sl (.int .i64)) (.int .i64))) v1], false, false, false, 0, 0⟩ :: nn 14 (vc (.d .fro (.sl (.pair (.sl (.int .i64)) (.int .i64))) v2) :: vc (iL v3) :: vc (iL v4) :: nn 39 ([]))))
noncomputable def impl_GoodTable.l4 (v0 : Int) (v1 : List (List Int × Int)) (v2 : List (List Int × Int)) (v3 : Int) (v4 : Int) : Option (Bool) := tOf impl_GoodTable.mk (impl_GoodTable.q4 v0 v1 v2 v3 v4)
noncomputable def impl_GoodTable.t {γ : Type} (ret : (Bool) → Option γ) (lp4 : Int → (List (List Int × Int)) → (List (List Int × Int)) → Int → Int → Option γ) (v0 : Int) (v1 : List (List Int × Int)) : Option γ :=
 (impl_isColumns (v0)).bind fun (r0 : Bool) =>
 bif !r0 then
  ret (Bool.false)
 else
  bif decide ((↑v1.length : Int) > (60 : Int)) then
   ret (Bool.false)
  else
   lp4 (v0) (v1) (v1) ((↑v1.length : Int)) ((0 : Int))
noncomputable def impl_GoodTable.t4 {γ : Type} (ret : (Bool) → Option γ) (lp4 : Int → (List (List Int × Int)) → (List (List Int × Int)) → Int → Int → Option γ) (v0 : Int) (v1 : List (List Int × Int)) (v2 : List (List Int × Int)) (v3 : Int) (v4 : Int) : Option γ :=
 bif decide (v4 < v3) then
  bif decide ((0 : Int) ≤ v4) then
   bif decide (v4.toNat < v2.length) then
    (impl_isRowOf ((v2.getD v4.toNat ([], (0 : Int))).fst) (v0)).bind fun (r1 : Bool) =>
    bif !r1 then
     ret (Bool.false)
    else
     (impl_isWeight ((v2.getD v4.toNat ([], (0 : Int))).snd)).bind fun (r2 : Bool) =>
     bif !r2 then
      ret (Bool.false)
     else
      bif (v2.getD v4.toNat ([], (0 : Int))).snd == (0 : Int) then
       ret (Bool.false)
      else
       bif decide (v4 > (0 : Int)) then
        bif decide ((0 : Int) ≤ IntKind.i64.wrap (v4 - (1 : Int))) then
         bif decide ((IntKind.i64.wrap (v4 - (1 : Int))).toNat < v1.length) then
          (impl_compareRows ((v1.getD (IntKind.i64.wrap (v4 - (1 : Int))).toNat ([], (0 : Int))).fst) ((v2.getD v4.toNat ([], (0 : Int))).fst)).bind fun (r3 : Int) =>
          bif decide (r3 ≥ (0 : Int)) then
           ret (Bool.false)
          else
           lp4 (v0) (v1) (v2) (v3) (IntKind.i64.wrap (v4 + (1 : Int)))
         else
          none
        else
         none
       else
        lp4 (v0) (v1) (v2) (v3) (IntKind.i64.wrap (v4 + (1 : Int)))
   else
    none
  else
   none
 else
  ret (Bool.true)
theorem impl_GoodTable.k (v0 : Int) (v1 : List (List Int × Int)) : topL E (callT E tab) 72 Try.f72 (impl_GoodTable.c v0 v1) = impl_GoodTable.t (fun b => some (impl_GoodTable.mk b)) impl_GoodTable.q4 v0 v1 := by kernel_rfl
theorem impl_GoodTable.k4 (v0 : Int) (v1 : List (List Int × Int)) (v2 : List (List Int × Int)) (v3 : Int) (v4 : Int) : roundL E (callT E tab) 72 Try.f72 1 [.r, .r, .l, .r, .b] (nn 1 (⟨(.box false), [iL v0, .d .fro (.sl (.pair (.sl (.int .i64)) (.int .i64))) v1], false, false, false, 0, 0⟩ :: nn 14 (vc (.d .fro (.sl (.pair (.sl (.int .i64)) (.int .i64))) v2) :: vc (iL v3) :: vc (iL v4) :: nn 39 ([])))) = impl_GoodTable.t4 (fun b => some (impl_GoodTable.mk b)) impl_GoodTable.q4 v0 v1 v2 v3 v4 := by kernel_rfl
theorem impl_GoodTable.s (v0 : Int) (v1 : List (List Int × Int)) : Sub impl_GoodTable.mk (impl_GoodTable.t some impl_GoodTable.l4 v0 v1) (impl_GoodTable.t (fun b => some (impl_GoodTable.mk b)) impl_GoodTable.q4 v0 v1) := by
 unfold impl_GoodTable.t
 repeat' first | exact Sub.ret | exact Sub.none | exact Sub.loop | apply Sub.cond | (apply Sub.bind; intro _)
theorem impl_GoodTable.eq (v0 : Int) (v1 : List (List Int × Int)) {b : Bool} (h : impl_GoodTable.t some impl_GoodTable.l4 v0 v1 = some b) : impl_GoodTable v0 v1 = some b := tOf_intro impl_GoodTable.un (fun _ => by kernel_rfl) (vlim_fn (callT_le E tab) rfl rfl rfl ((impl_GoodTable.k v0 v1).trans (impl_GoodTable.s v0 v1 b h)))
theorem impl_GoodTable.s4 (v0 : Int) (v1 : List (List Int × Int)) (v2 : List (List Int × Int)) (v3 : Int) (v4 : Int) : Sub impl_GoodTable.mk (impl_GoodTable.t4 some impl_GoodTable.l4 v0 v1 v2 v3 v4) (impl_GoodTable.t4 (fun b => some (impl_GoodTable.mk b)) impl_GoodTable.q4 v0 v1 v2 v3 v4) := by
 unfold impl_GoodTable.t4
 repeat' first | exact Sub.ret | exact Sub.none | exact Sub.loop | apply Sub.cond | (apply Sub.bind; intro _)
theorem impl_GoodTable.eq4 (v0 : Int) (v1 : List (List Int × Int)) (v2 : List (List Int × Int)) (v3 : Int) (v4 : Int) {b : Bool} (h : impl_GoodTable.t4 some impl_GoodTable.l4 v0 v1 v2 v3 v4 = some b) : impl_GoodTable.l4 v0 v1 v2 v3 v4 = some b := tOf_intro impl_GoodTable.un (fun _ => by kernel_rfl) (loopAtL_step ((impl_GoodTable.k4 v0 v1 v2 v3 v4).trans (impl_GoodTable.s4 v0 v1 v2 v3 v4 b h)))
noncomputable def impl_isColumns.t {γ : Type} (ret : (Bool) → Option γ) (v0 : Int) : Option γ :=
 (impl_within (v0) ((0 : Int)) ((6 : Int))).bind fun (r0 : Bool) =>
 ret (r0)
theorem impl_isColumns.k (v0 : Int) : topL E (callT E tab) 140 Try.f140 (impl_isColumns.c v0) = impl_isColumns.t (fun b => some (impl_isColumns.mk b)) v0 := by kernel_rfl
theorem impl_isColumns.s (v0 : Int) : Sub impl_isColumns.mk (impl_isColumns.t some v0) (impl_isColumns.t (fun b => some (impl_isColumns.mk b)) v0) := by
 unfold impl_isColumns.t
 repeat' first | exact Sub.ret | exact Sub.none | exact Sub.loop | apply Sub.cond | (apply Sub.bind; intro _)
theorem impl_isColumns.eq (v0 : Int) {b : Bool} (h : impl_isColumns.t some v0 = some b) : impl_isColumns v0 = some b := tOf_intro impl_isColumns.un (fun _ => by kernel_rfl) (vlim_fn (callT_le E tab) rfl rfl rfl ((impl_isColumns.k v0).trans (impl_isColumns.s v0 b h)))
noncomputable def impl_within.t {γ : Type} (ret : (Bool) → Option γ) (v0 : Int) (v1 : Int) (v2 : Int) : Option γ :=
 bif decide (v1 ≤ v0) then
  ret (decide (v0 ≤ v2))
 else
  ret (Bool.false)
theorem impl_within.k (v0 : Int) (v1 : Int) (v2 : Int) : topL E (callT E tab) 158 Try.f158 (impl_within.c v0 v1 v2) = impl_within.t (fun b => some (impl_within.mk b)) v0 v1 v2 := by kernel_rfl
theorem impl_within.s (v0 : Int) (v1 : Int) (v2 : Int) : Sub impl_within.mk (impl_within.t some v0 v1 v2) (impl_within.t (fun b => some (impl_within.mk b)) v0 v1 v2) := by
 unfold impl_within.t
 repeat' first | exact Sub.ret | exact Sub.none | exact Sub.loop | apply Sub.cond | (apply Sub.bind; intro _)
theorem impl_within.eq (v0 : Int) (v1 : Int) (v2 : Int) {b : Bool} (h : impl_within.t some v0 v1 v2 = some b) : impl_within v0 v1 v2 = some b := tOf_intro impl_within.un (fun _ => by kernel_rfl) (vlim_fn (callT_le E tab) rfl rfl rfl ((impl_within.k v0 v1 v2).trans (impl_within.s v0 v1 v2 b h)))
end GoV

/- Equations of the program's functions (printed by wip/tools/emit.py). -/
namespace GoV
open Go Go.Proofs
set_option maxRecDepth 100000

noncomputable def impl_isRowOf.t {γ : Type} (ret : (Bool) → Option γ) (v0 : List Int) (v1 : Int) : Option γ :=
 (impl_GoodRow (v0)).bind fun (r0 : Bool) =>
 bif r0 then
  ret ((↑v0.length : Int) == v1)
 else
  ret (Bool.false)
theorem impl_isRowOf.k (v0 : List Int) (v1 : Int) : topL E (callT E tab) 141 Try.f141 (impl_isRowOf.c v0 v1) = impl_isRowOf.t (fun b => some (impl_isRowOf.mk b)) v0 v1 := by kernel_rfl
theorem impl_isRowOf.s (v0 : List Int) (v1 : Int) : Sub impl_isRowOf.mk (impl_isRowOf.t some v0 v1) (impl_isRowOf.t (fun b => some (impl_isRowOf.mk b)) v0 v1) := by
 unfold impl_isRowOf.t
 repeat' first | exact Sub.ret | exact Sub.none | exact Sub.loop | apply Sub.cond | (apply Sub.bind; intro _)
theorem impl_isRowOf.eq (v0 : List Int) (v1 : Int) {b : Bool} (h : impl_isRowOf.t some v0 v1 = some b) : impl_isRowOf v0 v1 = some b := tOf_intro impl_isRowOf.un (fun _ => by kernel_rfl) (vlim_fn (callT_le E tab) rfl rfl rfl ((impl_isRowOf.k v0 v1).trans (impl_isRowOf.s v0 v1 b h)))
noncomputable def impl_GoodRow.t {γ : Type} (ret : (Bool) → Option γ) (v0 : List Int) : Option γ :=
 bif decide ((↑v0.length : Int) ≤ (6 : Int)) then
  (xi07 (v0)).bind fun (r0 : Bool) =>
  ret (r0)
 else
  ret (Bool.false)
theorem impl_GoodRow.k (v0 : List Int) : topL E (callT E tab) 197 Try.f197 (impl_GoodRow.c v0) = impl_GoodRow.t (fun b => some (impl_GoodRow.mk b)) v0 := by kernel_rfl
theorem impl_GoodRow.s (v0 : List Int) : Sub impl_GoodRow.mk (impl_GoodRow.t some v0) (impl_GoodRow.t (fun b => some (impl_GoodRow.mk b)) v0) := by
 unfold impl_GoodRow.t
 repeat' first | exact Sub.ret | exact Sub.none | exact Sub.loop | apply Sub.cond | (apply Sub.bind; intro _)
theorem impl_GoodRow.eq (v0 : List Int) {b : Bool} (h : impl_GoodRow.t some v0 = some b) : impl_GoodRow v0 = some b := tOf_intro impl_GoodRow.un (fun _ => by kernel_rfl) (vlim_fn (callT_le E tab) rfl rfl rfl ((impl_GoodRow.k v0).trans (impl_GoodRow.s v0 b h)))
noncomputable def xi07.t {γ : Type} (ret : (Bool) → Option γ) (v0 : List Int) : Option γ :=
 (xs02 (v0)).bind fun (r0 : Bool) =>
 ret (!r0)
theorem xi07.k (v0 : List Int) : topL E (callT E tab) 161 Try.f161 (xi07.c v0) = xi07.t (fun b => some (xi07.mk b)) v0 := by kernel_rfl
theorem xi07.s (v0 : List Int) : Sub xi07.mk (xi07.t some v0) (xi07.t (fun b => some (xi07.mk b)) v0) := by
 unfold xi07.t
 repeat' first | exact Sub.ret | exact Sub.none | exact Sub.loop | apply Sub.cond | (apply Sub.bind; intro _)
theorem xi07.eq (v0 : List Int) {b : Bool} (h : xi07.t some v0 = some b) : xi07 v0 = some b := tOf_intro xi07.un (fun _ => by kernel_rfl) (vlim_fn (callT_le E tab) rfl rfl rfl ((xi07.k v0).trans (xi07.s v0 b h)))
noncomputable def xs02.t {γ : Type} (ret : (Bool) → Option γ) (v0 : List Int) : Option γ :=
 (xs03 (v0)).bind fun (r0 : Int) =>
 ret (decide (r0 ≥ (0 : Int)))
theorem xs02.k (v0 : List Int) : topL E (callT E tab) 205 Try.f205 (xs02.c v0) = xs02.t (fun b => some (xs02.mk b)) v0 := by kernel_rfl
theorem xs02.s (v0 : List Int) : Sub xs02.mk (xs02.t some v0) (xs02.t (fun b => some (xs02.mk b)) v0) := by
 unfold xs02.t
 repeat' first | exact Sub.ret | exact Sub.none | exact Sub.loop | apply Sub.cond | (apply Sub.bind; intro _)
theorem xs02.eq (v0 : List Int) {b : Bool} (h : xs02.t some v0 = some b) : xs02 v0 = some b := tOf_intro xs02.un (fun _ => by kernel_rfl) (vlim_fn (callT_le E tab) rfl rfl rfl ((xs02.k v0).trans (xs02.s v0 b h)))
noncomputable def xs03.q2 (v0 : List Int) (v1 : Int) (v2 : Int) : Option R := loopAtL E (callT E tab) 228 Try.f228 2 [.r, .l, .r, .b] (vc (.d .fro (.sl (.int .i64)) v0) :: vc (.fn 206 [.rp [.fn 223 []] 0]) :: nn 5 (vc (iL v1) :: vc (iL v2) :: nn 10 ([])))
noncomputable def xs03.l2 (v0 : List Int) (v1 : Int) (v2 : Int) : Option (Int) := tOf xs03.mk (xs03.q2 v0 v1 v2)
noncomputable def xs03.t {γ : Type} (ret : (Int) → Option γ) (lp2 : (List Int) → Int → Int → Option γ) (v0 : List Int) : Option γ :=
 lp2 (v0) ((↑v0.length : Int)) ((0 : Int))
noncomputable def xs03.t2 {γ : Type} (ret : (Int) → Option γ) (lp2 : (List Int) → Int → Int → Option γ) (v0 : List Int) (v1 : Int) (v2 : Int) : Option γ :=
 bif decide (v2 < v1) then
  bif decide ((0 : Int) ≤ v2) then
   bif decide (v2.toNat < v0.length) then
    (xi06 (v0.getD v2.toNat (0 : Int))).bind fun (r0 : Bool) =>
    bif r0 then
     ret (v2)
    else
     lp2 (v0) (v1) (IntKind.i64.wrap (v2 + (1 : Int)))
   else
    none
  else
   none
 else
  ret ((-1 : Int))
theorem xs03.k (v0 : List Int) : topL E (callT E tab) 228 Try.f228 (xs03.c v0) = xs03.t (fun b => some (xs03.mk b)) xs03.q2 v0 := by kernel_rfl
theorem xs03.k2 (v0 : List Int) (v1 : Int) (v2 : Int) : roundL E (callT E tab) 228 Try.f228 2 [.r, .l, .r, .b] (vc (.d .fro (.sl (.int .i64)) v0) :: vc (.fn 206 [.rp [.fn 223 []] 0]) :: nn 5 (vc (iL v1) :: vc (iL v2) :: nn 10 ([]))) = xs03.t2 (fun b => some (xs03.mk b)) xs03.q2 v0 v1 v2 := by kernel_rfl
theorem xs03.s (v0 : List Int) : Sub xs03.mk (xs03.t some xs03.l2 v0) (xs03.t (fun b => some (xs03.mk b)) xs03.q2 v0) := by
 unfold xs03.t
 repeat' first | exact Sub.ret | exact Sub.none | exact Sub.loop | apply Sub.cond | (apply Sub.bind; intro _)
theorem xs03.eq (v0 : List Int) {b : Int} (h : xs03.t some xs03.l2 v0 = some b) : xs03 v0 = some b := tOf_intro xs03.un (fun _ => by kernel_rfl) (vlim_fn (callT_le E tab) rfl rfl rfl ((xs03.k v0).trans (xs03.s v0 b h)))
theorem xs03.s2 (v0 : List Int) (v1 : Int) (v2 : Int) : Sub xs03.mk (xs03.t2 some xs03.l2 v0 v1 v2) (xs03.t2 (fun b => some (xs03.mk b)) xs03.q2 v0 v1 v2) := by
 unfold xs03.t2
 repeat' first | exact Sub.ret | exact Sub.none | exact Sub.loop | apply Sub.cond | (apply Sub.bind; intro _)
theorem xs03.eq2 (v0 : List Int) (v1 : Int) (v2 : Int) {b : Int} (h : xs03.t2 some xs03.l2 v0 v1 v2 = some b) : xs03.l2 v0 v1 v2 = some b := tOf_intro xs03.un (fun _ => by kernel_rfl) (loopAtL_step ((xs03.k2 v0 v1 v2).trans (xs03.s2 v0 v1 v2 b h)))
noncomputable def xi06.t {γ : Type} (ret : (Bool) → Option γ) (v0 : Int) : Option γ :=
 (impl_isCell (v0)).bind fun (r0 : Bool) =>
 ret (!r0)
theorem xi06.k (v0 : Int) : topL E (callT E tab) 206 Try.f206 (xi06.c v0) = xi06.t (fun b => some (xi06.mk b)) v0 := by kernel_rfl
theorem xi06.s (v0 : Int) : Sub xi06.mk (xi06.t some v0) (xi06.t (fun b => some (xi06.mk b)) v0) := by
 unfold xi06.t
 repeat' first | exact Sub.ret | exact Sub.none | exact Sub.loop | apply Sub.cond | (apply Sub.bind; intro _)
theorem xi06.eq (v0 : Int) {b : Bool} (h : xi06.t some v0 = some b) : xi06 v0 = some b := tOf_intro xi06.un (fun _ => by kernel_rfl) (vlim_fn (callT_le E tab) rfl rfl rfl ((xi06.k v0).trans (xi06.s v0 b h)))
noncomputable def impl_isCell.t {γ : Type} (ret : (Bool) → Option γ) (v0 : Int) : Option γ :=
 (impl_within (v0) ((-100000 : Int)) ((100000 : Int))).bind fun (r0 : Bool) =>
 ret (r0)
theorem impl_isCell.k (v0 : Int) : topL E (callT E tab) 223 Try.f223 (impl_isCell.c v0) = impl_isCell.t (fun b => some (impl_isCell.mk b)) v0 := by kernel_rfl
theorem impl_isCell.s (v0 : Int) : Sub impl_isCell.mk (impl_isCell.t some v0) (impl_isCell.t (fun b => some (impl_isCell.mk b)) v0) := by
 unfold impl_isCell.t
 repeat' first | exact Sub.ret | exact Sub.none | exact Sub.loop | apply Sub.cond | (apply Sub.bind; intro _)
theorem impl_isCell.eq (v0 : Int) {b : Bool} (h : impl_isCell.t some v0 = some b) : impl_isCell v0 = some b := tOf_intro impl_isCell.un (fun _ => by kernel_rfl) (vlim_fn (callT_le E tab) rfl rfl rfl ((impl_isCell.k v0).trans (impl_isCell.s v0 b h)))
noncomputable def impl_isWeight.t {γ : Type} (ret : (Bool) → Option γ) (v0 : Int) : Option γ :=
 (impl_within (v0) ((-1000000 : Int)) ((1000000 : Int))).bind fun (r0 : Bool) =>
 ret (r0)
theorem impl_isWeight.k (v0 : Int) : topL E (callT E tab) 142 Try.f142 (impl_isWeight.c v0) = impl_isWeight.t (fun b => some (impl_isWeight.mk b)) v0 := by kernel_rfl
theorem impl_isWeight.s (v0 : Int) : Sub impl_isWeight.mk (impl_isWeight.t some v0) (impl_isWeight.t (fun b => some (impl_isWeight.mk b)) v0) := by
 unfold impl_isWeight.t
 repeat' first | exact Sub.ret | exact Sub.none | exact Sub.loop | apply Sub.cond | (apply Sub.bind; intro _)
theorem impl_isWeight.eq (v0 : Int) {b : Bool} (h : impl_isWeight.t some v0 = some b) : impl_isWeight v0 = some b := tOf_intro impl_isWeight.un (fun _ => by kernel_rfl) (vlim_fn (callT_le E tab) rfl rfl rfl ((impl_isWeight.k v0).trans (impl_isWeight.s v0 b h)))
noncomputable def impl_compareRows.t {γ : Type} (ret : (Int) → Option γ) (v0 : List Int) (v1 : List Int) : Option γ :=
 (xs0a (v0) (v1)).bind fun (r0 : Int) =>
 ret (r0)
theorem impl_compareRows.k (v0 : List Int) (v1 : List Int) : topL E (callT E tab) 143 Try.f143 (impl_compareRows.c v0 v1) = impl_compareRows.t (fun b => some (impl_compareRows.mk b)) v0 v1 := by kernel_rfl
theorem impl_compareRows.s (v0 : List Int) (v1 : List Int) : Sub impl_compareRows.mk (impl_compareRows.t some v0 v1) (impl_compareRows.t (fun b => some (impl_compareRows.mk b)) v0 v1) := by
 unfold impl_compareRows.t
 repeat' first | exact Sub.ret | exact Sub.none | exact Sub.loop | apply Sub.cond | (apply Sub.bind; intro _)
theorem impl_compareRows.eq (v0 : List Int) (v1 : List Int) {b : Int} (h : impl_compareRows.t some v0 v1 = some b) : impl_compareRows v0 v1 = some b := tOf_intro impl_compareRows.un (fun _ => by kernel_rfl) (vlim_fn (callT_le E tab) rfl rfl rfl ((impl_compareRows.k v0 v1).trans (impl_compareRows.s v0 v1 b h)))
noncomputable def xs0a.q2 (v0 : List Int) (v1 : List Int) (v2 : List Int) (v3 : Int) (v4 : Int) : Option R := loopAtL E (callT E tab) 198 Try.f198 2 [.r, .l, .r, .b] (vc (.d .fro (.sl (.int .i64)) v0) :: vc (.d .fro (.sl (.int .i64)) v1) :: nn 7 (vc (.d .fro (.sl (.int .i64)) v2) :: vc (iL v3) :: vc (iL v4) :: nn 24 ([])))
noncomputable def xs0a.l2 (v0 : List Int) (v1 : List Int) (v2 : List Int) (v3 : Int) (v4 : Int) : Option (Int) := tOf xs0a.mk (xs0a.q2 v0 v1 v2 v3 v4)
noncomputable def xs0a.t {γ : Type} (ret : (Int) → Option γ) (lp2 : (List Int) → (List Int) → (List Int) → Int → Int → Option γ) (v0 : List Int) (v1 : List Int) : Option γ :=
 lp2 (v0) (v1) (v0) ((↑v0.length : Int)) ((0 : Int))
noncomputable def xs0a.t2 {γ : Type} (ret : (Int) → Option γ) (lp2 : (List Int) → (List Int) → (List Int) → Int → Int → Option γ) (v0 : List Int) (v1 : List Int) (v2 : List Int) (v3 : Int) (v4 : Int) : Option γ :=
 bif decide (v4 < v3) then
  bif decide ((0 : Int) ≤ v4) then
   bif decide (v4.toNat < v2.length) then
    bif decide (v4 ≥ (↑v1.length : Int)) then
     ret ((1 : Int))
    else
     bif decide ((0 : Int) ≤ v4) then
      bif decide (v4.toNat < v1.length) then
       (cmp_Compare_int (v2.getD v4.toNat (0 : Int)) (v1.getD v4.toNat (0 : Int))).bind fun (r0 : Int) =>
       bif r0 != (0 : Int) then
        ret (r0)
       else
        lp2 (v0) (v1) (v2) (v3) (IntKind.i64.wrap (v4 + (1 : Int)))
      else
       none
     else
      none
   else
    none
  else
   none
 else
  bif decide ((↑v0.length : Int) < (↑v1.length : Int)) then
   ret ((-1 : Int))
  else
   ret ((0 : Int))
theorem xs0a.k (v0 : List Int) (v1 : List Int) : topL E (callT E tab) 198 Try.f198 (xs0a.c v0 v1) = xs0a.t (fun b => some (xs0a.mk b)) xs0a.q2 v0 v1 := by kernel_rfl
theorem xs0a.k2 (v0 : List Int) (v1 : List Int) (v2 : List Int) (v3 : Int) (v4 : Int) : roundL E (callT E tab) 198 Try.f198 2 [.r, .l, .r, .b] (vc (.d .fro (.sl (.int .i64)) v0) :: vc (.d .fro (.sl (.int .i64)) v1) :: nn 7 (vc (.d .fro (.sl (.int .i64)) v2) :: vc (iL v3) :: vc (iL v4) :: nn 24 ([]))) = xs0a.t2 (fun b => some (xs0a.mk b)) xs0a.q2 v0 v1 v2 v3 v4 := by kernel_rfl
theorem xs0a.s (v0 : List Int) (v1 : List Int) : Sub xs0a.mk (xs0a.t some xs0a.l2 v0 v1) (xs0a.t (fun b => some (xs0a.mk b)) xs0a.q2 v0 v1) := by
 unfold xs0a.t
 repeat' first | exact Sub.ret | exact Sub.none | exact Sub.loop | apply Sub.cond | (apply Sub.bind; intro _)
theorem xs0a.eq (v0 : List Int) (v1 : List Int) {b : Int} (h : xs0a.t some xs0a.l2 v0 v1 = some b) : xs0a v0 v1 = some b := tOf_intro xs0a.un (fun _ => by kernel_rfl) (vlim_fn (callT_le E tab) rfl rfl rfl ((xs0a.k v0 v1).trans (xs0a.s v0 v1 b h)))
theorem xs0a.s2 (v0 : List Int) (v1 : List Int) (v2 : List Int) (v3 : Int) (v4 : Int) : Sub xs0a.mk (xs0a.t2 some xs0a.l2 v0 v1 v2 v3 v4) (xs0a.t2 (fun b => some (xs0a.mk b)) xs0a.q2 v0 v1 v2 v3 v4) := by
 unfold xs0a.t2
 repeat' first | exact Sub.ret | exact Sub.none | exact Sub.loop | apply Sub.cond | (apply Sub.bind; intro _)
theorem xs0a.eq2 (v0 : List Int) (v1 : List Int) (v2 : List Int) (v3 : Int) (v4 : Int) {b : Int} (h : xs0a.t2 some xs0a.l2 v0 v1 v2 v3 v4 = some b) : xs0a.l2 v0 v1 v2 v3 v4 = some b := tOf_intro xs0a.un (fun _ => by kernel_rfl) (loopAtL_step ((xs0a.k2 v0 v1 v2 v3 v4).trans (xs0a.s2 v0 v1 v2 v3 v4 b h)))
noncomputable def cmp_Compare_int.t {γ : Type} (ret : (Int) → Option γ) (v0 : Int) (v1 : Int) : Option γ :=
 (cmp_isNaN_int (v0)).bind fun (r0 : Bool) =>
 (cmp_isNaN_int (v1)).bind fun (r1 : Bool) =>
 bif r0 then
  bif r1 then
   ret ((0 : Int))
  else
   ret ((-1 : Int))
 else
  bif r1 then
   ret ((1 : Int))
  else
   bif decide (v0 < v1) then
    ret ((-1 : Int))
   else
    bif decide (v0 > v1) then
     ret ((1 : Int))
    else
     ret ((0 : Int))
theorem cmp_Compare_int.k (v0 : Int) (v1 : Int) : topL E (callT E tab) 224 Try.f224 (cmp_Compare_int.c v0 v1) = cmp_Compare_int.t (fun b => some (cmp_Compare_int.mk b)) v0 v1 := by kernel_rfl
theorem cmp_Compare_int.s (v0 : Int) (v1 : Int) : Sub cmp_Compare_int.mk (cmp_Compare_int.t some v0 v1) (cmp_Compare_int.t (fun b => some (cmp_Compare_int.mk b)) v0 v1) := by
 unfold cmp_Compare_int.t
 repeat' first | exact Sub.ret | exact Sub.none | exact Sub.loop | apply Sub.cond | (apply Sub.bind; intro _)
theorem cmp_Compare_int.eq (v0 : Int) (v1 : Int) {b : Int} (h : cmp_Compare_int.t some v0 v1 = some b) : cmp_Compare_int v0 v1 = some b := tOf_intro cmp_Compare_int.un (fun _ => by kernel_rfl) (vlim_fn (callT_le E tab) rfl rfl rfl ((cmp_Compare_int.k v0 v1).trans (cmp_Compare_int.s v0 v1 b h)))
noncomputable def cmp_isNaN_int.t {γ : Type} (ret : (Bool) → Option γ) (v0 : Int) : Option γ :=
 ret (v0 != v0)
theorem cmp_isNaN_int.k (v0 : Int) : topL E (callT E tab) 236 Try.f236 (cmp_isNaN_int.c v0) = cmp_isNaN_int.t (fun b => some (cmp_isNaN_int.mk b)) v0 := by kernel_rfl
theorem cmp_isNaN_int.s (v0 : Int) : Sub cmp_isNaN_int.mk (cmp_isNaN_int.t some v0) (cmp_isNaN_int.t (fun b => some (cmp_isNaN_int.mk b)) v0) := by
 unfold cmp_isNaN_int.t
 repeat' first | exact Sub.ret | exact Sub.none | exact Sub.loop | apply Sub.cond | (apply Sub.bind; intro _)
theorem cmp_isNaN_int.eq (v0 : Int) {b : Bool} (h : cmp_isNaN_int.t some v0 = some b) : cmp_isNaN_int v0 = some b := tOf_intro cmp_isNaN_int.un (fun _ => by kernel_rfl) (vlim_fn (callT_le E tab) rfl rfl rfl ((cmp_isNaN_int.k v0).trans (cmp_isNaN_int.s v0 b h)))
noncomputable def impl_Row_own.t {γ : Type} (ret : ((List Int)) → Option γ) (v0 : List Int) : Option γ :=
 (xs0b (v0)).bind fun (r0 : (List Int)) =>
 ret (r0)
theorem impl_Row_own.k (v0 : List Int) : topL E (callT E tab) 152 Try.f152 (impl_Row_own.c v0) = impl_Row_own.t (fun b => some (impl_Row_own.mk b)) v0 := by kernel_rfl
theorem impl_Row_own.s (v0 : List Int) : Sub impl_Row_own.mk (impl_Row_own.t some v0) (impl_Row_own.t (fun b => some (impl_Row_own.mk b)) v0) := by
 unfold impl_Row_own.t
 repeat' first | exact Sub.ret | exact Sub.none | exact Sub.loop | apply Sub.cond | (apply Sub.bind; intro _)
theorem impl_Row_own.eq (v0 : List Int) {b : (List Int)} (h : impl_Row_own.t some v0 = some b) : impl_Row_own v0 = some b := tOf_intro impl_Row_own.un (fun _ => by kernel_rfl) (vlim_fn (callT_le E tab) rfl rfl rfl ((impl_Row_own.k v0).trans (impl_Row_own.s v0 b h)))
noncomputable def xs0b.t {γ : Type} (ret : ((List Int)) → Option γ) (v0 : List Int) : Option γ :=
 bif decide (v0.length ≤ (4294967296 : Nat)) then
  ret (v0)
 else
  none
theorem xs0b.k (v0 : List Int) : extOf 178 (xs0b.c v0) = xs0b.t (fun b => some (xs0b.mk b)) v0 := by kernel_rfl
theorem xs0b.s (v0 : List Int) : Sub xs0b.mk (xs0b.t some v0) (xs0b.t (fun b => some (xs0b.mk b)) v0) := by
 unfold xs0b.t
 repeat' first | exact Sub.ret | exact Sub.none | exact Sub.loop | apply Sub.cond | (apply Sub.bind; intro _)
theorem xs0b.eq (v0 : List Int) {b : (List Int)} (h : xs0b.t some v0 = some b) : xs0b v0 = some b := tOf_intro xs0b.un (fun _ => by kernel_rfl) (vlim_ext (g := extOf 178) rfl ((xs0b.k v0).trans (xs0b.s v0 b h)))
noncomputable def laws_eqTable.t {γ : Type} (ret : (Bool) → Option γ) (v0 : Int) (v1 : List (List Int × Int)) (v2 : Int) (v3 : List (List Int × Int)) : Option γ :=
 bif v0 != v2 then
  ret (Bool.false)
 else
  (laws_eqWeightedS (v1) (v3)).bind fun (r0 : Bool) =>
  bif !r0 then
   ret (Bool.false)
  else
   ret (Bool.true)
theorem laws_eqTable.k (v0 : Int) (v1 : List (List Int × Int)) (v2 : Int) (v3 : List (List Int × Int)) : topL E (callT E tab) 19 Try.f19 (laws_eqTable.c v0 v1 v2 v3) = laws_eqTable.t (fun b => some (laws_eqTable.mk b)) v0 v1 v2 v3 := by kernel_rfl
theorem laws_eqTable.s (v0 : Int) (v1 : List (List Int × Int)) (v2 : Int) (v3 : List (List Int × Int)) : Sub laws_eqTable.mk (laws_eqTable.t some v0 v1 v2 v3) (laws_eqTable.t (fun b => some (laws_eqTable.mk b)) v0 v1 v2 v3) := by
 unfold laws_eqTable.t
 repeat' first | exact Sub.ret | exact Sub.none | exact Sub.loop | apply Sub.cond | (apply Sub.bind; intro _)
theorem laws_eqTable.eq (v0 : Int) (v1 : List (List Int × Int)) (v2 : Int) (v3 : List (List Int × Int)) {b : Bool} (h : laws_eqTable.t some v0 v1 v2 v3 = some b) : laws_eqTable v0 v1 v2 v3 = some b := tOf_intro laws_eqTable.un (fun _ => by kernel_rfl) (vlim_fn (callT_le E tab) rfl rfl rfl ((laws_eqTable.k v0 v1 v2 v3).trans (laws_eqTable.s v0 v1 v2 v3 b h)))
noncomputable def laws_eqWeightedS.q4 (v0 : List (List Int × Int)) (v1 : List (List Int × Int)) (v2 : Int) : Option R := loopAtL E (callT E tab) 75 Try.f75 2 [.r, .r, .l, .r, .b] (vc (.d .fro (.sl (.pair (.sl (.int .i64)) (.int .i64))) v0) :: vc (.d .fro (.sl (.pair (.sl (.int .i64)) (.int .i64))) v1) :: nn 3 (vc (iL v2) :: nn 21 ([])))
noncomputable def laws_eqWeightedS.l4 (v0 : List (List Int × Int)) (v1 : List (List Int × Int)) (v2 : Int) : Option (Bool) := tOf laws_eqWeightedS.mk (laws_eqWeightedS.q4 v0 v1 v2)
noncomputable def laws_eqWeightedS.t {γ : Type} (ret : (Bool) → Option γ) (lp4 : (List (List Int × Int)) → (List (List Int × Int)) → Int → Option γ) (v0 : List (List Int × Int)) (v1 : List (List Int × Int)) : Option γ :=
 bif (↑v0.length : Int) != (↑v1.length : Int) then
  ret (Bool.false)
 else
  lp4 (v0) (v1) ((0 : Int))
noncomputable def laws_eqWeightedS.t4 {γ : Type} (ret : (Bool) → Option γ) (lp4 : (List (List Int × Int)) → (List (List Int × Int)) → Int → Option γ) (v0 : List (List Int × Int)) (v1 : List (List Int × Int)) (v2 : Int) : Option γ :=
 bif decide (v2 < (↑v0.length : Int)) then
  bif decide ((0 : Int) ≤ v2) then
   bif decide (v2.toNat < v0.length) then
    bif decide ((0 : Int) ≤ v2) then
     bif decide (v2.toNat < v1.length) then
      (laws_eqWeighted ((v0.getD v2.toNat ([], (0 : Int))).fst) ((v0.getD v2.toNat ([], (0 : Int))).snd) ((v1.getD v2.toNat ([], (0 : Int))).fst) ((v1.getD v2.toNat ([], (0 : Int))).snd)).bind fun (r0 : Bool) =>
      bif !r0 then
       ret (Bool.false)
      else
       lp4 (v0) (v1) (IntKind.i64.wrap (v2 + (1 : Int)))
     else
      none
    else
     none
   else
    none
  else
   none
 else
  ret (Bool.true)
theorem laws_eqWeightedS.k (v0 : List (List Int × Int)) (v1 : List (List Int × Int)) : topL E (callT E tab) 75 Try.f75 (laws_eqWeightedS.c v0 v1) = laws_eqWeightedS.t (fun b => some (laws_eqWeightedS.mk b)) laws_eqWeightedS.q4 v0 v1 := by kernel_rfl
theorem laws_eqWeightedS.k4 (v0 : List (List Int × Int)) (v1 : List (List Int × Int)) (v2 : Int) : roundL E (callT E tab) 75 Try.f75 2 [.r, .r, .l, .r, .b] (vc (.d .fro (.sl (.pair (.sl (.int .i64)) (.int .i64))) v0) :: vc (.d .fro (.sl (.pair (.sl (.int .i64)) (.int .i64))) v1) :: nn 3 (vc (iL v2) :: nn 21 ([]))) = laws_eqWeightedS.t4 (fun b => some (laws_eqWeightedS.mk b)) laws_eqWeightedS.q4 v0 v1 v2 := by kernel_rfl
theorem laws_eqWeightedS.s (v0 : List (List Int × Int)) (v1 : List (List Int × Int)) : Sub laws_eqWeightedS.mk (laws_eqWeightedS.t some laws_eqWeightedS.l4 v0 v1) (laws_eqWeightedS.t (fun b => some (laws_eqWeightedS.mk b)) laws_eqWeightedS.q4 v0 v1) := by
 unfold laws_eqWeightedS.t
 repeat' first | exact Sub.ret | exact Sub.none | exact Sub.loop | apply Sub.cond | (apply Sub.bind; intro _)
theorem laws_eqWeightedS.eq (v0 : List (List Int × Int)) (v1 : List (List Int × Int)) {b : Bool} (h : laws_eqWeightedS.t some laws_eqWeightedS.l4 v0 v1 = some b) : laws_eqWeightedS v0 v1 = some b := tOf_intro laws_eqWeightedS.un (fun _ => by kernel_rfl) (vlim_fn (callT_le E tab) rfl rfl rfl ((laws_eqWeightedS.k v0 v1).trans (laws_eqWeightedS.s v0 v1 b h)))
theorem laws_eqWeightedS.s4 (v0 : List (List Int × Int)) (v1 : List (List Int × Int)) (v2 : Int) : Sub laws_eqWeightedS.mk (laws_eqWeightedS.t4 some laws_eqWeightedS.l4 v0 v1 v2) (laws_eqWeightedS.t4 (fun b => some (laws_eqWeightedS.mk b)) laws_eqWeightedS.q4 v0 v1 v2) := by
 unfold laws_eqWeightedS.t4
 repeat' first | exact Sub.ret | exact Sub.none | exact Sub.loop | apply Sub.cond | (apply Sub.bind; intro _)
theorem laws_eqWeightedS.eq4 (v0 : List (List Int × Int)) (v1 : List (List Int × Int)) (v2 : Int) {b : Bool} (h : laws_eqWeightedS.t4 some laws_eqWeightedS.l4 v0 v1 v2 = some b) : laws_eqWeightedS.l4 v0 v1 v2 = some b := tOf_intro laws_eqWeightedS.un (fun _ => by kernel_rfl) (loopAtL_step ((laws_eqWeightedS.k4 v0 v1 v2).trans (laws_eqWeightedS.s4 v0 v1 v2 b h)))
noncomputable def laws_eqWeighted.t {γ : Type} (ret : (Bool) → Option γ) (v0 : List Int) (v1 : Int) (v2 : List Int) (v3 : Int) : Option γ :=
 (laws_eqRow (v0) (v2)).bind fun (r0 : Bool) =>
 bif !r0 then
  ret (Bool.false)
 else
  bif v1 != v3 then
   ret (Bool.false)
  else
   ret (Bool.true)
theorem laws_eqWeighted.k (v0 : List Int) (v1 : Int) (v2 : List Int) (v3 : Int) : topL E (callT E tab) 149 Try.f149 (laws_eqWeighted.c v0 v1 v2 v3) = laws_eqWeighted.t (fun b => some (laws_eqWeighted.mk b)) v0 v1 v2 v3 := by kernel_rfl
theorem laws_eqWeighted.s (v0 : List Int) (v1 : Int) (v2 : List Int) (v3 : Int) : Sub laws_eqWeighted.mk (laws_eqWeighted.t some v0 v1 v2 v3) (laws_eqWeighted.t (fun b => some (laws_eqWeighted.mk b)) v0 v1 v2 v3) := by
 unfold laws_eqWeighted.t
 repeat' first | exact Sub.ret | exact Sub.none | exact Sub.loop | apply Sub.cond | (apply Sub.bind; intro _)
theorem laws_eqWeighted.eq (v0 : List Int) (v1 : Int) (v2 : List Int) (v3 : Int) {b : Bool} (h : laws_eqWeighted.t some v0 v1 v2 v3 = some b) : laws_eqWeighted v0 v1 v2 v3 = some b := tOf_intro laws_eqWeighted.un (fun _ => by kernel_rfl) (vlim_fn (callT_le E tab) rfl rfl rfl ((laws_eqWeighted.k v0 v1 v2 v3).trans (laws_eqWeighted.s v0 v1 v2 v3 b h)))
noncomputable def laws_eqRow.t {γ : Type} (ret : (Bool) → Option γ) (v0 : List Int) (v1 : List Int) : Option γ :=
 (laws_eqIntS (v0) (v1)).bind fun (r0 : Bool) =>
 bif !r0 then
  ret (Bool.false)
 else
  ret (Bool.true)
theorem laws_eqRow.k (v0 : List Int) (v1 : List Int) : topL E (callT E tab) 168 Try.f168 (laws_eqRow.c v0 v1) = laws_eqRow.t (fun b => some (laws_eqRow.mk b)) v0 v1 := by kernel_rfl
theorem laws_eqRow.s (v0 : List Int) (v1 : List Int) : Sub laws_eqRow.mk (laws_eqRow.t some v0 v1) (laws_eqRow.t (fun b => some (laws_eqRow.mk b)) v0 v1) := by
 unfold laws_eqRow.t
 repeat' first | exact Sub.ret | exact Sub.none | exact Sub.loop | apply Sub.cond | (apply Sub.bind; intro _)
theorem laws_eqRow.eq (v0 : List Int) (v1 : List Int) {b : Bool} (h : laws_eqRow.t some v0 v1 = some b) : laws_eqRow v0 v1 = some b := tOf_intro laws_eqRow.un (fun _ => by kernel_rfl) (vlim_fn (callT_le E tab) rfl rfl rfl ((laws_eqRow.k v0 v1).trans (laws_eqRow.s v0 v1 b h)))
noncomputable def laws_eqIntS.q4 (v0 : List Int) (v1 : List Int) (v2 : Int) : Option R := loopAtL E (callT E tab) 76 Try.f76 2 [.r, .r, .l, .r, .b] (vc (.d .fro (.sl (.int .i64)) v0) :: vc (.d .fro (.sl (.int .i64)) v1) :: nn 3 (vc (iL v2) :: nn 20 ([])))
noncomputable def laws_eqIntS.l4 (v0 : List Int) (v1 : List Int) (v2 : Int) : Option (Bool) := tOf laws_eqIntS.mk (laws_eqIntS.q4 v0 v1 v2)
noncomputable def laws_eqIntS.t {γ : Type} (ret : (Bool) → Option γ) (lp4 : (List Int) → (List Int) → Int → Option γ) (v0 : List Int) (v1 : List Int) : Option γ :=
 bif (↑v0.length : Int) != (↑v1.length : Int) then
  ret (Bool.false)
 else
  lp4 (v0) (v1) ((0 : Int))
noncomputable def laws_eqIntS.t4 {γ : Type} (ret : (Bool) → Option γ) (lp4 : (List Int) → (List Int) → Int → Option γ) (v0 : List Int) (v1 : List Int) (v2 : Int) : Option γ :=
 bif decide (v2 < (↑v0.length : Int)) then
  bif decide ((0 : Int) ≤ v2) then
   bif decide (v2.toNat < v0.length) then
    bif decide ((0 : Int) ≤ v2) then
     bif decide (v2.toNat < v1.length) then
      bif v0.getD v2.toNat (0 : Int) != v1.getD v2.toNat (0 : Int) then
       ret (Bool.false)
      else
       lp4 (v0) (v1) (IntKind.i64.wrap (v2 + (1 : Int)))
     else
      none
    else
     none
   else
    none
  else
   none
 else
  ret (Bool.true)
theorem laws_eqIntS.k (v0 : List Int) (v1 : List Int) : topL E (callT E tab) 76 Try.f76 (laws_eqIntS.c v0 v1) = laws_eqIntS.t (fun b => some (laws_eqIntS.mk b)) laws_eqIntS.q4 v0 v1 := by kernel_rfl
theorem laws_eqIntS.k4 (v0 : List Int) (v1 : List Int) (v2 : Int) : roundL E (callT E tab) 76 Try.f76 2 [.r, .r, .l, .r, .b] (vc (.d .fro (.sl (.int .i64)) v0) :: vc (.d .fro (.sl (.int .i64)) v1) :: nn 3 (vc (iL v2) :: nn 20 ([]))) = laws_eqIntS.t4 (fun b => some (laws_eqIntS.mk b)) laws_eqIntS.q4 v0 v1 v2 := by kernel_rfl
theorem laws_eqIntS.s (v0 : List Int) (v1 : List Int) : Sub laws_eqIntS.mk (laws_eqIntS.t some laws_eqIntS.l4 v0 v1) (laws_eqIntS.t (fun b => some (laws_eqIntS.mk b)) laws_eqIntS.q4 v0 v1) := by
 unfold laws_eqIntS.t
 repeat' first | exact Sub.ret | exact Sub.none | exact Sub.loop | apply Sub.cond | (apply Sub.bind; intro _)
theorem laws_eqIntS.eq (v0 : List Int) (v1 : List Int) {b : Bool} (h : laws_eqIntS.t some laws_eqIntS.l4 v0 v1 = some b) : laws_eqIntS v0 v1 = some b := tOf_intro laws_eqIntS.un (fun _ => by kernel_rfl) (vlim_fn (callT_le E tab) rfl rfl rfl ((laws_eqIntS.k v0 v1).trans (laws_eqIntS.s v0 v1 b h)))
theorem laws_eqIntS.s4 (v0 : List Int) (v1 : List Int) (v2 : Int) : Sub laws_eqIntS.mk (laws_eqIntS.t4 some laws_eqIntS.l4 v0 v1 v2) (laws_eqIntS.t4 (fun b => some (laws_eqIntS.mk b)) laws_eqIntS.q4 v0 v1 v2) := by
 unfold laws_eqIntS.t4
 repeat' first | exact Sub.ret | exact Sub.none | exact Sub.loop | apply Sub.cond | (apply Sub.bind; intro _)
theorem laws_eqIntS.eq4 (v0 : List Int) (v1 : List Int) (v2 : Int) {b : Bool} (h : laws_eqIntS.t4 some laws_eqIntS.l4 v0 v1 v2 = some b) : laws_eqIntS.l4 v0 v1 v2 = some b := tOf_intro laws_eqIntS.un (fun _ => by kernel_rfl) (loopAtL_step ((laws_eqIntS.k4 v0 v1 v2).trans (laws_eqIntS.s4 v0 v1 v2 b h)))
noncomputable def xl09.q2 (v0 : List (List Int × Int)) (v1 : Int) (v2 : Int) : Option R := loopAtL E (callT E tab) 77 Try.f77 2 [.r, .l, .r, .b] (⟨(.val .one), [.d .deep (.sl (.pair (.sl (.int .i64)) (.int .i64))) v0], true, false, false, 0, 0⟩ :: vc (iL v1) :: nn 3 (vc (iL v2) :: nn 22 ([])))
noncomputable def xl09.l2 (v0 : List (List Int × Int)) (v1 : Int) (v2 : Int) : Option (Int × (List (List Int × Int))) := tOf xl09.mk (xl09.q2 v0 v1 v2)
noncomputable def xl09.t {γ : Type} (ret : (Int × (List (List Int × Int))) → Option γ) (lp2 : (List (List Int × Int)) → Int → Int → Option γ) (v0 : List (List Int × Int)) (v1 : Int) : Option γ :=
 lp2 (v0) (v1) ((0 : Int))
noncomputable def xl09.t2 {γ : Type} (ret : (Int × (List (List Int × Int))) → Option γ) (lp2 : (List (List Int × Int)) → Int → Int → Option γ) (v0 : List (List Int × Int)) (v1 : Int) (v2 : Int) : Option γ :=
 bif decide (v2 < (↑v0.length : Int)) then
  bif decide ((0 : Int) ≤ v2) then
   bif decide (v2.toNat < v0.length) then
    bif decide (v2.toNat < v0.length) then
     bif decide (v2.toNat < v0.length) then
      (laws_markIntS_83f ((v0.getD v2.toNat ([], (0 : Int))).fst) (v1)).bind fun (r0 : Int × (List Int)) =>
      bif decide (v2.toNat = v2.toNat) &&   (decide ((0 : Nat) + (0 : Nat) + (0 : Nat) = (0 : Nat) + (0 : Nat) + (0 : Nat)) &&     decide ((1 : Nat) + (1 : Nat) = (1 : Nat) + (1 : Nat))) then
       bif decide (v2.toNat < v0.length) then
        bif decide ((0 : Int) ≤ v2) then
         bif decide (v2.toNat < (v0.set v2.toNat (r0.snd, (v0.getD v2.toNat ([], (0 : Int))).snd)).length) then
          bif decide (v2.toNat < (v0.set v2.toNat (r0.snd, (v0.getD v2.toNat ([], (0 : Int))).snd)).length) then
           lp2 ((v0.set v2.toNat (r0.snd, (v0.getD v2.toNat ([], (0 : Int))).snd)).set v2.toNat   (((v0.set v2.toNat (r0.snd, (v0.getD v2.toNat ([], (0 : Int))).snd)).getD v2.toNat ([], (0 : Int))).fst, r0.fst)) (IntKind.i64.wrap (r0.fst + (1 : Int))) (IntKind.i64.wrap (v2 + (1 : Int)))
          else
           none
         else
          none
        else
         none
       else
        none
      else
       none
     else
      none
    else
     none
   else
    none
  else
   none
 else
  ret (v1, v0)
theorem xl09.k (v0 : List (List Int × Int)) (v1 : Int) : topL E (callT E tab) 77 Try.f77 (xl09.c v0 v1) = xl09.t (fun b => some (xl09.mk b)) xl09.q2 v0 v1 := by kernel_rfl
theorem xl09.k2 (v0 : List (List Int × Int)) (v1 : Int) (v2 : Int) : roundL E (callT E tab) 77 Try.f77 2 [.r, .l, .r, .b] (⟨(.val .one), [.d .deep (.sl (.pair (.sl (.int .i64)) (.int .i64))) v0], true, false, false, 0, 0⟩ :: vc (iL v1) :: nn 3 (vc (iL v2) :: nn 22 ([]))) = xl09.t2 (fun b => some (xl09.mk b)) xl09.q2 v0 v1 v2 := by kernel_rfl
theorem xl09.s (v0 : List (List Int × Int)) (v1 : Int) : Sub xl09.mk (xl09.t some xl09.l2 v0 v1) (xl09.t (fun b => some (xl09.mk b)) xl09.q2 v0 v1) := by
 unfold xl09.t
 repeat' first | exact Sub.ret | exact Sub.none | exact Sub.loop | apply Sub.cond | (apply Sub.bind; intro _)
theorem xl09.eq (v0 : List (List Int × Int)) (v1 : Int) {b : Int × (List (List Int × Int))} (h : xl09.t some xl09.l2 v0 v1 = some b) : xl09 v0 v1 = some b := tOf_intro xl09.un (fun _ => by kernel_rfl) (vlim_fn (callT_le E tab) rfl rfl rfl ((xl09.k v0 v1).trans (xl09.s v0 v1 b h)))
theorem xl09.s2 (v0 : List (List Int × Int)) (v1 : Int) (v2 : Int) : Sub xl09.mk (xl09.t2 some xl09.l2 v0 v1 v2) (xl09.t2 (fun b => some (xl09.mk b)) xl09.q2 v0 v1 v2) := by
 unfold xl09.t2
 repeat' first | exact Sub.ret | exact Sub.none | exact Sub.loop | apply Sub.cond | (apply Sub.bind; intro _)
theorem xl09.eq2 (v0 : List (List Int × Int)) (v1 : Int) (v2 : Int) {b : Int × (List (List Int × Int))} (h : xl09.t2 some xl09.l2 v0 v1 v2 = some b) : xl09.l2 v0 v1 v2 = some b := tOf_intro xl09.un (fun _ => by kernel_rfl) (loopAtL_step ((xl09.k2 v0 v1 v2).trans (xl09.s2 v0 v1 v2 b h)))
end GoV

/- Equations of the program's functions (printed by wip/tools/emit.py). -/
namespace GoV
open Go Go.Proofs
set_option maxRecDepth 100000

noncomputable def laws_markIntS_83f.q2 (v0 : List Int) (v1 : Int) (v2 : Int) : Option R := loopAtL E (callT E tab) 78 Try.f78 2 [.r, .l, .r, .b] (⟨(.val .one), [.d .deep (.sl (.int .i64)) v0], true, false, false, 0, 0⟩ :: vc (iL v1) :: nn 3 (vc (iL v2) :: nn 13 ([])))
noncomputable def laws_markIntS_83f.l2 (v0 : List Int) (v1 : Int) (v2 : Int) : Option (Int × (List Int)) := tOf laws_markIntS_83f.mk (laws_markIntS_83f.q2 v0 v1 v2)
noncomputable def laws_markIntS_83f.t {γ : Type} (ret : (Int × (List Int)) → Option γ) (lp2 : (List Int) → Int → Int → Option γ) (v0 : List Int) (v1 : Int) : Option γ :=
 lp2 (v0) (v1) ((0 : Int))
noncomputable def laws_markIntS_83f.t2 {γ : Type} (ret : (Int × (List Int)) → Option γ) (lp2 : (List Int) → Int → Int → Option γ) (v0 : List Int) (v1 : Int) (v2 : Int) : Option γ :=
 bif decide (v2 < (↑v0.length : Int)) then
  bif decide ((0 : Int) ≤ v2) then
   bif decide (v2.toNat < v0.length) then
    bif decide (v2.toNat < v0.length) then
     lp2 (v0.set v2.toNat v1) (IntKind.i64.wrap (v1 + (1 : Int))) (IntKind.i64.wrap (v2 + (1 : Int)))
    else
     none
   else
    none
  else
   none
 else
  ret (v1, v0)
theorem laws_markIntS_83f.k (v0 : List Int) (v1 : Int) : topL E (callT E tab) 78 Try.f78 (laws_markIntS_83f.c v0 v1) = laws_markIntS_83f.t (fun b => some (laws_markIntS_83f.mk b)) laws_markIntS_83f.q2 v0 v1 := by kernel_rfl
theorem laws_markIntS_83f.k2 (v0 : List Int) (v1 : Int) (v2 : Int) : roundL E (callT E tab) 78 Try.f78 2 [.r, .l, .r, .b] (⟨(.val .one), [.d .deep (.sl (.int .i64)) v0], true, false, false, 0, 0⟩ :: vc (iL v1) :: nn 3 (vc (iL v2) :: nn 13 ([]))) = laws_markIntS_83f.t2 (fun b => some (laws_markIntS_83f.mk b)) laws_markIntS_83f.q2 v0 v1 v2 := by kernel_rfl
theorem laws_markIntS_83f.s (v0 : List Int) (v1 : Int) : Sub laws_markIntS_83f.mk (laws_markIntS_83f.t some laws_markIntS_83f.l2 v0 v1) (laws_markIntS_83f.t (fun b => some (laws_markIntS_83f.mk b)) laws_markIntS_83f.q2 v0 v1) := by
 unfold laws_markIntS_83f.t
 repeat' first | exact Sub.ret | exact Sub.none | exact Sub.loop | apply Sub.cond | (apply Sub.bind; intro _)
theorem laws_markIntS_83f.eq (v0 : List Int) (v1 : Int) {b : Int × (List Int)} (h : laws_markIntS_83f.t some laws_markIntS_83f.l2 v0 v1 = some b) : laws_markIntS_83f v0 v1 = some b := tOf_intro laws_markIntS_83f.un (fun _ => by kernel_rfl) (vlim_fn (callT_le E tab) rfl rfl rfl ((laws_markIntS_83f.k v0 v1).trans (laws_markIntS_83f.s v0 v1 b h)))
theorem laws_markIntS_83f.s2 (v0 : List Int) (v1 : Int) (v2 : Int) : Sub laws_markIntS_83f.mk (laws_markIntS_83f.t2 some laws_markIntS_83f.l2 v0 v1 v2) (laws_markIntS_83f.t2 (fun b => some (laws_markIntS_83f.mk b)) laws_markIntS_83f.q2 v0 v1 v2) := by
 unfold laws_markIntS_83f.t2
 repeat' first | exact Sub.ret | exact Sub.none | exact Sub.loop | apply Sub.cond | (apply Sub.bind; intro _)
theorem laws_markIntS_83f.eq2 (v0 : List Int) (v1 : Int) (v2 : Int) {b : Int × (List Int)} (h : laws_markIntS_83f.t2 some laws_markIntS_83f.l2 v0 v1 v2 = some b) : laws_markIntS_83f.l2 v0 v1 v2 = some b := tOf_intro laws_markIntS_83f.un (fun _ => by kernel_rfl) (loopAtL_step ((laws_markIntS_83f.k2 v0 v1 v2).trans (laws_markIntS_83f.s2 v0 v1 v2 b h)))
noncomputable def laws_heldWeightedS.q2 (v0 : List (List Int × Int)) (v1 : Int) (v2 : Int) : Option R := loopAtL E (callT E tab) 79 Try.f79 2 [.r, .l, .r, .b] (vc (.d .fro (.sl (.pair (.sl (.int .i64)) (.int .i64))) v0) :: vc (iL v1) :: nn 3 (vc (iL v2) :: nn 26 ([])))
noncomputable def laws_heldWeightedS.l2 (v0 : List (List Int × Int)) (v1 : Int) (v2 : Int) : Option (Int) := tOf laws_heldWeightedS.mk (laws_heldWeightedS.q2 v0 v1 v2)
noncomputable def laws_heldWeightedS.t {γ : Type} (ret : (Int) → Option γ) (lp2 : (List (List Int × Int)) → Int → Int → Option γ) (v0 : List (List Int × Int)) (v1 : Int) : Option γ :=
 lp2 (v0) (v1) ((0 : Int))
noncomputable def laws_heldWeightedS.t2 {γ : Type} (ret : (Int) → Option γ) (lp2 : (List (List Int × Int)) → Int → Int → Option γ) (v0 : List (List Int × Int)) (v1 : Int) (v2 : Int) : Option γ :=
 bif decide (v2 < (↑v0.length : Int)) then
  bif decide ((0 : Int) ≤ v2) then
   bif decide (v2.toNat < v0.length) then
    (laws_heldIntS ((v0.getD v2.toNat ([], (0 : Int))).fst) (v1)).bind fun (r0 : Int) =>
    bif decide (r0 < (0 : Int)) then
     ret ((-1 : Int))
    else
     bif decide ((0 : Int) ≤ v2) then
      bif decide (v2.toNat < v0.length) then
       bif (v0.getD v2.toNat ([], (0 : Int))).snd != r0 then
        ret ((-1 : Int))
       else
        lp2 (v0) (IntKind.i64.wrap (r0 + (1 : Int))) (IntKind.i64.wrap (v2 + (1 : Int)))
      else
       none
     else
      none
   else
    none
  else
   none
 else
  ret (v1)
theorem laws_heldWeightedS.k (v0 : List (List Int × Int)) (v1 : Int) : topL E (callT E tab) 79 Try.f79 (laws_heldWeightedS.c v0 v1) = laws_heldWeightedS.t (fun b => some (laws_heldWeightedS.mk b)) laws_heldWeightedS.q2 v0 v1 := by kernel_rfl
theorem laws_heldWeightedS.k2 (v0 : List (List Int × Int)) (v1 : Int) (v2 : Int) : roundL E (callT E tab) 79 Try.f79 2 [.r, .l, .r, .b] (vc (.d .fro (.sl (.pair (.sl (.int .i64)) (.int .i64))) v0) :: vc (iL v1) :: nn 3 (vc (iL v2) :: nn 26 ([]))) = laws_heldWeightedS.t2 (fun b => some (laws_heldWeightedS.mk b)) laws_heldWeightedS.q2 v0 v1 v2 := by kernel_rfl
theorem laws_heldWeightedS.s (v0 : List (List Int × Int)) (v1 : Int) : Sub laws_heldWeightedS.mk (laws_heldWeightedS.t some laws_heldWeightedS.l2 v0 v1) (laws_heldWeightedS.t (fun b => some (laws_heldWeightedS.mk b)) laws_heldWeightedS.q2 v0 v1) := by
 unfold laws_heldWeightedS.t
 repeat' first | exact Sub.ret | exact Sub.none | exact Sub.loop | apply Sub.cond | (apply Sub.bind; intro _)
theorem laws_heldWeightedS.eq (v0 : List (List Int × Int)) (v1 : Int) {b : Int} (h : laws_heldWeightedS.t some laws_heldWeightedS.l2 v0 v1 = some b) : laws_heldWeightedS v0 v1 = some b := tOf_intro laws_heldWeightedS.un (fun _ => by kernel_rfl) (vlim_fn (callT_le E tab) rfl rfl rfl ((laws_heldWeightedS.k v0 v1).trans (laws_heldWeightedS.s v0 v1 b h)))
theorem laws_heldWeightedS.s2 (v0 : List (List Int × Int)) (v1 : Int) (v2 : Int) : Sub laws_heldWeightedS.mk (laws_heldWeightedS.t2 some laws_heldWeightedS.l2 v0 v1 v2) (laws_heldWeightedS.t2 (fun b => some (laws_heldWeightedS.mk b)) laws_heldWeightedS.q2 v0 v1 v2) := by
 unfold laws_heldWeightedS.t2
 repeat' first | exact Sub.ret | exact Sub.none | exact Sub.loop | apply Sub.cond | (apply Sub.bind; intro _)
theorem laws_heldWeightedS.eq2 (v0 : List (List Int × Int)) (v1 : Int) (v2 : Int) {b : Int} (h : laws_heldWeightedS.t2 some laws_heldWeightedS.l2 v0 v1 v2 = some b) : laws_heldWeightedS.l2 v0 v1 v2 = some b := tOf_intro laws_heldWeightedS.un (fun _ => by kernel_rfl) (loopAtL_step ((laws_heldWeightedS.k2 v0 v1 v2).trans (laws_heldWeightedS.s2 v0 v1 v2 b h)))
noncomputable def laws_heldIntS.q2 (v0 : List Int) (v1 : Int) (v2 : Int) : Option R := loopAtL E (callT E tab) 117 Try.f117 2 [.r, .l, .r, .b] (vc (.d .fro (.sl (.int .i64)) v0) :: vc (iL v1) :: nn 3 (vc (iL v2) :: nn 15 ([])))
noncomputable def laws_heldIntS.l2 (v0 : List Int) (v1 : Int) (v2 : Int) : Option (Int) := tOf laws_heldIntS.mk (laws_heldIntS.q2 v0 v1 v2)
noncomputable def laws_heldIntS.t {γ : Type} (ret : (Int) → Option γ) (lp2 : (List Int) → Int → Int → Option γ) (v0 : List Int) (v1 : Int) : Option γ :=
 lp2 (v0) (v1) ((0 : Int))
noncomputable def laws_heldIntS.t2 {γ : Type} (ret : (Int) → Option γ) (lp2 : (List Int) → Int → Int → Option γ) (v0 : List Int) (v1 : Int) (v2 : Int) : Option γ :=
 bif decide (v2 < (↑v0.length : Int)) then
  bif decide ((0 : Int) ≤ v2) then
   bif decide (v2.toNat < v0.length) then
    bif v0.getD v2.toNat (0 : Int) != v1 then
     ret ((-1 : Int))
    else
     lp2 (v0) (IntKind.i64.wrap (v1 + (1 : Int))) (IntKind.i64.wrap (v2 + (1 : Int)))
   else
    none
  else
   none
 else
  ret (v1)
theorem laws_heldIntS.k (v0 : List Int) (v1 : Int) : topL E (callT E tab) 117 Try.f117 (laws_heldIntS.c v0 v1) = laws_heldIntS.t (fun b => some (laws_heldIntS.mk b)) laws_heldIntS.q2 v0 v1 := by kernel_rfl
theorem laws_heldIntS.k2 (v0 : List Int) (v1 : Int) (v2 : Int) : roundL E (callT E tab) 117 Try.f117 2 [.r, .l, .r, .b] (vc (.d .fro (.sl (.int .i64)) v0) :: vc (iL v1) :: nn 3 (vc (iL v2) :: nn 15 ([]))) = laws_heldIntS.t2 (fun b => some (laws_heldIntS.mk b)) laws_heldIntS.q2 v0 v1 v2 := by kernel_rfl
theorem laws_heldIntS.s (v0 : List Int) (v1 : Int) : Sub laws_heldIntS.mk (laws_heldIntS.t some laws_heldIntS.l2 v0 v1) (laws_heldIntS.t (fun b => some (laws_heldIntS.mk b)) laws_heldIntS.q2 v0 v1) := by
 unfold laws_heldIntS.t
 repeat' first | exact Sub.ret | exact Sub.none | exact Sub.loop | apply Sub.cond | (apply Sub.bind; intro _)
theorem laws_heldIntS.eq (v0 : List Int) (v1 : Int) {b : Int} (h : laws_heldIntS.t some laws_heldIntS.l2 v0 v1 = some b) : laws_heldIntS v0 v1 = some b := tOf_intro laws_heldIntS.un (fun _ => by kernel_rfl) (vlim_fn (callT_le E tab) rfl rfl rfl ((laws_heldIntS.k v0 v1).trans (laws_heldIntS.s v0 v1 b h)))
theorem laws_heldIntS.s2 (v0 : List Int) (v1 : Int) (v2 : Int) : Sub laws_heldIntS.mk (laws_heldIntS.t2 some laws_heldIntS.l2 v0 v1 v2) (laws_heldIntS.t2 (fun b => some (laws_heldIntS.mk b)) laws_heldIntS.q2 v0 v1 v2) := by
 unfold laws_heldIntS.t2
 repeat' first | exact Sub.ret | exact Sub.none | exact Sub.loop | apply Sub.cond | (apply Sub.bind; intro _)
theorem laws_heldIntS.eq2 (v0 : List Int) (v1 : Int) (v2 : Int) {b : Int} (h : laws_heldIntS.t2 some laws_heldIntS.l2 v0 v1 v2 = some b) : laws_heldIntS.l2 v0 v1 v2 = some b := tOf_intro laws_heldIntS.un (fun _ => by kernel_rfl) (loopAtL_step ((laws_heldIntS.k2 v0 v1 v2).trans (laws_heldIntS.s2 v0 v1 v2 b h)))
noncomputable def xl08.t {γ : Type} (ret : (Bool) → Option γ) (v0 : Int) (v1 : List (Int × List (List Int × Int))) : Option γ :=
 (laws_szStream (v0) (v1) ((1048576 : Int))).bind fun (r0 : Int) =>
 bif decide (r0 < (0 : Int)) then
  ret (Bool.true)
 else
  (laws_toStream (v0) (v1)).bind fun (r1 : Int × (List (Int × List (List Int × Int)))) =>
  (spec_DelayStream (r1.fst) (r1.snd)).bind fun (r2 : Int × (List (Int × List (List Int × Int))) × Bool) =>
  (laws_toStream (v0) (v1)).bind fun (r3 : Int × (List (Int × List (List Int × Int)))) =>
  (impl_DelayStream (r3.fst) (r3.snd)).bind fun (r4 : Int × (List (Int × List (List Int × Int))) × Bool) =>
  (laws_eqStream (r4.fst) (r4.snd.fst) (r2.fst) (r2.snd.fst)).bind fun (r5 : Bool) =>
  bif !r5 then
   ret (Bool.false)
  else
   bif !r4.snd.snd == r2.snd.snd then
    ret (Bool.false)
   else
    (laws_toStream (v0) (v1)).bind fun (r6 : Int × (List (Int × List (List Int × Int)))) =>
    (laws_eqStream (r3.fst) (r3.snd) (r6.fst) (r6.snd)).bind fun (r7 : Bool) =>
    bif !r7 then
     ret (Bool.false)
    else
     (xl0c (r3.fst) (r3.snd) ((1 : Int))).bind fun (r8 : Int × Int × (List (Int × List (List Int × Int)))) =>
     bif decide (r8.fst < (0 : Int)) then
      ret (Bool.false)
     else
      (laws_eqStream (r4.fst) (r4.snd.fst) (r2.fst) (r2.snd.fst)).bind fun (r9 : Bool) =>
      bif !r9 then
       ret (Bool.false)
      else
       bif !r4.snd.snd == r2.snd.snd then
        ret (Bool.false)
       else
        (xl0c (r4.fst) (r4.snd.fst) ((1 : Int))).bind fun (r10 : Int × Int × (List (Int × List (List Int × Int)))) =>
        (laws_heldStream (r4.fst) (r10.snd.snd) ((1 : Int))).bind fun (r11 : Int) =>
        bif decide (r11 < (0 : Int)) then
         ret (Bool.false)
        else
         bif r11 != r10.fst then
          ret (Bool.false)
         else
          (laws_toStream (v0) (v1)).bind fun (r12 : Int × (List (Int × List (List Int × Int)))) =>
          (impl_DelayStream (r12.fst) (r12.snd)).bind fun (r13 : Int × (List (Int × List (List Int × Int))) × Bool) =>
          (laws_eqStream (r13.fst) (r13.snd.fst) (r2.fst) (r2.snd.fst)).bind fun (r14 : Bool) =>
          bif !r14 then
           ret (Bool.false)
          else
           bif !r13.snd.snd == r2.snd.snd then
            ret (Bool.false)
           else
            (laws_heldStream (r4.fst) (r10.snd.snd) ((1 : Int))).bind fun (r15 : Int) =>
            bif decide (r15 < (0 : Int)) then
             ret (Bool.false)
            else
             bif r15 != r10.fst then
              ret (Bool.false)
             else
              ret (Bool.true)
theorem xl08.k (v0 : Int) (v1 : List (Int × List (List Int × Int))) : topL E (callT E tab) 4 Try.f4 (xl08.c v0 v1) = xl08.t (fun b => some (xl08.mk b)) v0 v1 := by kernel_rfl
theorem xl08.s (v0 : Int) (v1 : List (Int × List (List Int × Int))) : Sub xl08.mk (xl08.t some v0 v1) (xl08.t (fun b => some (xl08.mk b)) v0 v1) := by
 unfold xl08.t
 repeat' first | exact Sub.ret | exact Sub.none | exact Sub.loop | apply Sub.cond | (apply Sub.bind; intro _)
theorem xl08.eq (v0 : Int) (v1 : List (Int × List (List Int × Int))) {b : Bool} (h : xl08.t some v0 v1 = some b) : xl08 v0 v1 = some b := tOf_intro xl08.un (fun _ => by kernel_rfl) (vlim_fn (callT_le E tab) rfl rfl rfl ((xl08.k v0 v1).trans (xl08.s v0 v1 b h)))
noncomputable def laws_szStream.t {γ : Type} (ret : (Int) → Option γ) (v0 : Int) (v1 : List (Int × List (List Int × Int))) (v2 : Int) : Option γ :=
 (laws_szTableS (v1) (v2)).bind fun (r0 : Int) =>
 bif decide (r0 < (0 : Int)) then
  ret ((-1 : Int))
 else
  ret (r0)
theorem laws_szStream.k (v0 : Int) (v1 : List (Int × List (List Int × Int))) (v2 : Int) : topL E (callT E tab) 24 Try.f24 (laws_szStream.c v0 v1 v2) = laws_szStream.t (fun b => some (laws_szStream.mk b)) v0 v1 v2 := by kernel_rfl
theorem laws_szStream.s (v0 : Int) (v1 : List (Int × List (List Int × Int))) (v2 : Int) : Sub laws_szStream.mk (laws_szStream.t some v0 v1 v2) (laws_szStream.t (fun b => some (laws_szStream.mk b)) v0 v1 v2) := by
 unfold laws_szStream.t
 repeat' first | exact Sub.ret | exact Sub.none | exact Sub.loop | apply Sub.cond | (apply Sub.bind; intro _)
theorem laws_szStream.eq (v0 : Int) (v1 : List (Int × List (List Int × Int))) (v2 : Int) {b : Int} (h : laws_szStream.t some v0 v1 v2 = some b) : laws_szStream v0 v1 v2 = some b := tOf_intro laws_szStream.un (fun _ => by kernel_rfl) (vlim_fn (callT_le E tab) rfl rfl rfl ((laws_szStream.k v0 v1 v2).trans (laws_szStream.s v0 v1 v2 b h)))
noncomputable def laws_szTableS.q5 (v0 : List (Int × List (List Int × Int))) (v1 : Int) (v2 : Int) : Option R := loopAtL E (callT E tab) 80 Try.f80 2 [.r, .r, .r, .l, .r, .b] (vc (.d .fro (.sl (.pair (.int .i64) (.sl (.pair (.sl (.int .i64)) (.int .i64))))) v0) :: vc (iL v1) :: nn 3 (vc (iL v2) :: nn 21 ([])))
noncomputable def laws_szTableS.l5 (v0 : List (Int × List (List Int × Int))) (v1 : Int) (v2 : Int) : Option (Int) := tOf laws_szTableS.mk (laws_szTableS.q5 v0 v1 v2)
noncomputable def laws_szTableS.t {γ : Type} (ret : (Int) → Option γ) (lp5 : (List (Int × List (List Int × Int))) → Int → Int → Option γ) (v0 : List (Int × List (List Int × Int))) (v1 : Int) : Option γ :=
 bif decide (IntKind.i64.wrap (v1 - (↑v0.length : Int)) < (0 : Int)) then
  ret ((-1 : Int))
 else
  lp5 (v0) (IntKind.i64.wrap (v1 - (↑v0.length : Int))) ((0 : Int))
noncomputable def laws_szTableS.t5 {γ : Type} (ret : (Int) → Option γ) (lp5 : (List (Int × List (List Int × Int))) → Int → Int → Option γ) (v0 : List (Int × List (List Int × Int))) (v1 : Int) (v2 : Int) : Option γ :=
 bif decide (v2 < (↑v0.length : Int)) then
  bif decide ((0 : Int) ≤ v2) then
   bif decide (v2.toNat < v0.length) then
    (laws_szTable ((v0.getD v2.toNat ((0 : Int), [])).fst) ((v0.getD v2.toNat ((0 : Int), [])).snd) (v1)).bind fun (r0 : Int) =>
    bif decide (r0 < (0 : Int)) then
     ret ((-1 : Int))
    else
     lp5 (v0) (r0) (IntKind.i64.wrap (v2 + (1 : Int)))
   else
    none
  else
   none
 else
  ret (v1)
theorem laws_szTableS.k (v0 : List (Int × List (List Int × Int))) (v1 : Int) : topL E (callT E tab) 80 Try.f80 (laws_szTableS.c v0 v1) = laws_szTableS.t (fun b => some (laws_szTableS.mk b)) laws_szTableS.q5 v0 v1 := by kernel_rfl
theorem laws_szTableS.k5 (v0 : List (Int × List (List Int × Int))) (v1 : Int) (v2 : Int) : roundL E (callT E tab) 80 Try.f80 2 [.r, .r, .r, .l, .r, .b] (vc (.d .fro (.sl (.pair (.int .i64) (.sl (.pair (.sl (.int .i64)) (.int .i64))))) v0) :: vc (iL v1) :: nn 3 (vc (iL v2) :: nn 21 ([]))) = laws_szTableS.t5 (fun b => some (laws_szTableS.mk b)) laws_szTableS.q5 v0 v1 v2 := by kernel_rfl
theorem laws_szTableS.s (v0 : List (Int × List (List Int × Int))) (v1 : Int) : Sub laws_szTableS.mk (laws_szTableS.t some laws_szTableS.l5 v0 v1) (laws_szTableS.t (fun b => some (laws_szTableS.mk b)) laws_szTableS.q5 v0 v1) := by
 unfold laws_szTableS.t
 repeat' first | exact Sub.ret | exact Sub.none | exact Sub.loop | apply Sub.cond | (apply Sub.bind; intro _)
theorem laws_szTableS.eq (v0 : List (Int × List (List Int × Int))) (v1 : Int) {b : Int} (h : laws_szTableS.t some laws_szTableS.l5 v0 v1 = some b) : laws_szTableS v0 v1 = some b := tOf_intro laws_szTableS.un (fun _ => by kernel_rfl) (vlim_fn (callT_le E tab) rfl rfl rfl ((laws_szTableS.k v0 v1).trans (laws_szTableS.s v0 v1 b h)))
theorem laws_szTableS.s5 (v0 : List (Int × List (List Int × Int))) (v1 : Int) (v2 : Int) : Sub laws_szTableS.mk (laws_szTableS.t5 some laws_szTableS.l5 v0 v1 v2) (laws_szTableS.t5 (fun b => some (laws_szTableS.mk b)) laws_szTableS.q5 v0 v1 v2) := by
 unfold laws_szTableS.t5
 repeat' first | exact Sub.ret | exact Sub.none | exact Sub.loop | apply Sub.cond | (apply Sub.bind; intro _)
theorem laws_szTableS.eq5 (v0 : List (Int × List (List Int × Int))) (v1 : Int) (v2 : Int) {b : Int} (h : laws_szTableS.t5 some laws_szTableS.l5 v0 v1 v2 = some b) : laws_szTableS.l5 v0 v1 v2 = some b := tOf_intro laws_szTableS.un (fun _ => by kernel_rfl) (loopAtL_step ((laws_szTableS.k5 v0 v1 v2).trans (laws_szTableS.s5 v0 v1 v2 b h)))
noncomputable def laws_toStream.t {γ : Type} (ret : (Int × (List (Int × List (List Int × Int)))) → Option γ) (v0 : Int) (v1 : List (Int × List (List Int × Int))) : Option γ :=
 (laws_toTableS (v1)).bind fun (r0 : (List (Int × List (List Int × Int)))) =>
 ret (v0, r0)
theorem laws_toStream.k (v0 : Int) (v1 : List (Int × List (List Int × Int))) : topL E (callT E tab) 26 Try.f26 (laws_toStream.c v0 v1) = laws_toStream.t (fun b => some (laws_toStream.mk b)) v0 v1 := by kernel_rfl
theorem laws_toStream.s (v0 : Int) (v1 : List (Int × List (List Int × Int))) : Sub laws_toStream.mk (laws_toStream.t some v0 v1) (laws_toStream.t (fun b => some (laws_toStream.mk b)) v0 v1) := by
 unfold laws_toStream.t
 repeat' first | exact Sub.ret | exact Sub.none | exact Sub.loop | apply Sub.cond | (apply Sub.bind; intro _)
theorem laws_toStream.eq (v0 : Int) (v1 : List (Int × List (List Int × Int))) {b : Int × (List (Int × List (List Int × Int)))} (h : laws_toStream.t some v0 v1 = some b) : laws_toStream v0 v1 = some b := tOf_intro laws_toStream.un (fun _ => by kernel_rfl) (vlim_fn (callT_le E tab) rfl rfl rfl ((laws_toStream.k v0 v1).trans (laws_toStream.s v0 v1 b h)))
noncomputable def laws_toTableS.q3 (v0 : List (Int × List (List Int × Int))) (v1 : List (Int × List (List Int × Int))) (v2 : Int) : Option R := loopAtL E (callT E tab) 83 Try.f83 1 [.r, .r, .l, .r, .b] (vc (.d .fro (.sl (.pair (.int .i64) (.sl (.pair (.sl (.int .i64)) (.int .i64))))) v0) :: nn 2 (vc (.d .deep (.sl (.pair (.int .i64) (.sl (.pair (.sl (.int .i64)) (.int .i64))))) v1) :: vc (iL v2) :: nn 18 ([])))
noncomputable def laws_toTableS.l3 (v0 : List (Int × List (List Int × Int))) (v1 : List (Int × List (List Int × Int))) (v2 : Int) : Option ((List (Int × List (List Int × Int)))) := tOf laws_toTableS.mk (laws_toTableS.q3 v0 v1 v2)
noncomputable def laws_toTableS.t {γ : Type} (ret : ((List (Int × List (List Int × Int)))) → Option γ) (lp3 : (List (Int × List (List Int × Int))) → (List (Int × List (List Int × Int))) → Int → Option γ) (v0 : List (Int × List (List Int × Int))) : Option γ :=
 bif decide ((↑v0.length : Int) = (↑v0.length : Int)) then
  bif decide ((↑v0.length : Int) ≤ (↑(4294967296 : Nat) : Int)) then
   lp3 (v0) (List.replicate (↑v0.length : Int).toNat ((0 : Int), [])) ((0 : Int))
  else
   none
 else
  none
noncomputable def laws_toTableS.t3 {γ : Type} (ret : ((List (Int × List (List Int × Int)))) → Option γ) (lp3 : (List (Int × List (List Int × Int))) → (List (Int × List (List Int × Int))) → Int → Option γ) (v0 : List (Int × List (List Int × Int))) (v1 : List (Int × List (List Int × Int))) (v2 : Int) : Option γ :=
 bif decide (v2 < (↑v0.length : Int)) then
  bif decide ((0 : Int) ≤ v2) then
   bif decide (v2.toNat < v0.length) then
    (laws_toTable ((v0.getD v2.toNat ((0 : Int), [])).fst) ((v0.getD v2.toNat ((0 : Int), [])).snd)).bind fun (r0 : Int × (List (List Int × Int))) =>
    bif decide ((0 : Int) ≤ v2) then
     bif decide (v2.toNat < v1.length) then
      bif decide (v2.toNat < v1.length) then
       lp3 (v0) (v1.set v2.toNat (r0.fst, r0.snd)) (IntKind.i64.wrap (v2 + (1 : Int)))
      else
       none
     else
      none
    else
     none
   else
    none
  else
   none
 else
  ret (v1)
theorem laws_toTableS.k (v0 : List (Int × List (List Int × Int))) : topL E (callT E tab) 83 Try.f83 (laws_toTableS.c v0) = laws_toTableS.t (fun b => some (laws_toTableS.mk b)) laws_toTableS.q3 v0 := by kernel_rfl
theorem laws_toTableS.k3 (v0 : List (Int × List (List Int × Int))) (v1 : List (Int × List (List Int × Int))) (v2 : Int) : roundL E (callT E tab) 83 Try.f83 1 [.r, .r, .l, .r, .b] (vc (.d .fro (.sl (.pair (.int .i64) (.sl (.pair (.sl (.int .i64)) (.int .i64))))) v0) :: nn 2 (vc (.d .deep (.sl (.pair (.int .i64) (.sl (.pair (.sl (.int .i64)) (.int .i64))))) v1) :: vc (iL v2) :: nn 18 ([]))) = laws_toTableS.t3 (fun b => some (laws_toTableS.mk b)) laws_toTableS.q3 v0 v1 v2 := by kernel_rfl
theorem laws_toTableS.s (v0 : List (Int × List (List Int × Int))) : Sub laws_toTableS.mk (laws_toTableS.t some laws_toTableS.l3 v0) (laws_toTableS.t (fun b => some (laws_toTableS.mk b)) laws_toTableS.q3 v0) := by
 unfold laws_toTableS.t
 repeat' first | exact Sub.ret | exact Sub.none | exact Sub.loop | apply Sub.cond | (apply Sub.bind; intro _)
theorem laws_toTableS.eq (v0 : List (Int × List (List Int × Int))) {b : (List (Int × List (List Int × Int)))} (h : laws_toTableS.t some laws_toTableS.l3 v0 = some b) : laws_toTableS v0 = some b := tOf_intro laws_toTableS.un (fun _ => by kernel_rfl) (vlim_fn (callT_le E tab) rfl rfl rfl ((laws_toTableS.k v0).trans (laws_toTableS.s v0 b h)))
theorem laws_toTableS.s3 (v0 : List (Int × List (List Int × Int))) (v1 : List (Int × List (List Int × Int))) (v2 : Int) : Sub laws_toTableS.mk (laws_toTableS.t3 some laws_toTableS.l3 v0 v1 v2) (laws_toTableS.t3 (fun b => some (laws_toTableS.mk b)) laws_toTableS.q3 v0 v1 v2) := by
 unfold laws_toTableS.t3
 repeat' first | exact Sub.ret | exact Sub.none | exact Sub.loop | apply Sub.cond | (apply Sub.bind; intro _)
theorem laws_toTableS.eq3 (v0 : List (Int × List (List Int × Int))) (v1 : List (Int × List (List Int × Int))) (v2 : Int) {b : (List (Int × List (List Int × Int)))} (h : laws_toTableS.t3 some laws_toTableS.l3 v0 v1 v2 = some b) : laws_toTableS.l3 v0 v1 v2 = some b := tOf_intro laws_toTableS.un (fun _ => by kernel_rfl) (loopAtL_step ((laws_toTableS.k3 v0 v1 v2).trans (laws_toTableS.s3 v0 v1 v2 b h)))
noncomputable def spec_DelayStream.q5 (v0 : Int) (v1 : List (Int × List (List Int × Int))) (v2 : Int) (v3 : List (Int × List (List Int × Int))) (v4 : List (List (List Int × Int))) (v5 : Int) (v6 : Int) : Option R := loopAtL E (callT E tab) 25 Try.f25 1 [.r, .r, .r, .l, .r, .b] (nn 1 (⟨(.box false), [iL v0, .d .fro (.sl (.pair (.int .i64) (.sl (.pair (.sl (.int .i64)) (.int .i64))))) v1], false, false, false, 0, 0⟩ :: ⟨(.box false), [iL v2, .d .deep (.sl (.pair (.int .i64) (.sl (.pair (.sl (.int .i64)) (.int .i64))))) v3], false, false, false, 0, 0⟩ :: nn 1 (vc (.d .sha (.sl (.sl (.pair (.sl (.int .i64)) (.int .i64)))) v4) :: nn 7 (vc (iL v5) :: vc (iL v6) :: nn 24 ([])))))
noncomputable def spec_DelayStream.l5 (v0 : Int) (v1 : List (Int × List (List Int × Int))) (v2 : Int) (v3 : List (Int × List (List Int × Int))) (v4 : List (List (List Int × Int))) (v5 : Int) (v6 : Int) : Option (Int × (List (Int × List (List Int × Int))) × Bool) := tOf spec_DelayStream.mk (spec_DelayStream.q5 v0 v1 v2 v3 v4 v5 v6)
noncomputable def spec_DelayStream.t {γ : Type} (ret : (Int × (List (Int × List (List Int × Int))) × Bool) → Option γ) (lp5 : Int → (List (Int × List (List Int × Int))) → Int → (List (Int × List (List Int × Int))) → (List (List (List Int × Int))) → Int → Int → Option γ) (v0 : Int) (v1 : List (Int × List (List Int × Int))) : Option γ :=
 (spec_GoodStream (v0) (v1)).bind fun (r0 : Bool) =>
 bif !r0 then
  ret ((0 : Int), [], Bool.false)
 else
  lp5 (v0) (v1) ((0 : Int)) ([]) ([]) ((↑v1.length : Int)) ((0 : Int))
noncomputable def spec_DelayStream.t5 {γ : Type} (ret : (Int × (List (Int × List (List Int × Int))) × Bool) → Option γ) (lp5 : Int → (List (Int × List (List Int × Int))) → Int → (List (Int × List (List Int × Int))) → (List (List (List Int × Int))) → Int → Int → Option γ) (v0 : Int) (v1 : List (Int × List (List Int × Int))) (v2 : Int) (v3 : List (Int × List (List Int × Int))) (v4 : List (List (List Int × Int))) (v5 : Int) (v6 : Int) : Option γ :=
 bif decide (v6 < v5) then
  bif v6 == (0 : Int) then
   bif decide (v4.length + (1 : Nat) ≤ (4294967296 : Nat)) then
    lp5 (v0) (v1) (v2) (v3) (v4 ++ [[]]) (v5) (IntKind.i64.wrap (v6 + (1 : Int)))
   else
    none
  else
   bif decide ((0 : Int) ≤ IntKind.i64.wrap (v6 - (1 : Int))) then
    bif decide ((IntKind.i64.wrap (v6 - (1 : Int))).toNat < v1.length) then
     bif decide   (v4.length + [(v1.getD (IntKind.i64.wrap (v6 - (1 : Int))).toNat ((0 : Int), [])).snd].length ≤ (4294967296 : Nat)) then
      lp5 (v0) (v1) (v2) (v3) (v4 ++ [(v1.getD (IntKind.i64.wrap (v6 - (1 : Int))).toNat ((0 : Int), [])).snd]) (v5) (IntKind.i64.wrap (v6 + (1 : Int)))
     else
      none
    else
     none
   else
    none
 else
  (spec_l4Stream (v0) (v4)).bind fun (r1 : Int × (List (Int × List (List Int × Int))) × Bool) =>
  ret (r1.fst, r1.snd.fst, r1.snd.snd)
theorem spec_DelayStream.k (v0 : Int) (v1 : List (Int × List (List Int × Int))) : topL E (callT E tab) 25 Try.f25 (spec_DelayStream.c v0 v1) = spec_DelayStream.t (fun b => some (spec_DelayStream.mk b)) spec_DelayStream.q5 v0 v1 := by kernel_rfl
theorem spec_DelayStream.k5 (v0 : Int) (v1 : List (Int × List (List Int × Int))) (v2 : Int) (v3 : List (Int × List (List Int × Int))) (v4 : List (List (List Int × Int))) (v5 : Int) (v6 : Int) : roundL E (callT E tab) 25 Try.f25 1 [.r, .r, .r, .l, .r, .b] (nn 1 (⟨(.box false), [iL v0, .d .fro (.sl (.pair (.int .i64) (.sl (.pair (.sl (.int .i64)) (.int .i64))))) v1], false, false, false, 0, 0⟩ :: ⟨(.box false), [iL v2, .d .deep (.sl (.pair (.int .i64) (.sl (.pair (.sl (.int .i64)) (.int .i64))))) v3], false, false, false, 0, 0⟩ :: nn 1 (vc (.d .sha (.sl (.sl (.pair (.sl (.int .i64)) (.int .i64)))) v4) :: nn 7 (vc (iL v5) :: vc (iL v6) :: nn 24 ([]))))) = spec_DelayStream.t5 (fun b => some (spec_DelayStream.mk b)) spec_DelayStream.q5 v0 v1 v2 v3 v4 v5 v6 := by kernel_rfl
theorem spec_DelayStream.s (v0 : Int) (v1 : List (Int × List (List Int × Int))) : Sub spec_DelayStream.mk (spec_DelayStream.t some spec_DelayStream.l5 v0 v1) (spec_DelayStream.t (fun b => some (spec_DelayStream.mk b)) spec_DelayStream.q5 v0 v1) := by
 unfold spec_DelayStream.t
 repeat' first | exact Sub.ret | exact Sub.none | exact Sub.loop | apply Sub.cond | (apply Sub.bind; intro _)
theorem spec_DelayStream.eq (v0 : Int) (v1 : List (Int × List (List Int × Int))) {b : Int × (List (Int × List (List Int × Int))) × Bool} (h : spec_DelayStream.t some spec_DelayStream.l5 v0 v1 = some b) : spec_DelayStream v0 v1 = some b := tOf_intro spec_DelayStream.un (fun _ => by kernel_rfl) (vlim_fn (callT_le E tab) rfl rfl rfl ((spec_DelayStream.k v0 v1).trans (spec_DelayStream.s v0 v1 b h)))
theorem spec_DelayStream.s5 (v0 : Int) (v1 : List (Int × List (List Int × Int))) (v2 : Int) (v3 : List (Int × List (List Int × Int))) (v4 : List (List (List Int × Int))) (v5 : Int) (v6 : Int) : Sub spec_DelayStream.mk (spec_DelayStream.t5 some spec_DelayStream.l5 v0 v1 v2 v3 v4 v5 v6) (spec_DelayStream.t5 (fun b => some (spec_DelayStream.mk b)) spec_DelayStream.q5 v0 v1 v2 v3 v4 v5 v6) := by
 unfold spec_DelayStream.t5
 repeat' first | exact Sub.ret | exact Sub.none | exact Sub.loop | apply Sub.cond | (apply Sub.bind; intro _)
theorem spec_DelayStream.eq5 (v0 : Int) (v1 : List (Int × List (List Int × Int))) (v2 : Int) (v3 : List (Int × List (List Int × Int))) (v4 : List (List (List Int × Int))) (v5 : Int) (v6 : Int) {b : Int × (List (Int × List (List Int × Int))) × Bool} (h : spec_DelayStream.t5 some spec_DelayStream.l5 v0 v1 v2 v3 v4 v5 v6 = some b) : spec_DelayStream.l5 v0 v1 v2 v3 v4 v5 v6 = some b := tOf_intro spec_DelayStream.un (fun _ => by kernel_rfl) (loopAtL_step ((spec_DelayStream.k5 v0 v1 v2 v3 v4 v5 v6).trans (spec_DelayStream.s5 v0 v1 v2 v3 v4 v5 v6 b h)))
noncomputable def spec_GoodStream.q2 (v0 : Int) (v1 : List (Int × List (List Int × Int))) (v2 : List (Int × List (List Int × Int))) (v3 : Int) (v4 : Int) : Option R := loopAtL E (callT E tab) 81 Try.f81 1 [.r, .l, .r, .b] (nn 1 (⟨(.box false), [iL v0, .d .fro (.sl (.pair (.int .i64) (.sl (.pair (.sl (.int .i64)) (.int .i64))))) v1], false, false, false, 0, 0⟩ :: nn 4 (vc (.d .fro (.sl (.pair (.int .i64) (.sl (.pair (.sl (.int .i64)) (.int .i64))))) v2) :: vc (iL v3) :: vc (iL v4) :: nn 23 ([]))))
noncomputable def spec_GoodStream.l2 (v0 : Int) (v1 : List (Int × List (List Int × Int))) (v2 : List (Int × List (List Int × Int))) (v3 : Int) (v4 : Int) : Option (Bool) := tOf spec_GoodStream.mk (spec_GoodStream.q2 v0 v1 v2 v3 v4)
noncomputable def spec_GoodStream.t {γ : Type} (ret : (Bool) → Option γ) (lp2 : Int → (List (Int × List (List Int × Int))) → (List (Int × List (List Int × Int))) → Int → Int → Option γ) (v0 : Int) (v1 : List (Int × List (List Int × Int))) : Option γ :=
 lp2 (v0) (v1) (v1) ((↑v1.length : Int)) ((0 : Int))
noncomputable def spec_GoodStream.t2 {γ : Type} (ret : (Bool) → Option γ) (lp2 : Int → (List (Int × List (List Int × Int))) → (List (Int × List (List Int × Int))) → Int → Int → Option γ) (v0 : Int) (v1 : List (Int × List (List Int × Int))) (v2 : List (Int × List (List Int × Int))) (v3 : Int) (v4 : Int) : Option γ :=
 bif decide (v4 < v3) then
  bif decide ((0 : Int) ≤ v4) then
   bif decide (v4.toNat < v2.length) then
    (spec_GoodTable ((v2.getD v4.toNat ((0 : Int), [])).fst) ((v2.getD v4.toNat ((0 : Int), [])).snd)).bind fun (r0 : Bool) =>
    bif !r0 then
     ret (Bool.false)
    else
     bif (v2.getD v4.toNat ((0 : Int), [])).fst != v0 then
      ret (Bool.false)
     else
      lp2 (v0) (v1) (v2) (v3) (IntKind.i64.wrap (v4 + (1 : Int)))
   else
    none
  else
   none
 else
  (spec_l1In (v0) ((0 : Int)) ((6 : Int))).bind fun (r1 : Bool) =>
  bif r1 then
   ret (decide ((↑v1.length : Int) ≤ (12 : Int)))
  else
   ret (Bool.false)
theorem spec_GoodStream.k (v0 : Int) (v1 : List (Int × List (List Int × Int))) : topL E (callT E tab) 81 Try.f81 (spec_GoodStream.c v0 v1) = spec_GoodStream.t (fun b => some (spec_GoodStream.mk b)) spec_GoodStream.q2 v0 v1 := by kernel_rfl
theorem spec_GoodStream.k2 (v0 : Int) (v1 : List (Int × List (List Int × Int))) (v2 : List (Int × List (List Int × Int))) (v3 : Int) (v4 : Int) : roundL E (callT E tab) 81 Try.f81 1 [.r, .l, .r, .b] (nn 1 (⟨(.box false), [iL v0, .d .fro (.sl (.pair (.int .i64) (.sl (.pair (.sl (.int .i64)) (.int .i64))))) v1], false, false, false, 0, 0⟩ :: nn 4 (vc (.d .fro (.sl (.pair (.int .i64) (.sl (.pair (.sl (.int .i64)) (.int .i64))))) v2) :: vc (iL v3) :: vc (iL v4) :: nn 23 ([])))) = spec_GoodStream.t2 (fun b => some (spec_GoodStream.mk b)) spec_GoodStream.q2 v0 v1 v2 v3 v4 := by kernel_rfl
theorem spec_GoodStream.s (v0 : Int) (v1 : List (Int × List (List Int × Int))) : Sub spec_GoodStream.mk (spec_GoodStream.t some spec_GoodStream.l2 v0 v1) (spec_GoodStream.t (fun b => some (spec_GoodStream.mk b)) spec_GoodStream.q2 v0 v1) := by
 unfold spec_GoodStream.t
 repeat' first | exact Sub.ret | exact Sub.none | exact Sub.loop | apply Sub.cond | (apply Sub.bind; intro _)
theorem spec_GoodStream.eq (v0 : Int) (v1 : List (Int × List (List Int × Int))) {b : Bool} (h : spec_GoodStream.t some spec_GoodStream.l2 v0 v1 = some b) : spec_GoodStream v0 v1 = some b := tOf_intro spec_GoodStream.un (fun _ => by kernel_rfl) (vlim_fn (callT_le E tab) rfl rfl rfl ((spec_GoodStream.k v0 v1).trans (spec_GoodStream.s v0 v1 b h)))
theorem spec_GoodStream.s2 (v0 : Int) (v1 : List (Int × List (List Int × Int))) (v2 : List (Int × List (List Int × Int))) (v3 : Int) (v4 : Int) : Sub spec_GoodStream.mk (spec_GoodStream.t2 some spec_GoodStream.l2 v0 v1 v2 v3 v4) (spec_GoodStream.t2 (fun b => some (spec_GoodStream.mk b)) spec_GoodStream.q2 v0 v1 v2 v3 v4) := by
 unfold spec_GoodStream.t2
 repeat' first | exact Sub.ret | exact Sub.none | exact Sub.loop | apply Sub.cond | (apply Sub.bind; intro _)
theorem spec_GoodStream.eq2 (v0 : Int) (v1 : List (Int × List (List Int × Int))) (v2 : List (Int × List (List Int × Int))) (v3 : Int) (v4 : Int) {b : Bool} (h : spec_GoodStream.t2 some spec_GoodStream.l2 v0 v1 v2 v3 v4 = some b) : spec_GoodStream.l2 v0 v1 v2 v3 v4 = some b := tOf_intro spec_GoodStream.un (fun _ => by kernel_rfl) (loopAtL_step ((spec_GoodStream.k2 v0 v1 v2 v3 v4).trans (spec_GoodStream.s2 v0 v1 v2 v3 v4 b h)))
noncomputable def spec_l4Stream.q3 (v0 : Int) (v1 : Int) (v2 : List (Int × List (List Int × Int))) (v3 : Int) (v4 : List (Int × List (List Int × Int))) (v5 : List (List (List Int × Int))) (v6 : Int) (v7 : Int) : Option R := loopAtL E (callT E tab) 82 Try.f82 2 [.r, .r, .l, .r, .b] (vc (iL v0) :: nn 3 (⟨(.box false), [iL v1, .d .deep (.sl (.pair (.int .i64) (.sl (.pair (.sl (.int .i64)) (.int .i64))))) v2], false, false, false, 0, 0⟩ :: nn 1 (⟨(.box false), [iL v3, .d .deep (.sl (.pair (.int .i64) (.sl (.pair (.sl (.int .i64)) (.int .i64))))) v4], false, false, false, 0, 0⟩ :: nn 6 (vc (.d .fro (.sl (.sl (.pair (.sl (.int .i64)) (.int .i64)))) v5) :: vc (iL v6) :: vc (iL v7) :: nn 20 ([])))))
noncomputable def spec_l4Stream.l3 (v0 : Int) (v1 : Int) (v2 : List (Int × List (List Int × Int))) (v3 : Int) (v4 : List (Int × List (List Int × Int))) (v5 : List (List (List Int × Int))) (v6 : Int) (v7 : Int) : Option (Int × (List (Int × List (List Int × Int))) × Bool) := tOf spec_l4Stream.mk (spec_l4Stream.q3 v0 v1 v2 v3 v4 v5 v6 v7)
noncomputable def spec_l4Stream.t {γ : Type} (ret : (Int × (List (Int × List (List Int × Int))) × Bool) → Option γ) (lp3 : Int → Int → (List (Int × List (List Int × Int))) → Int → (List (Int × List (List Int × Int))) → (List (List (List Int × Int))) → Int → Int → Option γ) (v0 : Int) (v1 : List (List (List Int × Int))) : Option γ :=
 lp3 (v0) ((0 : Int)) ([]) (v0) ([]) (v1) ((↑v1.length : Int)) ((0 : Int))
noncomputable def spec_l4Stream.t3 {γ : Type} (ret : (Int × (List (Int × List (List Int × Int))) × Bool) → Option γ) (lp3 : Int → Int → (List (Int × List (List Int × Int))) → Int → (List (Int × List (List Int × Int))) → (List (List (List Int × Int))) → Int → Int → Option γ) (v0 : Int) (v1 : Int) (v2 : List (Int × List (List Int × Int))) (v3 : Int) (v4 : List (Int × List (List Int × Int))) (v5 : List (List (List Int × Int))) (v6 : Int) (v7 : Int) : Option γ :=
 bif decide (v7 < v6) then
  bif decide ((0 : Int) ≤ v7) then
   bif decide (v7.toNat < v5.length) then
    (spec_l2Tell (v0) (v5.getD v7.toNat [])).bind fun (r0 : Int × (List (List Int × Int)) × Bool) =>
    bif !r0.snd.snd then
     ret ((0 : Int), [], Bool.false)
    else
     bif decide (v4.length + [(r0.fst, r0.snd.fst)].length ≤ (4294967296 : Nat)) then
      lp3 (v0) (v1) (v2) (v3) (v4 ++ [(r0.fst, r0.snd.fst)]) (v5) (v6) (IntKind.i64.wrap (v7 + (1 : Int)))
     else
      none
   else
    none
  else
   none
 else
  ret (v3, v4, Bool.true)
theorem spec_l4Stream.k (v0 : Int) (v1 : List (List (List Int × Int))) : topL E (callT E tab) 82 Try.f82 (spec_l4Stream.c v0 v1) = spec_l4Stream.t (fun b => some (spec_l4Stream.mk b)) spec_l4Stream.q3 v0 v1 := by kernel_rfl
theorem spec_l4Stream.k3 (v0 : Int) (v1 : Int) (v2 : List (Int × List (List Int × Int))) (v3 : Int) (v4 : List (Int × List (List Int × Int))) (v5 : List (List (List Int × Int))) (v6 : Int) (v7 : Int) : roundL E (callT E tab) 82 Try.f82 2 [.r, .r, .l, .r, .b] (vc (iL v0) :: nn 3 (⟨(.box false), [iL v1, .d .deep (.sl (.pair (.int .i64) (.sl (.pair (.sl (.int .i64)) (.int .i64))))) v2], false, false, false, 0, 0⟩ :: nn 1 (⟨(.box false), [iL v3, .d .deep (.sl (.pair (.int .i64) (.sl (.pair (.sl (.int .i64)) (.int .i64))))) v4], false, false, false, 0, 0⟩ :: nn 6 (vc (.d .fro (.sl (.sl (.pair (.sl (.int .i64)) (.int .i64)))) v5) :: vc (iL v6) :: vc (iL v7) :: nn 20 ([]))))) = spec_l4Stream.t3 (fun b => some (spec_l4Stream.mk b)) spec_l4Stream.q3 v0 v1 v2 v3 v4 v5 v6 v7 := by kernel_rfl
theorem spec_l4Stream.s (v0 : Int) (v1 : List (List (List Int × Int))) : Sub spec_l4Stream.mk (spec_l4Stream.t some spec_l4Stream.l3 v0 v1) (spec_l4Stream.t (fun b => some (spec_l4Stream.mk b)) spec_l4Stream.q3 v0 v1) := by
 unfold spec_l4Stream.t
 repeat' first | exact Sub.ret | exact Sub.none | exact Sub.loop | apply Sub.cond | (apply Sub.bind; intro _)
theorem spec_l4Stream.eq (v0 : Int) (v1 : List (List (List Int × Int))) {b : Int × (List (Int × List (List Int × Int))) × Bool} (h : spec_l4Stream.t some spec_l4Stream.l3 v0 v1 = some b) : spec_l4Stream v0 v1 = some b := tOf_intro spec_l4Stream.un (fun _ => by kernel_rfl) (vlim_fn (callT_le E tab) rfl rfl rfl ((spec_l4Stream.k v0 v1).trans (spec_l4Stream.s v0 v1 b h)))
theorem spec_l4Stream.s3 (v0 : Int) (v1 : Int) (v2 : List (Int × List (List Int × Int))) (v3 : Int) (v4 : List (Int × List (List Int × Int))) (v5 : List (List (List Int × Int))) (v6 : Int) (v7 : Int) : Sub spec_l4Stream.mk (spec_l4Stream.t3 some spec_l4Stream.l3 v0 v1 v2 v3 v4 v5 v6 v7) (spec_l4Stream.t3 (fun b => some (spec_l4Stream.mk b)) spec_l4Stream.q3 v0 v1 v2 v3 v4 v5 v6 v7) := by
 unfold spec_l4Stream.t3
 repeat' first | exact Sub.ret | exact Sub.none | exact Sub.loop | apply Sub.cond | (apply Sub.bind; intro _)
theorem spec_l4Stream.eq3 (v0 : Int) (v1 : Int) (v2 : List (Int × List (List Int × Int))) (v3 : Int) (v4 : List (Int × List (List Int × Int))) (v5 : List (List (List Int × Int))) (v6 : Int) (v7 : Int) {b : Int × (List (Int × List (List Int × Int))) × Bool} (h : spec_l4Stream.t3 some spec_l4Stream.l3 v0 v1 v2 v3 v4 v5 v6 v7 = some b) : spec_l4Stream.l3 v0 v1 v2 v3 v4 v5 v6 v7 = some b := tOf_intro spec_l4Stream.un (fun _ => by kernel_rfl) (loopAtL_step ((spec_l4Stream.k3 v0 v1 v2 v3 v4 v5 v6 v7).trans (spec_l4Stream.s3 v0 v1 v2 v3 v4 v5 v6 v7 b h)))
noncomputable def impl_DelayStream.q5 (v0 : Int) (v1 : List (Int × List (List Int × Int))) (v2 : Int) (v3 : List (Int × List (List Int × Int))) (v4 : Int) (v5 : List (List Int × Int)) (v6 : List (Int × List (List Int × Int))) (v7 : Int) (v8 : Int) : Option R := loopAtL E (callT E tab) 27 Try.f27 1 [.r, .r, .r, .l, .r, .b] (nn 2 (⟨(.box false), [iL v0, .d .deep (.sl (.pair (.int .i64) (.sl (.pair (.sl (.int .i64)) (.int .i64))))) v1], false, false, false, 0, 0⟩ :: nn 1 (⟨(.box false), [iL v2, .d .deep (.sl (.pair (.int .i64) (.sl (.pair (.sl (.int .i64)) (.int .i64))))) v3], false, false, false, 0, 0⟩ :: ⟨(.box false), [iL v4, .d .fro (.sl (.pair (.sl (.int .i64)) (.int .i64))) v5], false, false, false, 0, 0⟩ :: nn 13 (vc (.d .fro (.sl (.pair (.int .i64) (.sl (.pair (.sl (.int .i64)) (.int .i64))))) v6) :: vc (iL v7) :: vc (iL v8) :: nn 13 ([])))))
noncomputable def impl_DelayStream.l5 (v0 : Int) (v1 : List (Int × List (List Int × Int))) (v2 : Int) (v3 : List (Int × List (List Int × Int))) (v4 : Int) (v5 : List (List Int × Int)) (v6 : List (Int × List (List Int × Int))) (v7 : Int) (v8 : Int) : Option (Int × (List (Int × List (List Int × Int))) × Bool) := tOf impl_DelayStream.mk (impl_DelayStream.q5 v0 v1 v2 v3 v4 v5 v6 v7 v8)
noncomputable def impl_DelayStream.t {γ : Type} (ret : (Int × (List (Int × List (List Int × Int))) × Bool) → Option γ) (lp5 : Int → (List (Int × List (List Int × Int))) → Int → (List (Int × List (List Int × Int))) → Int → (List (List Int × Int)) → (List (Int × List (List Int × Int))) → Int → Int → Option γ) (v0 : Int) (v1 : List (Int × List (List Int × Int))) : Option γ :=
 (impl_GoodStream (v0) (v1)).bind fun (r0 : Bool) =>
 bif !r0 then
  ret ((0 : Int), [], Bool.false)
 else
  lp5 ((0 : Int)) ([]) (v0) ([]) (v0) ([]) (v1) ((↑v1.length : Int)) ((0 : Int))
noncomputable def impl_DelayStream.t5 {γ : Type} (ret : (Int × (List (Int × List (List Int × Int))) × Bool) → Option γ) (lp5 : Int → (List (Int × List (List Int × Int))) → Int → (List (Int × List (List Int × Int))) → Int → (List (List Int × Int)) → (List (Int × List (List Int × Int))) → Int → Int → Option γ) (v0 : Int) (v1 : List (Int × List (List Int × Int))) (v2 : Int) (v3 : List (Int × List (List Int × Int))) (v4 : Int) (v5 : List (List Int × Int)) (v6 : List (Int × List (List Int × Int))) (v7 : Int) (v8 : Int) : Option γ :=
 bif decide (v8 < v7) then
  bif decide ((0 : Int) ≤ v8) then
   bif decide (v8.toNat < v6.length) then
    (impl_Table_scaled (v4) (v5) ((1 : Int))).bind fun (r1 : Int × (List (List Int × Int))) =>
    bif decide (v3.length + [(r1.fst, r1.snd)].length ≤ (4294967296 : Nat)) then
     lp5 (v0) (v1) (v2) (v3 ++ [(r1.fst, r1.snd)]) ((v6.getD v8.toNat ((0 : Int), [])).fst) ((v6.getD v8.toNat ((0 : Int), [])).snd) (v6) (v7) (IntKind.i64.wrap (v8 + (1 : Int)))
    else
     none
   else
    none
  else
   none
 else
  ret (v2, v3, Bool.true)
theorem impl_DelayStream.k (v0 : Int) (v1 : List (Int × List (List Int × Int))) : topL E (callT E tab) 27 Try.f27 (impl_DelayStream.c v0 v1) = impl_DelayStream.t (fun b => some (impl_DelayStream.mk b)) impl_DelayStream.q5 v0 v1 := by kernel_rfl
theorem impl_DelayStream.k5 (v0 : Int) (v1 : List (Int × List (List Int × Int))) (v2 : Int) (v3 : List (Int × List (List Int × Int))) (v4 : Int) (v5 : List (List Int × Int)) (v6 : List (Int × List (List Int × Int))) (v7 : Int) (v8 : Int) : roundL E (callT E tab) 27 Try.f27 1 [.r, .r, .r, .l, .r, .b] (nn 2 (⟨(.box false), [iL v0, .d .deep (.sl (.pair (.int .i64) (.sl (.pair (.sl (.int .i64)) (.int .i64))))) v1], false, false, false, 0, 0⟩ :: nn 1 (⟨(.box false), [iL v2, .d .deep (.sl (.pair (.int .i64) (.sl (.pair (.sl (.int .i64)) (.int .i64))))) v3], false, false, false, 0, 0⟩ :: ⟨(.box false), [iL v4, .d .fro (.sl (.pair (.sl (.int .i64)) (.int .i64))) v5], false, false, false, 0, 0⟩ :: nn 13 (vc (.d .fro (.sl (.pair (.int .i64) (.sl (.pair (.sl (.int .i64)) (.int .i64))))) v6) :: vc (iL v7) :: vc (iL v8) :: nn 13 ([]))))) = impl_DelayStream.t5 (fun b => some (impl_DelayStream.mk b)) impl_DelayStream.q5 v0 v1 v2 v3 v4 v5 v6 v7 v8 := by kernel_rfl
theorem impl_DelayStream.s (v0 : Int) (v1 : List (Int × List (List Int × Int))) : Sub impl_DelayStream.mk (impl_DelayStream.t some impl_DelayStream.l5 v0 v1) (impl_DelayStream.t (fun b => some (impl_DelayStream.mk b)) impl_DelayStream.q5 v0 v1) := by
 unfold impl_DelayStream.t
 repeat' first | exact Sub.ret | exact Sub.none | exact Sub.loop | apply Sub.cond | (apply Sub.bind; intro _)
theorem impl_DelayStream.eq (v0 : Int) (v1 : List (Int × List (List Int × Int))) {b : Int × (List (Int × List (List Int × Int))) × Bool} (h : impl_DelayStream.t some impl_DelayStream.l5 v0 v1 = some b) : impl_DelayStream v0 v1 = some b := tOf_intro impl_DelayStream.un (fun _ => by kernel_rfl) (vlim_fn (callT_le E tab) rfl rfl rfl ((impl_DelayStream.k v0 v1).trans (impl_DelayStream.s v0 v1 b h)))
theorem impl_DelayStream.s5 (v0 : Int) (v1 : List (Int × List (List Int × Int))) (v2 : Int) (v3 : List (Int × List (List Int × Int))) (v4 : Int) (v5 : List (List Int × Int)) (v6 : List (Int × List (List Int × Int))) (v7 : Int) (v8 : Int) : Sub impl_DelayStream.mk (impl_DelayStream.t5 some impl_DelayStream.l5 v0 v1 v2 v3 v4 v5 v6 v7 v8) (impl_DelayStream.t5 (fun b => some (impl_DelayStream.mk b)) impl_DelayStream.q5 v0 v1 v2 v3 v4 v5 v6 v7 v8) := by
 unfold impl_DelayStream.t5
 repeat' first | exact Sub.ret | exact Sub.none | exact Sub.loop | apply Sub.cond | (apply Sub.bind; intro _)
theorem impl_DelayStream.eq5 (v0 : Int) (v1 : List (Int × List (List Int × Int))) (v2 : Int) (v3 : List (Int × List (List Int × Int))) (v4 : Int) (v5 : List (List Int × Int)) (v6 : List (Int × List (List Int × Int))) (v7 : Int) (v8 : Int) {b : Int × (List (Int × List (List Int × Int))) × Bool} (h : impl_DelayStream.t5 some impl_DelayStream.l5 v0 v1 v2 v3 v4 v5 v6 v7 v8 = some b) : impl_DelayStream.l5 v0 v1 v2 v3 v4 v5 v6 v7 v8 = some b := tOf_intro impl_DelayStream.un (fun _ => by kernel_rfl) (loopAtL_step ((impl_DelayStream.k5 v0 v1 v2 v3 v4 v5 v6 v7 v8).trans (impl_DelayStream.s5 v0 v1 v2 v3 v4 v5 v6 v7 v8 b h)))
noncomputable def impl_GoodStream.t {γ : Type} (ret : (Bool) → Option γ) (v0 : Int) (v1 : List (Int × List (List Int × Int))) : Option γ :=
 (impl_isColumns (v0)).bind fun (r0 : Bool) =>
 bif r0 then
  bif decide ((↑v1.length : Int) ≤ (12 : Int)) then
   (xi05 (v1) (v0) (v1)).bind fun (r1 : Bool) =>
   ret (r1)
  else
   ret (Bool.false)
 else
  ret (Bool.false)
theorem impl_GoodStream.k (v0 : Int) (v1 : List (Int × List (List Int × Int))) : topL E (callT E tab) 84 Try.f84 (impl_GoodStream.c v0 v1) = impl_GoodStream.t (fun b => some (impl_GoodStream.mk b)) v0 v1 := by kernel_rfl
theorem impl_GoodStream.s (v0 : Int) (v1 : List (Int × List (List Int × Int))) : Sub impl_GoodStream.mk (impl_GoodStream.t some v0 v1) (impl_GoodStream.t (fun b => some (impl_GoodStream.mk b)) v0 v1) := by
 unfold impl_GoodStream.t
 repeat' first | exact Sub.ret | exact Sub.none | exact Sub.loop | apply Sub.cond | (apply Sub.bind; intro _)
theorem impl_GoodStream.eq (v0 : Int) (v1 : List (Int × List (List Int × Int))) {b : Bool} (h : impl_GoodStream.t some v0 v1 = some b) : impl_GoodStream v0 v1 = some b := tOf_intro impl_GoodStream.un (fun _ => by kernel_rfl) (vlim_fn (callT_le E tab) rfl rfl rfl ((impl_GoodStream.k v0 v1).trans (impl_GoodStream.s v0 v1 b h)))
noncomputable def xi05.t {γ : Type} (ret : (Bool) → Option γ) (v0 : List (Int × List (List Int × Int))) (v1 : Int) (v2 : List (Int × List (List Int × Int))) : Option γ :=
 (xs00 (v0) (v1) (v2)).bind fun (r0 : Bool) =>
 ret (!r0)
theorem xi05.k (v0 : List (Int × List (List Int × Int))) (v1 : Int) (v2 : List (Int × List (List Int × Int))) : topL E (callT E tab) 150 Try.f150 (xi05.c v0 v1 v2) = xi05.t (fun b => some (xi05.mk b)) v0 v1 v2 := by kernel_rfl
theorem xi05.s (v0 : List (Int × List (List Int × Int))) (v1 : Int) (v2 : List (Int × List (List Int × Int))) : Sub xi05.mk (xi05.t some v0 v1 v2) (xi05.t (fun b => some (xi05.mk b)) v0 v1 v2) := by
 unfold xi05.t
 repeat' first | exact Sub.ret | exact Sub.none | exact Sub.loop | apply Sub.cond | (apply Sub.bind; intro _)
theorem xi05.eq (v0 : List (Int × List (List Int × Int))) (v1 : Int) (v2 : List (Int × List (List Int × Int))) {b : Bool} (h : xi05.t some v0 v1 v2 = some b) : xi05 v0 v1 v2 = some b := tOf_intro xi05.un (fun _ => by kernel_rfl) (vlim_fn (callT_le E tab) rfl rfl rfl ((xi05.k v0 v1 v2).trans (xi05.s v0 v1 v2 b h)))
noncomputable def xs00.t {γ : Type} (ret : (Bool) → Option γ) (v0 : List (Int × List (List Int × Int))) (v1 : Int) (v2 : List (Int × List (List Int × Int))) : Option γ :=
 (xs01 (v0) (v1) (v2)).bind fun (r0 : Int) =>
 ret (decide (r0 ≥ (0 : Int)))
theorem xs00.k (v0 : List (Int × List (List Int × Int))) (v1 : Int) (v2 : List (Int × List (List Int × Int))) : topL E (callT E tab) 201 Try.f201 (xs00.c v0 v1 v2) = xs00.t (fun b => some (xs00.mk b)) v0 v1 v2 := by kernel_rfl
theorem xs00.s (v0 : List (Int × List (List Int × Int))) (v1 : Int) (v2 : List (Int × List (List Int × Int))) : Sub xs00.mk (xs00.t some v0 v1 v2) (xs00.t (fun b => some (xs00.mk b)) v0 v1 v2) := by
 unfold xs00.t
 repeat' first | exact Sub.ret | exact Sub.none | exact Sub.loop | apply Sub.cond | (apply Sub.bind; intro _)
theorem xs00.eq (v0 : List (Int × List (List Int × Int))) (v1 : Int) (v2 : List (Int × List (List Int × Int))) {b : Bool} (h : xs00.t some v0 v1 v2 = some b) : xs00 v0 v1 v2 = some b := tOf_intro xs00.un (fun _ => by kernel_rfl) (vlim_fn (callT_le E tab) rfl rfl rfl ((xs00.k v0 v1 v2).trans (xs00.s v0 v1 v2 b h)))
noncomputable def xs01.q2 (v0 : List (Int × List (List Int × Int))) (v1 : Int) (v2 : List (Int × List (List Int × Int))) (v3 : Int) (v4 : Int) : Option R := loopAtL E (callT E tab) 226 Try.f226 2 [.r, .l, .r, .b] (vc (.d .fro (.sl (.pair (.int .i64) (.sl (.pair (.sl (.int .i64)) (.int .i64))))) v0) :: vc (.fn 202 [.rp [.fn 151 [.rp [iL v1, .d .fro (.sl (.pair (.int .i64) (.sl (.pair (.sl (.int .i64)) (.int .i64))))) v2] 0]] 0]) :: nn 5 (vc (iL v3) :: vc (iL v4) :: nn 10 ([])))
noncomputable def xs01.l2 (v0 : List (Int × List (List Int × Int))) (v1 : Int) (v2 : List (Int × List (List Int × Int))) (v3 : Int) (v4 : Int) : Option (Int) := tOf xs01.mk (xs01.q2 v0 v1 v2 v3 v4)
noncomputable def xs01.t {γ : Type} (ret : (Int) → Option γ) (lp2 : (List (Int × List (List Int × Int))) → Int → (List (Int × List (List Int × Int))) → Int → Int → Option γ) (v0 : List (Int × List (List Int × Int))) (v1 : Int) (v2 : List (Int × List (List Int × Int))) : Option γ :=
 lp2 (v0) (v1) (v2) ((↑v0.length : Int)) ((0 : Int))
noncomputable def xs01.t2 {γ : Type} (ret : (Int) → Option γ) (lp2 : (List (Int × List (List Int × Int))) → Int → (List (Int × List (List Int × Int))) → Int → Int → Option γ) (v0 : List (Int × List (List Int × Int))) (v1 : Int) (v2 : List (Int × List (List Int × Int))) (v3 : Int) (v4 : Int) : Option γ :=
 bif decide (v4 < v3) then
  bif decide ((0 : Int) ≤ v4) then
   bif decide (v4.toNat < v0.length) then
    (xi04 ((v0.getD v4.toNat ((0 : Int), [])).fst) ((v0.getD v4.toNat ((0 : Int), [])).snd) (v1) (v2)).bind fun (r0 : Bool) =>
    bif r0 then
     ret (v4)
    else
     lp2 (v0) (v1) (v2) (v3) (IntKind.i64.wrap (v4 + (1 : Int)))
   else
    none
  else
   none
 else
  ret ((-1 : Int))
theorem xs01.k (v0 : List (Int × List (List Int × Int))) (v1 : Int) (v2 : List (Int × List (List Int × Int))) : topL E (callT E tab) 226 Try.f226 (xs01.c v0 v1 v2) = xs01.t (fun b => some (xs01.mk b)) xs01.q2 v0 v1 v2 := by kernel_rfl
theorem xs01.k2 (v0 : List (Int × List (List Int × Int))) (v1 : Int) (v2 : List (Int × List (List Int × Int))) (v3 : Int) (v4 : Int) : roundL E (callT E tab) 226 Try.f226 2 [.r, .l, .r, .b] (vc (.d .fro (.sl (.pair (.int .i64) (.sl (.pair (.sl (.int .i64)) (.int .i64))))) v0) :: vc (.fn 202 [.rp [.fn 151 [.rp [iL v1, .d .fro (.sl (.pair (.int .i64) (.sl (.pair (.sl (.int .i64)) (.int .i64))))) v2] 0]] 0]) :: nn 5 (vc (iL v3) :: vc (iL v4) :: nn 10 ([]))) = xs01.t2 (fun b => some (xs01.mk b)) xs01.q2 v0 v1 v2 v3 v4 := by kernel_rfl
theorem xs01.s (v0 : List (Int × List (List Int × Int))) (v1 : Int) (v2 : List (Int × List (List Int × Int))) : Sub xs01.mk (xs01.t some xs01.l2 v0 v1 v2) (xs01.t (fun b => some (xs01.mk b)) xs01.q2 v0 v1 v2) := by
 unfold xs01.t
 repeat' first | exact Sub.ret | exact Sub.none | exact Sub.loop | apply Sub.cond | (apply Sub.bind; intro _)
theorem xs01.eq (v0 : List (Int × List (List Int × Int))) (v1 : Int) (v2 : List (Int × List (List Int × Int))) {b : Int} (h : xs01.t some xs01.l2 v0 v1 v2 = some b) : xs01 v0 v1 v2 = some b := tOf_intro xs01.un (fun _ => by kernel_rfl) (vlim_fn (callT_le E tab) rfl rfl rfl ((xs01.k v0 v1 v2).trans (xs01.s v0 v1 v2 b h)))
theorem xs01.s2 (v0 : List (Int × List (List Int × Int))) (v1 : Int) (v2 : List (Int × List (List Int × Int))) (v3 : Int) (v4 : Int) : Sub xs01.mk (xs01.t2 some xs01.l2 v0 v1 v2 v3 v4) (xs01.t2 (fun b => some (xs01.mk b)) xs01.q2 v0 v1 v2 v3 v4) := by
 unfold xs01.t2
 repeat' first | exact Sub.ret | exact Sub.none | exact Sub.loop | apply Sub.cond | (apply Sub.bind; intro _)
theorem xs01.eq2 (v0 : List (Int × List (List Int × Int))) (v1 : Int) (v2 : List (Int × List (List Int × Int))) (v3 : Int) (v4 : Int) {b : Int} (h : xs01.t2 some xs01.l2 v0 v1 v2 v3 v4 = some b) : xs01.l2 v0 v1 v2 v3 v4 = some b := tOf_intro xs01.un (fun _ => by kernel_rfl) (loopAtL_step ((xs01.k2 v0 v1 v2 v3 v4).trans (xs01.s2 v0 v1 v2 v3 v4 b h)))
noncomputable def xi04.t {γ : Type} (ret : (Bool) → Option γ) (v0 : Int) (v1 : List (List Int × Int)) (v2 : Int) (v3 : List (Int × List (List Int × Int))) : Option γ :=
 (impl_GoodStream_1 (v0) (v1) (v2) (v3)).bind fun (r0 : Bool) =>
 ret (!r0)
theorem xi04.k (v0 : Int) (v1 : List (List Int × Int)) (v2 : Int) (v3 : List (Int × List (List Int × Int))) : topL E (callT E tab) 202 Try.f202 (xi04.c v0 v1 v2 v3) = xi04.t (fun b => some (xi04.mk b)) v0 v1 v2 v3 := by kernel_rfl
theorem xi04.s (v0 : Int) (v1 : List (List Int × Int)) (v2 : Int) (v3 : List (Int × List (List Int × Int))) : Sub xi04.mk (xi04.t some v0 v1 v2 v3) (xi04.t (fun b => some (xi04.mk b)) v0 v1 v2 v3) := by
 unfold xi04.t
 repeat' first | exact Sub.ret | exact Sub.none | exact Sub.loop | apply Sub.cond | (apply Sub.bind; intro _)
theorem xi04.eq (v0 : Int) (v1 : List (List Int × Int)) (v2 : Int) (v3 : List (Int × List (List Int × Int))) {b : Bool} (h : xi04.t some v0 v1 v2 v3 = some b) : xi04 v0 v1 v2 v3 = some b := tOf_intro xi04.un (fun _ => by kernel_rfl) (vlim_fn (callT_le E tab) rfl rfl rfl ((xi04.k v0 v1 v2 v3).trans (xi04.s v0 v1 v2 v3 b h)))
noncomputable def impl_GoodStream_1.t {γ : Type} (ret : (Bool) → Option γ) (v0 : Int) (v1 : List (List Int × Int)) (v2 : Int) (v3 : List (Int × List (List Int × Int))) : Option γ :=
 (impl_GoodTable (v0) (v1)).bind fun (r0 : Bool) =>
 bif r0 then
  ret (v0 == v2)
 else
  ret (Bool.false)
theorem impl_GoodStream_1.k (v0 : Int) (v1 : List (List Int × Int)) (v2 : Int) (v3 : List (Int × List (List Int × Int))) : topL E (callT E tab) 151 Try.f151 (impl_GoodStream_1.c v0 v1 v2 v3) = impl_GoodStream_1.t (fun b => some (impl_GoodStream_1.mk b)) v0 v1 v2 v3 := by kernel_rfl
theorem impl_GoodStream_1.s (v0 : Int) (v1 : List (List Int × Int)) (v2 : Int) (v3 : List (Int × List (List Int × Int))) : Sub impl_GoodStream_1.mk (impl_GoodStream_1.t some v0 v1 v2 v3) (impl_GoodStream_1.t (fun b => some (impl_GoodStream_1.mk b)) v0 v1 v2 v3) := by
 unfold impl_GoodStream_1.t
 repeat' first | exact Sub.ret | exact Sub.none | exact Sub.loop | apply Sub.cond | (apply Sub.bind; intro _)
theorem impl_GoodStream_1.eq (v0 : Int) (v1 : List (List Int × Int)) (v2 : Int) (v3 : List (Int × List (List Int × Int))) {b : Bool} (h : impl_GoodStream_1.t some v0 v1 v2 v3 = some b) : impl_GoodStream_1 v0 v1 v2 v3 = some b := tOf_intro impl_GoodStream_1.un (fun _ => by kernel_rfl) (vlim_fn (callT_le E tab) rfl rfl rfl ((impl_GoodStream_1.k v0 v1 v2 v3).trans (impl_GoodStream_1.s v0 v1 v2 v3 b h)))
noncomputable def impl_Table_scaled.q3 (v0 : Int) (v1 : Int) (v2 : List (List Int × Int)) (v3 : Int) (v4 : List (List Int × Int)) (v5 : List (List Int × Int)) (v6 : Int) (v7 : Int) : Option R := loopAtL E (callT E tab) 85 Try.f85 2 [.r, .r, .l, .r, .b] (nn 1 (vc (iL v0) :: nn 2 (⟨(.box false), [iL v1, .d .deep (.sl (.pair (.sl (.int .i64)) (.int .i64))) v2], false, false, false, 0, 0⟩ :: ⟨(.box false), [iL v3, .d .deep (.sl (.pair (.sl (.int .i64)) (.int .i64))) v4], false, false, false, 0, 0⟩ :: nn 6 (vc (.d .fro (.sl (.pair (.sl (.int .i64)) (.int .i64))) v5) :: vc (iL v6) :: vc (iL v7) :: nn 20 ([])))))
noncomputable def impl_Table_scaled.l3 (v0 : Int) (v1 : Int) (v2 : List (List Int × Int)) (v3 : Int) (v4 : List (List Int × Int)) (v5 : List (List Int × Int)) (v6 : Int) (v7 : Int) : Option (Int × (List (List Int × Int))) := tOf impl_Table_scaled.mk (impl_Table_scaled.q3 v0 v1 v2 v3 v4 v5 v6 v7)
noncomputable def impl_Table_scaled.t {γ : Type} (ret : (Int × (List (List Int × Int))) → Option γ) (lp3 : Int → Int → (List (List Int × Int)) → Int → (List (List Int × Int)) → (List (List Int × Int)) → Int → Int → Option γ) (v0 : Int) (v1 : List (List Int × Int)) (v2 : Int) : Option γ :=
 lp3 (v2) ((0 : Int)) ([]) (v0) ([]) (v1) ((↑v1.length : Int)) ((0 : Int))
noncomputable def impl_Table_scaled.t3 {γ : Type} (ret : (Int × (List (List Int × Int))) → Option γ) (lp3 : Int → Int → (List (List Int × Int)) → Int → (List (List Int × Int)) → (List (List Int × Int)) → Int → Int → Option γ) (v0 : Int) (v1 : Int) (v2 : List (List Int × Int)) (v3 : Int) (v4 : List (List Int × Int)) (v5 : List (List Int × Int)) (v6 : Int) (v7 : Int) : Option γ :=
 bif decide (v7 < v6) then
  bif decide ((0 : Int) ≤ v7) then
   bif decide (v7.toNat < v5.length) then
    bif v0 != (0 : Int) then
     (impl_Row_own ((v5.getD v7.toNat ([], (0 : Int))).fst)).bind fun (r0 : (List Int)) =>
     bif decide   (v4.length + [(r0, IntKind.i64.wrap ((v5.getD v7.toNat ([], (0 : Int))).snd * v0))].length ≤ (4294967296 : Nat)) then
      lp3 (v0) (v1) (v2) (v3) (v4 ++ [(r0, IntKind.i64.wrap ((v5.getD v7.toNat ([], (0 : Int))).snd * v0))]) (v5) (v6) (IntKind.i64.wrap (v7 + (1 : Int)))
     else
      none
    else
     lp3 (v0) (v1) (v2) (v3) (v4) (v5) (v6) (IntKind.i64.wrap (v7 + (1 : Int)))
   else
    none
  else
   none
 else
  ret (v3, v4)
theorem impl_Table_scaled.k (v0 : Int) (v1 : List (List Int × Int)) (v2 : Int) : topL E (callT E tab) 85 Try.f85 (impl_Table_scaled.c v0 v1 v2) = impl_Table_scaled.t (fun b => some (impl_Table_scaled.mk b)) impl_Table_scaled.q3 v0 v1 v2 := by kernel_rfl
theorem impl_Table_scaled.k3 (v0 : Int) (v1 : Int) (v2 : List (List Int × Int)) (v3 : Int) (v4 : List (List Int × Int)) (v5 : List (List Int × Int)) (v6 : Int) (v7 : Int) : roundL E (callT E tab) 85 Try.f85 2 [.r, .r, .l, .r, .b] (nn 1 (vc (iL v0) :: nn 2 (⟨(.box false), [iL v1, .d .deep (.sl (.pair (.sl (.int .i64)) (.int .i64))) v2], false, false, false, 0, 0⟩ :: ⟨(.box false), [iL v3, .d .deep (.sl (.pair (.sl (.int .i64)) (.int .i64))) v4], false, false, false, 0, 0⟩ :: nn 6 (vc (.d .fro (.sl (.pair (.sl (.int .i64)) (.int .i64))) v5) :: vc (iL v6) :: vc (iL v7) :: nn 20 ([]))))) = impl_Table_scaled.t3 (fun b => some (impl_Table_scaled.mk b)) impl_Table_scaled.q3 v0 v1 v2 v3 v4 v5 v6 v7 := by kernel_rfl
theorem impl_Table_scaled.s (v0 : Int) (v1 : List (List Int × Int)) (v2 : Int) : Sub impl_Table_scaled.mk (impl_Table_scaled.t some impl_Table_scaled.l3 v0 v1 v2) (impl_Table_scaled.t (fun b => some (impl_Table_scaled.mk b)) impl_Table_scaled.q3 v0 v1 v2) := by
 unfold impl_Table_scaled.t
 repeat' first | exact Sub.ret | exact Sub.none | exact Sub.loop | apply Sub.cond | (apply Sub.bind; intro _)
theorem impl_Table_scaled.eq (v0 : Int) (v1 : List (List Int × Int)) (v2 : Int) {b : Int × (List (List Int × Int))} (h : impl_Table_scaled.t some impl_Table_scaled.l3 v0 v1 v2 = some b) : impl_Table_scaled v0 v1 v2 = some b := tOf_intro impl_Table_scaled.un (fun _ => by kernel_rfl) (vlim_fn (callT_le E tab) rfl rfl rfl ((impl_Table_scaled.k v0 v1 v2).trans (impl_Table_scaled.s v0 v1 v2 b h)))
theorem impl_Table_scaled.s3 (v0 : Int) (v1 : Int) (v2 : List (List Int × Int)) (v3 : Int) (v4 : List (List Int × Int)) (v5 : List (List Int × Int)) (v6 : Int) (v7 : Int) : Sub impl_Table_scaled.mk (impl_Table_scaled.t3 some impl_Table_scaled.l3 v0 v1 v2 v3 v4 v5 v6 v7) (impl_Table_scaled.t3 (fun b => some (impl_Table_scaled.mk b)) impl_Table_scaled.q3 v0 v1 v2 v3 v4 v5 v6 v7) := by
 unfold impl_Table_scaled.t3
 repeat' first | exact Sub.ret | exact Sub.none | exact Sub.loop | apply Sub.cond | (apply Sub.bind; intro _)
theorem impl_Table_scaled.eq3 (v0 : Int) (v1 : Int) (v2 : List (List Int × Int)) (v3 : Int) (v4 : List (List Int × Int)) (v5 : List (List Int × Int)) (v6 : Int) (v7 : Int) {b : Int × (List (List Int × Int))} (h : impl_Table_scaled.t3 some impl_Table_scaled.l3 v0 v1 v2 v3 v4 v5 v6 v7 = some b) : impl_Table_scaled.l3 v0 v1 v2 v3 v4 v5 v6 v7 = some b := tOf_intro impl_Table_scaled.un (fun _ => by kernel_rfl) (loopAtL_step ((impl_Table_scaled.k3 v0 v1 v2 v3 v4 v5 v6 v7).trans (impl_Table_scaled.s3 v0 v1 v2 v3 v4 v5 v6 v7 b h)))
noncomputable def laws_eqStream.t {γ : Type} (ret : (Bool) → Option γ) (v0 : Int) (v1 : List (Int × List (List Int × Int))) (v2 : Int) (v3 : List (Int × List (List Int × Int))) : Option γ :=
 bif v0 != v2 then
  ret (Bool.false)
 else
  (laws_eqTableS (v1) (v3)).bind fun (r0 : Bool) =>
  bif !r0 then
   ret (Bool.false)
  else
   ret (Bool.true)
theorem laws_eqStream.k (v0 : Int) (v1 : List (Int × List (List Int × Int))) (v2 : Int) (v3 : List (Int × List (List Int × Int))) : topL E (callT E tab) 28 Try.f28 (laws_eqStream.c v0 v1 v2 v3) = laws_eqStream.t (fun b => some (laws_eqStream.mk b)) v0 v1 v2 v3 := by kernel_rfl
theorem laws_eqStream.s (v0 : Int) (v1 : List (Int × List (List Int × Int))) (v2 : Int) (v3 : List (Int × List (List Int × Int))) : Sub laws_eqStream.mk (laws_eqStream.t some v0 v1 v2 v3) (laws_eqStream.t (fun b => some (laws_eqStream.mk b)) v0 v1 v2 v3) := by
 unfold laws_eqStream.t
 repeat' first | exact Sub.ret | exact Sub.none | exact Sub.loop | apply Sub.cond | (apply Sub.bind; intro _)
theorem laws_eqStream.eq (v0 : Int) (v1 : List (Int × List (List Int × Int))) (v2 : Int) (v3 : List (Int × List (List Int × Int))) {b : Bool} (h : laws_eqStream.t some v0 v1 v2 v3 = some b) : laws_eqStream v0 v1 v2 v3 = some b := tOf_intro laws_eqStream.un (fun _ => by kernel_rfl) (vlim_fn (callT_le E tab) rfl rfl rfl ((laws_eqStream.k v0 v1 v2 v3).trans (laws_eqStream.s v0 v1 v2 v3 b h)))
end GoV

/- Equations of the program's functions (printed by wip/tools/emit.py). -/
namespace GoV
open Go Go.Proofs
set_option maxRecDepth 100000

noncomputable def laws_eqTableS.q4 (v0 : List (Int × List (List Int × Int))) (v1 : List (Int × List (List Int × Int))) (v2 : Int) : Option R := loopAtL E (callT E tab) 61 Try.f61 2 [.r, .r, .l, .r, .b] (vc (.d .fro (.sl (.pair (.int .i64) (.sl (.pair (.sl (.int .i64)) (.int .i64))))) v0) :: vc (.d .fro (.sl (.pair (.int .i64) (.sl (.pair (.sl (.int .i64)) (.int .i64))))) v1) :: nn 3 (vc (iL v2) :: nn 21 ([])))
noncomputable def laws_eqTableS.l4 (v0 : List (Int × List (List Int × Int))) (v1 : List (Int × List (List Int × Int))) (v2 : Int) : Option (Bool) := tOf laws_eqTableS.mk (laws_eqTableS.q4 v0 v1 v2)
noncomputable def laws_eqTableS.t {γ : Type} (ret : (Bool) → Option γ) (lp4 : (List (Int × List (List Int × Int))) → (List (Int × List (List Int × Int))) → Int → Option γ) (v0 : List (Int × List (List Int × Int))) (v1 : List (Int × List (List Int × Int))) : Option γ :=
 bif (↑v0.length : Int) != (↑v1.length : Int) then
  ret (Bool.false)
 else
  lp4 (v0) (v1) ((0 : Int))
noncomputable def laws_eqTableS.t4 {γ : Type} (ret : (Bool) → Option γ) (lp4 : (List (Int × List (List Int × Int))) → (List (Int × List (List Int × Int))) → Int → Option γ) (v0 : List (Int × List (List Int × Int))) (v1 : List (Int × List (List Int × Int))) (v2 : Int) : Option γ :=
 bif decide (v2 < (↑v0.length : Int)) then
  bif decide ((0 : Int) ≤ v2) then
   bif decide (v2.toNat < v0.length) then
    bif decide ((0 : Int) ≤ v2) then
     bif decide (v2.toNat < v1.length) then
      (laws_eqTable ((v0.getD v2.toNat ((0 : Int), [])).fst) ((v0.getD v2.toNat ((0 : Int), [])).snd) ((v1.getD v2.toNat ((0 : Int), [])).fst) ((v1.getD v2.toNat ((0 : Int), [])).snd)).bind fun (r0 : Bool) =>
      bif !r0 then
       ret (Bool.false)
      else
       lp4 (v0) (v1) (IntKind.i64.wrap (v2 + (1 : Int)))
     else
      none
    else
     none
   else
    none
  else
   none
 else
  ret (Bool.true)
theorem laws_eqTableS.k (v0 : List (Int × List (List Int × Int))) (v1 : List (Int × List (List Int × Int))) : topL E (callT E tab) 61 Try.f61 (laws_eqTableS.c v0 v1) = laws_eqTableS.t (fun b => some (laws_eqTableS.mk b)) laws_eqTableS.q4 v0 v1 := by kernel_rfl
theorem laws_eqTableS.k4 (v0 : List (Int × List (List Int × Int))) (v1 : List (Int × List (List Int × Int))) (v2 : Int) : roundL E (callT E tab) 61 Try.f61 2 [.r, .r, .l, .r, .b] (vc (.d .fro (.sl (.pair (.int .i64) (.sl (.pair (.sl (.int .i64)) (.int .i64))))) v0) :: vc (.d .fro (.sl (.pair (.int .i64) (.sl (.pair (.sl (.int .i64)) (.int .i64))))) v1) :: nn 3 (vc (iL v2) :: nn 21 ([]))) = laws_eqTableS.t4 (fun b => some (laws_eqTableS.mk b)) laws_eqTableS.q4 v0 v1 v2 := by kernel_rfl
theorem laws_eqTableS.s (v0 : List (Int × List (List Int × Int))) (v1 : List (Int × List (List Int × Int))) : Sub laws_eqTableS.mk (laws_eqTableS.t some laws_eqTableS.l4 v0 v1) (laws_eqTableS.t (fun b => some (laws_eqTableS.mk b)) laws_eqTableS.q4 v0 v1) := by
 unfold laws_eqTableS.t
 repeat' first | exact Sub.ret | exact Sub.none | exact Sub.loop | apply Sub.cond | (apply Sub.bind; intro _)
theorem laws_eqTableS.eq (v0 : List (Int × List (List Int × Int))) (v1 : List (Int × List (List Int × Int))) {b : Bool} (h : laws_eqTableS.t some laws_eqTableS.l4 v0 v1 = some b) : laws_eqTableS v0 v1 = some b := tOf_intro laws_eqTableS.un (fun _ => by kernel_rfl) (vlim_fn (callT_le E tab) rfl rfl rfl ((laws_eqTableS.k v0 v1).trans (laws_eqTableS.s v0 v1 b h)))
theorem laws_eqTableS.s4 (v0 : List (Int × List (List Int × Int))) (v1 : List (Int × List (List Int × Int))) (v2 : Int) : Sub laws_eqTableS.mk (laws_eqTableS.t4 some laws_eqTableS.l4 v0 v1 v2) (laws_eqTableS.t4 (fun b => some (laws_eqTableS.mk b)) laws_eqTableS.q4 v0 v1 v2) := by
 unfold laws_eqTableS.t4
 repeat' first | exact Sub.ret | exact Sub.none | exact Sub.loop | apply Sub.cond | (apply Sub.bind; intro _)
theorem laws_eqTableS.eq4 (v0 : List (Int × List (List Int × Int))) (v1 : List (Int × List (List Int × Int))) (v2 : Int) {b : Bool} (h : laws_eqTableS.t4 some laws_eqTableS.l4 v0 v1 v2 = some b) : laws_eqTableS.l4 v0 v1 v2 = some b := tOf_intro laws_eqTableS.un (fun _ => by kernel_rfl) (loopAtL_step ((laws_eqTableS.k4 v0 v1 v2).trans (laws_eqTableS.s4 v0 v1 v2 b h)))
noncomputable def xl0c.t {γ : Type} (ret : (Int × Int × (List (Int × List (List Int × Int)))) → Option γ) (v0 : Int) (v1 : List (Int × List (List Int × Int))) (v2 : Int) : Option γ :=
 (xl0d (v1) (v2)).bind fun (r0 : Int × (List (Int × List (List Int × Int)))) =>
 ret (r0.fst, v0, r0.snd)
theorem xl0c.k (v0 : Int) (v1 : List (Int × List (List Int × Int))) (v2 : Int) : topL E (callT E tab) 29 Try.f29 (xl0c.c v0 v1 v2) = xl0c.t (fun b => some (xl0c.mk b)) v0 v1 v2 := by kernel_rfl
theorem xl0c.s (v0 : Int) (v1 : List (Int × List (List Int × Int))) (v2 : Int) : Sub xl0c.mk (xl0c.t some v0 v1 v2) (xl0c.t (fun b => some (xl0c.mk b)) v0 v1 v2) := by
 unfold xl0c.t
 repeat' first | exact Sub.ret | exact Sub.none | exact Sub.loop | apply Sub.cond | (apply Sub.bind; intro _)
theorem xl0c.eq (v0 : Int) (v1 : List (Int × List (List Int × Int))) (v2 : Int) {b : Int × Int × (List (Int × List (List Int × Int)))} (h : xl0c.t some v0 v1 v2 = some b) : xl0c v0 v1 v2 = some b := tOf_intro xl0c.un (fun _ => by kernel_rfl) (vlim_fn (callT_le E tab) rfl rfl rfl ((xl0c.k v0 v1 v2).trans (xl0c.s v0 v1 v2 b h)))
noncomputable def xl0d.q2 (v0 : List (Int × List (List Int × Int))) (v1 : Int) (v2 : Int) : Option R := loopAtL E (callT E tab) 62 Try.f62 2 [.r, .l, .r, .b] (⟨(.val .one), [.d .deep (.sl (.pair (.int .i64) (.sl (.pair (.sl (.int .i64)) (.int .i64))))) v0], true, false, false, 0, 0⟩ :: vc (iL v1) :: nn 3 (vc (iL v2) :: nn 21 ([])))
noncomputable def xl0d.l2 (v0 : List (Int × List (List Int × Int))) (v1 : Int) (v2 : Int) : Option (Int × (List (Int × List (List Int × Int)))) := tOf xl0d.mk (xl0d.q2 v0 v1 v2)
noncomputable def xl0d.t {γ : Type} (ret : (Int × (List (Int × List (List Int × Int)))) → Option γ) (lp2 : (List (Int × List (List Int × Int))) → Int → Int → Option γ) (v0 : List (Int × List (List Int × Int))) (v1 : Int) : Option γ :=
 lp2 (v0) (v1) ((0 : Int))
noncomputable def xl0d.t2 {γ : Type} (ret : (Int × (List (Int × List (List Int × Int)))) → Option γ) (lp2 : (List (Int × List (List Int × Int))) → Int → Int → Option γ) (v0 : List (Int × List (List Int × Int))) (v1 : Int) (v2 : Int) : Option γ :=
 bif decide (v2 < (↑v0.length : Int)) then
  bif decide ((0 : Int) ≤ v2) then
   bif decide (v2.toNat < v0.length) then
    bif decide (v2.toNat < v0.length) then
     bif decide ((0 : Int) ≤ v2) then
      bif decide (v2.toNat < (v0.set v2.toNat (v1, (v0.getD v2.toNat ((0 : Int), [])).snd)).length) then
       bif decide (v2.toNat < (v0.set v2.toNat (v1, (v0.getD v2.toNat ((0 : Int), [])).snd)).length) then
        bif decide (v2.toNat < (v0.set v2.toNat (v1, (v0.getD v2.toNat ((0 : Int), [])).snd)).length) then
         (xl09 (((v0.set v2.toNat (v1, (v0.getD v2.toNat ((0 : Int), [])).snd)).getD v2.toNat ((0 : Int), [])).snd) (IntKind.i64.wrap (v1 + (1 : Int)))).bind fun (r0 : Int × (List (List Int × Int))) =>
         bif decide (v2.toNat = v2.toNat) &&   (decide ((0 : Nat) + (1 : Nat) = (0 : Nat) + (1 : Nat)) &&     decide ((1 : Nat) + (1 : Nat) = (1 : Nat) + (1 : Nat))) then
          bif decide (v2.toNat < (v0.set v2.toNat (v1, (v0.getD v2.toNat ((0 : Int), [])).snd)).length) then
           lp2 ((v0.set v2.toNat (v1, (v0.getD v2.toNat ((0 : Int), [])).snd)).set v2.toNat   (((v0.set v2.toNat (v1, (v0.getD v2.toNat ((0 : Int), [])).snd)).getD v2.toNat ((0 : Int), [])).fst, r0.snd)) (r0.fst) (IntKind.i64.wrap (v2 + (1 : Int)))
          else
           none
         else
          none
        else
         none
       else
        none
      else
       none
     else
      none
    else
     none
   else
    none
  else
   none
 else
  ret (v1, v0)
theorem xl0d.k (v0 : List (Int × List (List Int × Int))) (v1 : Int) : topL E (callT E tab) 62 Try.f62 (xl0d.c v0 v1) = xl0d.t (fun b => some (xl0d.mk b)) xl0d.q2 v0 v1 := by kernel_rfl
theorem xl0d.k2 (v0 : List (Int × List (List Int × Int))) (v1 : Int) (v2 : Int) : roundL E (callT E tab) 62 Try.f62 2 [.r, .l, .r, .b] (⟨(.val .one), [.d .deep (.sl (.pair (.int .i64) (.sl (.pair (.sl (.int .i64)) (.int .i64))))) v0], true, false, false, 0, 0⟩ :: vc (iL v1) :: nn 3 (vc (iL v2) :: nn 21 ([]))) = xl0d.t2 (fun b => some (xl0d.mk b)) xl0d.q2 v0 v1 v2 := by kernel_rfl
theorem xl0d.s (v0 : List (Int × List (List Int × Int))) (v1 : Int) : Sub xl0d.mk (xl0d.t some xl0d.l2 v0 v1) (xl0d.t (fun b => some (xl0d.mk b)) xl0d.q2 v0 v1) := by
 unfold xl0d.t
 repeat' first | exact Sub.ret | exact Sub.none | exact Sub.loop | apply Sub.cond | (apply Sub.bind; intro _)
theorem xl0d.eq (v0 : List (Int × List (List Int × Int))) (v1 : Int) {b : Int × (List (Int × List (List Int × Int)))} (h : xl0d.t some xl0d.l2 v0 v1 = some b) : xl0d v0 v1 = some b := tOf_intro xl0d.un (fun _ => by kernel_rfl) (vlim_fn (callT_le E tab) rfl rfl rfl ((xl0d.k v0 v1).trans (xl0d.s v0 v1 b h)))
theorem xl0d.s2 (v0 : List (Int × List (List Int × Int))) (v1 : Int) (v2 : Int) : Sub xl0d.mk (xl0d.t2 some xl0d.l2 v0 v1 v2) (xl0d.t2 (fun b => some (xl0d.mk b)) xl0d.q2 v0 v1 v2) := by
 unfold xl0d.t2
 repeat' first | exact Sub.ret | exact Sub.none | exact Sub.loop | apply Sub.cond | (apply Sub.bind; intro _)
theorem xl0d.eq2 (v0 : List (Int × List (List Int × Int))) (v1 : Int) (v2 : Int) {b : Int × (List (Int × List (List Int × Int)))} (h : xl0d.t2 some xl0d.l2 v0 v1 v2 = some b) : xl0d.l2 v0 v1 v2 = some b := tOf_intro xl0d.un (fun _ => by kernel_rfl) (loopAtL_step ((xl0d.k2 v0 v1 v2).trans (xl0d.s2 v0 v1 v2 b h)))
noncomputable def laws_heldStream.t {γ : Type} (ret : (Int) → Option γ) (v0 : Int) (v1 : List (Int × List (List Int × Int))) (v2 : Int) : Option γ :=
 (laws_heldTableS (v1) (v2)).bind fun (r0 : Int) =>
 bif decide (r0 < (0 : Int)) then
  ret ((-1 : Int))
 else
  ret (r0)
theorem laws_heldStream.k (v0 : Int) (v1 : List (Int × List (List Int × Int))) (v2 : Int) : topL E (callT E tab) 30 Try.f30 (laws_heldStream.c v0 v1 v2) = laws_heldStream.t (fun b => some (laws_heldStream.mk b)) v0 v1 v2 := by kernel_rfl
theorem laws_heldStream.s (v0 : Int) (v1 : List (Int × List (List Int × Int))) (v2 : Int) : Sub laws_heldStream.mk (laws_heldStream.t some v0 v1 v2) (laws_heldStream.t (fun b => some (laws_heldStream.mk b)) v0 v1 v2) := by
 unfold laws_heldStream.t
 repeat' first | exact Sub.ret | exact Sub.none | exact Sub.loop | apply Sub.cond | (apply Sub.bind; intro _)
theorem laws_heldStream.eq (v0 : Int) (v1 : List (Int × List (List Int × Int))) (v2 : Int) {b : Int} (h : laws_heldStream.t some v0 v1 v2 = some b) : laws_heldStream v0 v1 v2 = some b := tOf_intro laws_heldStream.un (fun _ => by kernel_rfl) (vlim_fn (callT_le E tab) rfl rfl rfl ((laws_heldStream.k v0 v1 v2).trans (laws_heldStream.s v0 v1 v2 b h)))
noncomputable def laws_heldTableS.q2 (v0 : List (Int × List (List Int × Int))) (v1 : Int) (v2 : Int) : Option R := loopAtL E (callT E tab) 63 Try.f63 2 [.r, .l, .r, .b] (vc (.d .fro (.sl (.pair (.int .i64) (.sl (.pair (.sl (.int .i64)) (.int .i64))))) v0) :: vc (iL v1) :: nn 3 (vc (iL v2) :: nn 25 ([])))
noncomputable def laws_heldTableS.l2 (v0 : List (Int × List (List Int × Int))) (v1 : Int) (v2 : Int) : Option (Int) := tOf laws_heldTableS.mk (laws_heldTableS.q2 v0 v1 v2)
noncomputable def laws_heldTableS.t {γ : Type} (ret : (Int) → Option γ) (lp2 : (List (Int × List (List Int × Int))) → Int → Int → Option γ) (v0 : List (Int × List (List Int × Int))) (v1 : Int) : Option γ :=
 lp2 (v0) (v1) ((0 : Int))
noncomputable def laws_heldTableS.t2 {γ : Type} (ret : (Int) → Option γ) (lp2 : (List (Int × List (List Int × Int))) → Int → Int → Option γ) (v0 : List (Int × List (List Int × Int))) (v1 : Int) (v2 : Int) : Option γ :=
 bif decide (v2 < (↑v0.length : Int)) then
  bif decide ((0 : Int) ≤ v2) then
   bif decide (v2.toNat < v0.length) then
    bif (v0.getD v2.toNat ((0 : Int), [])).fst != v1 then
     ret ((-1 : Int))
    else
     bif decide ((0 : Int) ≤ v2) then
      bif decide (v2.toNat < v0.length) then
       (laws_heldWeightedS ((v0.getD v2.toNat ((0 : Int), [])).snd) (IntKind.i64.wrap (v1 + (1 : Int)))).bind fun (r0 : Int) =>
       bif decide (r0 < (0 : Int)) then
        ret ((-1 : Int))
       else
        lp2 (v0) (r0) (IntKind.i64.wrap (v2 + (1 : Int)))
      else
       none
     else
      none
   else
    none
  else
   none
 else
  ret (v1)
theorem laws_heldTableS.k (v0 : List (Int × List (List Int × Int))) (v1 : Int) : topL E (callT E tab) 63 Try.f63 (laws_heldTableS.c v0 v1) = laws_heldTableS.t (fun b => some (laws_heldTableS.mk b)) laws_heldTableS.q2 v0 v1 := by kernel_rfl
theorem laws_heldTableS.k2 (v0 : List (Int × List (List Int × Int))) (v1 : Int) (v2 : Int) : roundL E (callT E tab) 63 Try.f63 2 [.r, .l, .r, .b] (vc (.d .fro (.sl (.pair (.int .i64) (.sl (.pair (.sl (.int .i64)) (.int .i64))))) v0) :: vc (iL v1) :: nn 3 (vc (iL v2) :: nn 25 ([]))) = laws_heldTableS.t2 (fun b => some (laws_heldTableS.mk b)) laws_heldTableS.q2 v0 v1 v2 := by kernel_rfl
theorem laws_heldTableS.s (v0 : List (Int × List (List Int × Int))) (v1 : Int) : Sub laws_heldTableS.mk (laws_heldTableS.t some laws_heldTableS.l2 v0 v1) (laws_heldTableS.t (fun b => some (laws_heldTableS.mk b)) laws_heldTableS.q2 v0 v1) := by
 unfold laws_heldTableS.t
 repeat' first | exact Sub.ret | exact Sub.none | exact Sub.loop | apply Sub.cond | (apply Sub.bind; intro _)
theorem laws_heldTableS.eq (v0 : List (Int × List (List Int × Int))) (v1 : Int) {b : Int} (h : laws_heldTableS.t some laws_heldTableS.l2 v0 v1 = some b) : laws_heldTableS v0 v1 = some b := tOf_intro laws_heldTableS.un (fun _ => by kernel_rfl) (vlim_fn (callT_le E tab) rfl rfl rfl ((laws_heldTableS.k v0 v1).trans (laws_heldTableS.s v0 v1 b h)))
theorem laws_heldTableS.s2 (v0 : List (Int × List (List Int × Int))) (v1 : Int) (v2 : Int) : Sub laws_heldTableS.mk (laws_heldTableS.t2 some laws_heldTableS.l2 v0 v1 v2) (laws_heldTableS.t2 (fun b => some (laws_heldTableS.mk b)) laws_heldTableS.q2 v0 v1 v2) := by
 unfold laws_heldTableS.t2
 repeat' first | exact Sub.ret | exact Sub.none | exact Sub.loop | apply Sub.cond | (apply Sub.bind; intro _)
theorem laws_heldTableS.eq2 (v0 : List (Int × List (List Int × Int))) (v1 : Int) (v2 : Int) {b : Int} (h : laws_heldTableS.t2 some laws_heldTableS.l2 v0 v1 v2 = some b) : laws_heldTableS.l2 v0 v1 v2 = some b := tOf_intro laws_heldTableS.un (fun _ => by kernel_rfl) (loopAtL_step ((laws_heldTableS.k2 v0 v1 v2).trans (laws_heldTableS.s2 v0 v1 v2 b h)))
end GoV
