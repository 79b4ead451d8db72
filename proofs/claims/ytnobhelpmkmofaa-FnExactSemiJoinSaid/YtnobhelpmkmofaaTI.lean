/- A part of the proof of FnExactSemiJoin: an interpreter of the model over plain data, its soundness, and what it makes of the functions that the statement reaches. Conditions: none beyond what the given statement itself says. -/
import Derived.Test.YtnobhelpmkmofaaTH
set_option linter.unusedVariables false
set_option linter.unusedSimpArgs false
set_option linter.unnecessarySimpa false
set_option linter.unusedSectionVars false
/- The functions of the program, each told by what it answers in the end (printed by wip/tools/emit.py). -/
/-! Names of functions here: xs00 = slices_ContainsFunc_int_int_impl_areAll_int_1_impl_Table_semiJoin_1_1, xs01 = slices_IndexFunc_int_int_impl_areAll_int_1_impl_Table_semiJoin_1_1, xs02 = slices_ContainsFunc_int_int_impl_areAll_int_1_impl_arePairs_1, xs03 = slices_IndexFunc_int_int_impl_areAll_int_1_impl_arePairs_1, xs04 = slices_ContainsFunc_int_int_impl_areAll_int_1_impl_isCell, xs05 = slices_IndexFunc_int_int_impl_areAll_int_1_impl_isCell, xi06 = impl_areAll_int_1_impl_Table_semiJoin_1_1, xi07 = impl_areAll_int_impl_Table_semiJoin_1_1, xi08 = impl_Table_kept_impl_Table_semiJoin_1, xi09 = impl_areAll_int_1_impl_arePairs_1, xi0a = impl_areAll_int_impl_arePairs_1, xi0b = impl_areAll_int_1_impl_isCell, xi0c = impl_areAll_int_impl_isCell, xi0d = impl_Table_semiJoin_1_1, xl0e = laws_markWeightedS_d97, xs0f = slices_Compare_int_int, xi0g = impl_Table_semiJoin_1, xl0h = laws_FnExactSemiJoin, xs0i = slices_Clone_int_int, xi0j = impl_Table_semiJoin -/
namespace GoV
open Go Go.Proofs
set_option maxRecDepth 100000

def xl0h.c (v0 : Int) (v1 : List (List Int × Int)) (v2 : Int) (v3 : List (List Int × Int)) (v4 : List (List Int)) : List Cell := ac [iL v0, .d .fro (.sl (.pair (.sl (.int .i64)) (.int .i64))) v1] :: ac [iL v2, .d .fro (.sl (.pair (.sl (.int .i64)) (.int .i64))) v3] :: vc (.d .fro (.sl (.sl (.int .i64))) v4) :: []
def xl0h.mk (b : Bool) : R := (⟨.one, [bL b]⟩, nn 3 ([]))
def xl0h.un (r : R) : Bool := ((leafR r 0).dat .bool)
noncomputable def xl0h (v0 : Int) (v1 : List (List Int × Int)) (v2 : Int) (v3 : List (List Int × Int)) (v4 : List (List Int)) : Option (Bool) := tOf xl0h.mk (vlim E 3 (xl0h.c v0 v1 v2 v3 v4))
def laws_szTable.c (v0 : Int) (v1 : List (List Int × Int)) (v2 : Int) : List Cell := ac [iL v0, .d .fro (.sl (.pair (.sl (.int .i64)) (.int .i64))) v1] :: vc (iL v2) :: []
def laws_szTable.mk (b : Int) : R := (⟨.one, [iL b]⟩, nn 2 ([]))
def laws_szTable.un (r : R) : Int := ((leafR r 0).dat (.int .i64))
noncomputable def laws_szTable (v0 : Int) (v1 : List (List Int × Int)) (v2 : Int) : Option (Int) := tOf laws_szTable.mk (vlim E 13 (laws_szTable.c v0 v1 v2))
def laws_szWeightedS.c (v0 : List (List Int × Int)) (v1 : Int) : List Cell := vc (.d .fro (.sl (.pair (.sl (.int .i64)) (.int .i64))) v0) :: vc (iL v1) :: []
def laws_szWeightedS.mk (b : Int) : R := (⟨.one, [iL b]⟩, nn 2 ([]))
def laws_szWeightedS.un (r : R) : Int := ((leafR r 0).dat (.int .i64))
noncomputable def laws_szWeightedS (v0 : List (List Int × Int)) (v1 : Int) : Option (Int) := tOf laws_szWeightedS.mk (vlim E 64 (laws_szWeightedS.c v0 v1))
def laws_szWeighted.c (v0 : List Int) (v1 : Int) (v2 : Int) : List Cell := ac [.d .fro (.sl (.int .i64)) v0, iL v1] :: vc (iL v2) :: []
def laws_szWeighted.mk (b : Int) : R := (⟨.one, [iL b]⟩, nn 2 ([]))
def laws_szWeighted.un (r : R) : Int := ((leafR r 0).dat (.int .i64))
noncomputable def laws_szWeighted (v0 : List Int) (v1 : Int) (v2 : Int) : Option (Int) := tOf laws_szWeighted.mk (vlim E 133 (laws_szWeighted.c v0 v1 v2))
def laws_szRow.c (v0 : List Int) (v1 : Int) : List Cell := ac [.d .fro (.sl (.int .i64)) v0] :: vc (iL v1) :: []
def laws_szRow.mk (b : Int) : R := (⟨.one, [iL b]⟩, nn 2 ([]))
def laws_szRow.un (r : R) : Int := ((leafR r 0).dat (.int .i64))
noncomputable def laws_szRow (v0 : List Int) (v1 : Int) : Option (Int) := tOf laws_szRow.mk (vlim E 153 (laws_szRow.c v0 v1))
def laws_szIntS.c (v0 : List Int) (v1 : Int) : List Cell := vc (.d .fro (.sl (.int .i64)) v0) :: vc (iL v1) :: []
def laws_szIntS.mk (b : Int) : R := (⟨.one, [iL b]⟩, nn 2 ([]))
def laws_szIntS.un (r : R) : Int := ((leafR r 0).dat (.int .i64))
noncomputable def laws_szIntS (v0 : List Int) (v1 : Int) : Option (Int) := tOf laws_szIntS.mk (vlim E 65 (laws_szIntS.c v0 v1))
def laws_szIntSS.c (v0 : List (List Int)) (v1 : Int) : List Cell := vc (.d .fro (.sl (.sl (.int .i64))) v0) :: vc (iL v1) :: []
def laws_szIntSS.mk (b : Int) : R := (⟨.one, [iL b]⟩, nn 2 ([]))
def laws_szIntSS.un (r : R) : Int := ((leafR r 0).dat (.int .i64))
noncomputable def laws_szIntSS (v0 : List (List Int)) (v1 : Int) : Option (Int) := tOf laws_szIntSS.mk (vlim E 14 (laws_szIntSS.c v0 v1))
def laws_toTable.c (v0 : Int) (v1 : List (List Int × Int)) : List Cell := ac [iL v0, .d .fro (.sl (.pair (.sl (.int .i64)) (.int .i64))) v1] :: []
def laws_toTable.mk (b : Int × (List (List Int × Int))) : R := (⟨.agg, [iL b.1, .d .deep (.sl (.pair (.sl (.int .i64)) (.int .i64))) b.2]⟩, nn 1 ([]))
def laws_toTable.un (r : R) : Int × (List (List Int × Int)) := ((leafR r 0).dat (.int .i64), (leafR r 1).dat (.sl (.pair (.sl (.int .i64)) (.int .i64))))
noncomputable def laws_toTable (v0 : Int) (v1 : List (List Int × Int)) : Option (Int × (List (List Int × Int))) := tOf laws_toTable.mk (vlim E 16 (laws_toTable.c v0 v1))
def laws_toWeightedS.c (v0 : List (List Int × Int)) : List Cell := vc (.d .fro (.sl (.pair (.sl (.int .i64)) (.int .i64))) v0) :: []
def laws_toWeightedS.mk (b : (List (List Int × Int))) : R := (⟨.one, [.d .deep (.sl (.pair (.sl (.int .i64)) (.int .i64))) b]⟩, nn 1 ([]))
def laws_toWeightedS.un (r : R) : (List (List Int × Int)) := ((leafR r 0).dat (.sl (.pair (.sl (.int .i64)) (.int .i64))))
noncomputable def laws_toWeightedS (v0 : List (List Int × Int)) : Option ((List (List Int × Int))) := tOf laws_toWeightedS.mk (vlim E 70 (laws_toWeightedS.c v0))
def laws_toWeighted.c (v0 : List Int) (v1 : Int) : List Cell := ac [.d .fro (.sl (.int .i64)) v0, iL v1] :: []
def laws_toWeighted.mk (b : (List Int) × Int) : R := (⟨.agg, [.d .deep (.sl (.int .i64)) b.1, iL b.2]⟩, nn 1 ([]))
def laws_toWeighted.un (r : R) : (List Int) × Int := ((leafR r 0).dat (.sl (.int .i64)), (leafR r 1).dat (.int .i64))
noncomputable def laws_toWeighted (v0 : List Int) (v1 : Int) : Option ((List Int) × Int) := tOf laws_toWeighted.mk (vlim E 139 (laws_toWeighted.c v0 v1))
def laws_toRow.c (v0 : List Int) : List Cell := ac [.d .fro (.sl (.int .i64)) v0] :: []
def laws_toRow.mk (b : (List Int)) : R := (⟨.agg, [.d .deep (.sl (.int .i64)) b]⟩, nn 1 ([]))
def laws_toRow.un (r : R) : (List Int) := ((leafR r 0).dat (.sl (.int .i64)))
noncomputable def laws_toRow (v0 : List Int) : Option ((List Int)) := tOf laws_toRow.mk (vlim E 157 (laws_toRow.c v0))
def laws_toIntS.c (v0 : List Int) : List Cell := vc (.d .fro (.sl (.int .i64)) v0) :: []
def laws_toIntS.mk (b : (List Int)) : R := (⟨.one, [.d .deep (.sl (.int .i64)) b]⟩, nn 1 ([]))
def laws_toIntS.un (r : R) : (List Int) := ((leafR r 0).dat (.sl (.int .i64)))
noncomputable def laws_toIntS (v0 : List Int) : Option ((List Int)) := tOf laws_toIntS.mk (vlim E 71 (laws_toIntS.c v0))
def laws_toIntSS.c (v0 : List (List Int)) : List Cell := vc (.d .fro (.sl (.sl (.int .i64))) v0) :: []
def laws_toIntSS.mk (b : (List (List Int))) : R := (⟨.one, [.d .deep (.sl (.sl (.int .i64))) b]⟩, nn 1 ([]))
def laws_toIntSS.un (r : R) : (List (List Int)) := ((leafR r 0).dat (.sl (.sl (.int .i64))))
noncomputable def laws_toIntSS (v0 : List (List Int)) : Option ((List (List Int))) := tOf laws_toIntSS.mk (vlim E 17 (laws_toIntSS.c v0))
def spec_SemiJoin.c (v0 : Int) (v1 : List (List Int × Int)) (v2 : Int) (v3 : List (List Int × Int)) (v4 : List (List Int)) : List Cell := ac [iL v0, .d .fro (.sl (.pair (.sl (.int .i64)) (.int .i64))) v1] :: ac [iL v2, .d .fro (.sl (.pair (.sl (.int .i64)) (.int .i64))) v3] :: vc (.d .fro (.sl (.sl (.int .i64))) v4) :: []
def spec_SemiJoin.mk (b : Int × (List (List Int × Int)) × Bool) : R := (⟨(.tup [some 2, none]), [iL b.1, .d .deep (.sl (.pair (.sl (.int .i64)) (.int .i64))) b.2.1, bL b.2.2]⟩, nn 3 ([]))
def spec_SemiJoin.un (r : R) : Int × (List (List Int × Int)) × Bool := ((leafR r 0).dat (.int .i64), (leafR r 1).dat (.sl (.pair (.sl (.int .i64)) (.int .i64))), (leafR r 2).dat .bool)
noncomputable def spec_SemiJoin (v0 : Int) (v1 : List (List Int × Int)) (v2 : Int) (v3 : List (List Int × Int)) (v4 : List (List Int)) : Option (Int × (List (List Int × Int)) × Bool) := tOf spec_SemiJoin.mk (vlim E 15 (spec_SemiJoin.c v0 v1 v2 v3 v4))
def spec_GoodTable.c (v0 : Int) (v1 : List (List Int × Int)) : List Cell := ac [iL v0, .d .fro (.sl (.pair (.sl (.int .i64)) (.int .i64))) v1] :: []
def spec_GoodTable.mk (b : Bool) : R := (⟨.one, [bL b]⟩, nn 1 ([]))
def spec_GoodTable.un (r : R) : Bool := ((leafR r 0).dat .bool)
noncomputable def spec_GoodTable (v0 : Int) (v1 : List (List Int × Int)) : Option (Bool) := tOf spec_GoodTable.mk (vlim E 66 (spec_GoodTable.c v0 v1))
def spec_GoodRow.c (v0 : List Int) : List Cell := ac [.d .fro (.sl (.int .i64)) v0] :: []
def spec_GoodRow.mk (b : Bool) : R := (⟨.one, [bL b]⟩, nn 1 ([]))
def spec_GoodRow.un (r : R) : Bool := ((leafR r 0).dat .bool)
noncomputable def spec_GoodRow (v0 : List Int) : Option (Bool) := tOf spec_GoodRow.mk (vlim E 134 (spec_GoodRow.c v0))
def spec_l1In.c (v0 : Int) (v1 : Int) (v2 : Int) : List Cell := vc (iL v0) :: vc (iL v1) :: vc (iL v2) :: []
def spec_l1In.mk (b : Bool) : R := (⟨.one, [bL b]⟩, nn 3 ([]))
def spec_l1In.un (r : R) : Bool := ((leafR r 0).dat .bool)
noncomputable def spec_l1In (v0 : Int) (v1 : Int) (v2 : Int) : Option (Bool) := tOf spec_l1In.mk (vlim E 137 (spec_l1In.c v0 v1 v2))
def spec_l2Weight.c (v0 : Int) : List Cell := vc (iL v0) :: []
def spec_l2Weight.mk (b : Bool) : R := (⟨.one, [bL b]⟩, nn 1 ([]))
def spec_l2Weight.un (r : R) : Bool := ((leafR r 0).dat .bool)
noncomputable def spec_l2Weight (v0 : Int) : Option (Bool) := tOf spec_l2Weight.mk (vlim E 135 (spec_l2Weight.c v0))
def spec_l1Compare.c (v0 : List Int) (v1 : List Int) : List Cell := ac [.d .fro (.sl (.int .i64)) v0] :: ac [.d .fro (.sl (.int .i64)) v1] :: []
def spec_l1Compare.mk (b : Int) : R := (⟨.one, [iL b]⟩, nn 2 ([]))
def spec_l1Compare.un (r : R) : Int := ((leafR r 0).dat (.int .i64))
noncomputable def spec_l1Compare (v0 : List Int) (v1 : List Int) : Option (Int) := tOf spec_l1Compare.mk (vlim E 136 (spec_l1Compare.c v0 v1))
def spec_l1Pairs.c (v0 : List (List Int)) (v1 : Int) (v2 : Int) : List Cell := vc (.d .fro (.sl (.sl (.int .i64))) v0) :: vc (iL v1) :: vc (iL v2) :: []
def spec_l1Pairs.mk (b : Bool) : R := (⟨.one, [bL b]⟩, nn 3 ([]))
def spec_l1Pairs.un (r : R) : Bool := ((leafR r 0).dat .bool)
noncomputable def spec_l1Pairs (v0 : List (List Int)) (v1 : Int) (v2 : Int) : Option (Bool) := tOf spec_l1Pairs.mk (vlim E 67 (spec_l1Pairs.c v0 v1 v2))
def spec_l11Semi.c (v0 : List (List Int × Int)) (v1 : List (List Int × Int)) (v2 : List (List Int)) : List Cell := vc (.d .fro (.sl (.pair (.sl (.int .i64)) (.int .i64))) v0) :: vc (.d .fro (.sl (.pair (.sl (.int .i64)) (.int .i64))) v1) :: vc (.d .fro (.sl (.sl (.int .i64))) v2) :: []
def spec_l11Semi.mk (b : (List (List Int × Int))) : R := (⟨.one, [.d .sha (.sl (.pair (.sl (.int .i64)) (.int .i64))) b]⟩, nn 3 ([]))
def spec_l11Semi.un (r : R) : (List (List Int × Int)) := ((leafR r 0).dat (.sl (.pair (.sl (.int .i64)) (.int .i64))))
noncomputable def spec_l11Semi (v0 : List (List Int × Int)) (v1 : List (List Int × Int)) (v2 : List (List Int)) : Option ((List (List Int × Int))) := tOf spec_l11Semi.mk (vlim E 69 (spec_l11Semi.c v0 v1 v2))
def spec_l2Tell.c (v0 : Int) (v1 : List (List Int × Int)) : List Cell := vc (iL v0) :: vc (.d .fro (.sl (.pair (.sl (.int .i64)) (.int .i64))) v1) :: []
def spec_l2Tell.mk (b : Int × (List (List Int × Int)) × Bool) : R := (⟨(.tup [some 2, none]), [iL b.1, .d .deep (.sl (.pair (.sl (.int .i64)) (.int .i64))) b.2.1, bL b.2.2]⟩, nn 2 ([]))
def spec_l2Tell.un (r : R) : Int × (List (List Int × Int)) × Bool := ((leafR r 0).dat (.int .i64), (leafR r 1).dat (.sl (.pair (.sl (.int .i64)) (.int .i64))), (leafR r 2).dat .bool)
noncomputable def spec_l2Tell (v0 : Int) (v1 : List (List Int × Int)) : Option (Int × (List (List Int × Int)) × Bool) := tOf spec_l2Tell.mk (vlim E 68 (spec_l2Tell.c v0 v1))
def spec_l2OwnRow.c (v0 : List Int) : List Cell := ac [.d .fro (.sl (.int .i64)) v0] :: []
def spec_l2OwnRow.mk (b : (List Int)) : R := (⟨.agg, [.d .deep (.sl (.int .i64)) b]⟩, nn 1 ([]))
def spec_l2OwnRow.un (r : R) : (List Int) := ((leafR r 0).dat (.sl (.int .i64)))
noncomputable def spec_l2OwnRow (v0 : List Int) : Option ((List Int)) := tOf spec_l2OwnRow.mk (vlim E 138 (spec_l2OwnRow.c v0))
def impl_SemiJoin.c (v0 : Int) (v1 : List (List Int × Int)) (v2 : Int) (v3 : List (List Int × Int)) (v4 : List (List Int)) : List Cell := ac [iL v0, .d .fro (.sl (.pair (.sl (.int .i64)) (.int .i64))) v1] :: ac [iL v2, .d .fro (.sl (.pair (.sl (.int .i64)) (.int .i64))) v3] :: vc (.d .fro (.sl (.sl (.int .i64))) v4) :: []
def impl_SemiJoin.mk (b : Int × (List (List Int × Int)) × Bool) : R := (⟨(.tup [some 2, none]), [iL b.1, .d .deep (.sl (.pair (.sl (.int .i64)) (.int .i64))) b.2.1, bL b.2.2]⟩, nn 3 ([]))
def impl_SemiJoin.un (r : R) : Int × (List (List Int × Int)) × Bool := ((leafR r 0).dat (.int .i64), (leafR r 1).dat (.sl (.pair (.sl (.int .i64)) (.int .i64))), (leafR r 2).dat .bool)
noncomputable def impl_SemiJoin (v0 : Int) (v1 : List (List Int × Int)) (v2 : Int) (v3 : List (List Int × Int)) (v4 : List (List Int)) : Option (Int × (List (List Int × Int)) × Bool) := tOf impl_SemiJoin.mk (vlim E 18 (impl_SemiJoin.c v0 v1 v2 v3 v4))
def impl_GoodTable.c (v0 : Int) (v1 : List (List Int × Int)) : List Cell := ac [iL v0, .d .fro (.sl (.pair (.sl (.int .i64)) (.int .i64))) v1] :: []
def impl_GoodTable.mk (b : Bool) : R := (⟨.one, [bL b]⟩, nn 1 ([]))
def impl_GoodTable.un (r : R) : Bool := ((leafR r 0).dat .bool)
noncomputable def impl_GoodTable (v0 : Int) (v1 : List (List Int × Int)) : Option (Bool) := tOf impl_GoodTable.mk (vlim E 72 (impl_GoodTable.c v0 v1))
def impl_isColumns.c (v0 : Int) : List Cell := vc (iL v0) :: []
def impl_isColumns.mk (b : Bool) : R := (⟨.one, [bL b]⟩, nn 1 ([]))
def impl_isColumns.un (r : R) : Bool := ((leafR r 0).dat .bool)
noncomputable def impl_isColumns (v0 : Int) : Option (Bool) := tOf impl_isColumns.mk (vlim E 140 (impl_isColumns.c v0))
def impl_within.c (v0 : Int) (v1 : Int) (v2 : Int) : List Cell := vc (iL v0) :: vc (iL v1) :: vc (iL v2) :: []
def impl_within.mk (b : Bool) : R := (⟨.one, [bL b]⟩, nn 3 ([]))
def impl_within.un (r : R) : Bool := ((leafR r 0).dat .bool)
noncomputable def impl_within (v0 : Int) (v1 : Int) (v2 : Int) : Option (Bool) := tOf impl_within.mk (vlim E 158 (impl_within.c v0 v1 v2))
def impl_isRowOf.c (v0 : List Int) (v1 : Int) : List Cell := ac [.d .fro (.sl (.int .i64)) v0] :: vc (iL v1) :: []
def impl_isRowOf.mk (b : Bool) : R := (⟨.one, [bL b]⟩, nn 2 ([]))
def impl_isRowOf.un (r : R) : Bool := ((leafR r 0).dat .bool)
noncomputable def impl_isRowOf (v0 : List Int) (v1 : Int) : Option (Bool) := tOf impl_isRowOf.mk (vlim E 141 (impl_isRowOf.c v0 v1))
def impl_GoodRow.c (v0 : List Int) : List Cell := ac [.d .fro (.sl (.int .i64)) v0] :: []
def impl_GoodRow.mk (b : Bool) : R := (⟨.one, [bL b]⟩, nn 1 ([]))
def impl_GoodRow.un (r : R) : Bool := ((leafR r 0).dat .bool)
noncomputable def impl_GoodRow (v0 : List Int) : Option (Bool) := tOf impl_GoodRow.mk (vlim E 197 (impl_GoodRow.c v0))
def xi0c.c (v0 : List Int) : List Cell := vc (.d .fro (.sl (.int .i64)) v0) :: vc (.fn 223 []) :: []
def xi0c.mk (b : Bool) : R := (⟨.one, [bL b]⟩, nn 2 ([]))
def xi0c.un (r : R) : Bool := ((leafR r 0).dat .bool)
noncomputable def xi0c (v0 : List Int) : Option (Bool) := tOf xi0c.mk (vlim E 161 (xi0c.c v0))
def xs04.c (v0 : List Int) : List Cell := vc (.d .fro (.sl (.int .i64)) v0) :: vc (.fn 206 [.rp [.fn 223 []] 0]) :: []
def xs04.mk (b : Bool) : R := (⟨.one, [bL b]⟩, nn 2 ([]))
def xs04.un (r : R) : Bool := ((leafR r 0).dat .bool)
noncomputable def xs04 (v0 : List Int) : Option (Bool) := tOf xs04.mk (vlim E 205 (xs04.c v0))
def xs05.c (v0 : List Int) : List Cell := vc (.d .fro (.sl (.int .i64)) v0) :: vc (.fn 206 [.rp [.fn 223 []] 0]) :: []
def xs05.mk (b : Int) : R := (⟨.one, [iL b]⟩, nn 2 ([]))
def xs05.un (r : R) : Int := ((leafR r 0).dat (.int .i64))
noncomputable def xs05 (v0 : List Int) : Option (Int) := tOf xs05.mk (vlim E 228 (xs05.c v0))
def xi0b.c (v0 : Int) : List Cell := vc (iL v0) :: vc (.rp [.fn 223 []] 0) :: []
def xi0b.mk (b : Bool) : R := (⟨.one, [bL b]⟩, nn 2 ([]))
def xi0b.un (r : R) : Bool := ((leafR r 0).dat .bool)
noncomputable def xi0b (v0 : Int) : Option (Bool) := tOf xi0b.mk (vlim E 206 (xi0b.c v0))
def impl_isCell.c (v0 : Int) : List Cell := vc (iL v0) :: []
def impl_isCell.mk (b : Bool) : R := (⟨.one, [bL b]⟩, nn 1 ([]))
def impl_isCell.un (r : R) : Bool := ((leafR r 0).dat .bool)
noncomputable def impl_isCell (v0 : Int) : Option (Bool) := tOf impl_isCell.mk (vlim E 223 (impl_isCell.c v0))
def impl_isWeight.c (v0 : Int) : List Cell := vc (iL v0) :: []
def impl_isWeight.mk (b : Bool) : R := (⟨.one, [bL b]⟩, nn 1 ([]))
def impl_isWeight.un (r : R) : Bool := ((leafR r 0).dat .bool)
noncomputable def impl_isWeight (v0 : Int) : Option (Bool) := tOf impl_isWeight.mk (vlim E 142 (impl_isWeight.c v0))
def impl_compareRows.c (v0 : List Int) (v1 : List Int) : List Cell := ac [.d .fro (.sl (.int .i64)) v0] :: ac [.d .fro (.sl (.int .i64)) v1] :: []
def impl_compareRows.mk (b : Int) : R := (⟨.one, [iL b]⟩, nn 2 ([]))
def impl_compareRows.un (r : R) : Int := ((leafR r 0).dat (.int .i64))
noncomputable def impl_compareRows (v0 : List Int) (v1 : List Int) : Option (Int) := tOf impl_compareRows.mk (vlim E 143 (impl_compareRows.c v0 v1))
def xs0f.c (v0 : List Int) (v1 : List Int) : List Cell := vc (.d .fro (.sl (.int .i64)) v0) :: vc (.d .fro (.sl (.int .i64)) v1) :: []
def xs0f.mk (b : Int) : R := (⟨.one, [iL b]⟩, nn 2 ([]))
def xs0f.un (r : R) : Int := ((leafR r 0).dat (.int .i64))
noncomputable def xs0f (v0 : List Int) (v1 : List Int) : Option (Int) := tOf xs0f.mk (vlim E 198 (xs0f.c v0 v1))
def cmp_Compare_int.c (v0 : Int) (v1 : Int) : List Cell := vc (iL v0) :: vc (iL v1) :: []
def cmp_Compare_int.mk (b : Int) : R := (⟨.one, [iL b]⟩, nn 2 ([]))
def cmp_Compare_int.un (r : R) : Int := ((leafR r 0).dat (.int .i64))
noncomputable def cmp_Compare_int (v0 : Int) (v1 : Int) : Option (Int) := tOf cmp_Compare_int.mk (vlim E 224 (cmp_Compare_int.c v0 v1))
def cmp_isNaN_int.c (v0 : Int) : List Cell := vc (iL v0) :: []
def cmp_isNaN_int.mk (b : Bool) : R := (⟨.one, [bL b]⟩, nn 1 ([]))
def cmp_isNaN_int.un (r : R) : Bool := ((leafR r 0).dat .bool)
noncomputable def cmp_isNaN_int (v0 : Int) : Option (Bool) := tOf cmp_isNaN_int.mk (vlim E 236 (cmp_isNaN_int.c v0))
def impl_arePairs.c (v0 : List (List Int)) (v1 : Int) (v2 : Int) : List Cell := vc (.d .fro (.sl (.sl (.int .i64))) v0) :: vc (iL v1) :: vc (iL v2) :: []
def impl_arePairs.mk (b : Bool) : R := (⟨.one, [bL b]⟩, nn 3 ([]))
def impl_arePairs.un (r : R) : Bool := ((leafR r 0).dat .bool)
noncomputable def impl_arePairs (v0 : List (List Int)) (v1 : Int) (v2 : Int) : Option (Bool) := tOf impl_arePairs.mk (vlim E 73 (impl_arePairs.c v0 v1 v2))
def xi0a.c (v0 : List (List Int)) (v1 : Int) (v2 : Int) : List Cell := vc (.d .fro (.sl (.sl (.int .i64))) v0) :: vc (.fn 145 [.rp [iL v1] 0, .rp [iL v2] 0]) :: []
def xi0a.mk (b : Bool) : R := (⟨.one, [bL b]⟩, nn 2 ([]))
def xi0a.un (r : R) : Bool := ((leafR r 0).dat .bool)
noncomputable def xi0a (v0 : List (List Int)) (v1 : Int) (v2 : Int) : Option (Bool) := tOf xi0a.mk (vlim E 144 (xi0a.c v0 v1 v2))
def xs02.c (v0 : List (List Int)) (v1 : Int) (v2 : Int) : List Cell := vc (.d .fro (.sl (.sl (.int .i64))) v0) :: vc (.fn 200 [.rp [.fn 145 [.rp [iL v1] 0, .rp [iL v2] 0]] 0]) :: []
def xs02.mk (b : Bool) : R := (⟨.one, [bL b]⟩, nn 2 ([]))
def xs02.un (r : R) : Bool := ((leafR r 0).dat .bool)
noncomputable def xs02 (v0 : List (List Int)) (v1 : Int) (v2 : Int) : Option (Bool) := tOf xs02.mk (vlim E 199 (xs02.c v0 v1 v2))
def xs03.c (v0 : List (List Int)) (v1 : Int) (v2 : Int) : List Cell := vc (.d .fro (.sl (.sl (.int .i64))) v0) :: vc (.fn 200 [.rp [.fn 145 [.rp [iL v1] 0, .rp [iL v2] 0]] 0]) :: []
def xs03.mk (b : Int) : R := (⟨.one, [iL b]⟩, nn 2 ([]))
def xs03.un (r : R) : Int := ((leafR r 0).dat (.int .i64))
noncomputable def xs03 (v0 : List (List Int)) (v1 : Int) (v2 : Int) : Option (Int) := tOf xs03.mk (vlim E 225 (xs03.c v0 v1 v2))
def xi09.c (v0 : List Int) (v1 : Int) (v2 : Int) : List Cell := vc (.d .fro (.sl (.int .i64)) v0) :: vc (.rp [.fn 145 [.rp [iL v1] 0, .rp [iL v2] 0]] 0) :: []
def xi09.mk (b : Bool) : R := (⟨.one, [bL b]⟩, nn 2 ([]))
def xi09.un (r : R) : Bool := ((leafR r 0).dat .bool)
noncomputable def xi09 (v0 : List Int) (v1 : Int) (v2 : Int) : Option (Bool) := tOf xi09.mk (vlim E 200 (xi09.c v0 v1 v2))
def impl_arePairs_1.c (v0 : List Int) (v1 : Int) (v2 : Int) : List Cell := vc (.d .fro (.sl (.int .i64)) v0) :: vc (.rp [iL v1] 0) :: vc (.rp [iL v2] 0) :: []
def impl_arePairs_1.mk (b : Bool) : R := (⟨.one, [bL b]⟩, nn 3 ([]))
def impl_arePairs_1.un (r : R) : Bool := ((leafR r 0).dat .bool)
noncomputable def impl_arePairs_1 (v0 : List Int) (v1 : Int) (v2 : Int) : Option (Bool) := tOf impl_arePairs_1.mk (vlim E 145 (impl_arePairs_1.c v0 v1 v2))
def impl_isPlace.c (v0 : Int) (v1 : Int) : List Cell := vc (iL v0) :: vc (iL v1) :: []
def impl_isPlace.mk (b : Bool) : R := (⟨.one, [bL b]⟩, nn 2 ([]))
def impl_isPlace.un (r : R) : Bool := ((leafR r 0).dat .bool)
noncomputable def impl_isPlace (v0 : Int) (v1 : Int) : Option (Bool) := tOf impl_isPlace.mk (vlim E 146 (impl_isPlace.c v0 v1))
def xi0j.c (v0 : Int) (v1 : List (List Int × Int)) (v2 : Int) (v3 : List (List Int × Int)) (v4 : List (List Int)) : List Cell := ac [iL v0, .d .fro (.sl (.pair (.sl (.int .i64)) (.int .i64))) v1] :: ac [iL v2, .d .fro (.sl (.pair (.sl (.int .i64)) (.int .i64))) v3] :: vc (.d .fro (.sl (.sl (.int .i64))) v4) :: []
def xi0j.mk (b : Int × (List (List Int × Int))) : R := (⟨.agg, [iL b.1, .d .deep (.sl (.pair (.sl (.int .i64)) (.int .i64))) b.2]⟩, nn 3 ([]))
def xi0j.un (r : R) : Int × (List (List Int × Int)) := ((leafR r 0).dat (.int .i64), (leafR r 1).dat (.sl (.pair (.sl (.int .i64)) (.int .i64))))
noncomputable def xi0j (v0 : Int) (v1 : List (List Int × Int)) (v2 : Int) (v3 : List (List Int × Int)) (v4 : List (List Int)) : Option (Int × (List (List Int × Int))) := tOf xi0j.mk (vlim E 74 (xi0j.c v0 v1 v2 v3 v4))
def xi08.c (v0 : Int) (v1 : List (List Int × Int)) (v2 : Int) (v3 : List (List Int × Int)) (v4 : List (List Int)) : List Cell := ac [iL v0, .d .fro (.sl (.pair (.sl (.int .i64)) (.int .i64))) v1] :: vc (.fn 147 [.rp [iL v2, .d .fro (.sl (.pair (.sl (.int .i64)) (.int .i64))) v3] 0, .rp [.d .fro (.sl (.sl (.int .i64))) v4] 0]) :: []
def xi08.mk (b : Int × (List (List Int × Int))) : R := (⟨.agg, [iL b.1, .d .deep (.sl (.pair (.sl (.int .i64)) (.int .i64))) b.2]⟩, nn 2 ([]))
def xi08.un (r : R) : Int × (List (List Int × Int)) := ((leafR r 0).dat (.int .i64), (leafR r 1).dat (.sl (.pair (.sl (.int .i64)) (.int .i64))))
noncomputable def xi08 (v0 : Int) (v1 : List (List Int × Int)) (v2 : Int) (v3 : List (List Int × Int)) (v4 : List (List Int)) : Option (Int × (List (List Int × Int))) := tOf xi08.mk (vlim E 122 (xi08.c v0 v1 v2 v3 v4))
def xi0g.c (v0 : List Int) (v1 : Int) (v2 : Int) (v3 : List (List Int × Int)) (v4 : List (List Int)) : List Cell := ac [.d .fro (.sl (.int .i64)) v0, iL v1] :: vc (.rp [iL v2, .d .fro (.sl (.pair (.sl (.int .i64)) (.int .i64))) v3] 0) :: vc (.rp [.d .fro (.sl (.sl (.int .i64))) v4] 0) :: []
def xi0g.mk (b : Int) : R := (⟨.one, [iL b]⟩, nn 3 ([]))
def xi0g.un (r : R) : Int := ((leafR r 0).dat (.int .i64))
noncomputable def xi0g (v0 : List Int) (v1 : Int) (v2 : Int) (v3 : List (List Int × Int)) (v4 : List (List Int)) : Option (Int) := tOf xi0g.mk (vlim E 147 (xi0g.c v0 v1 v2 v3 v4))
def xi07.c (v0 : List (List Int)) (v1 : List Int) (v2 : Int) (v3 : List Int) (v4 : Int) : List Cell := vc (.d .fro (.sl (.sl (.int .i64))) v0) :: vc (.fn 148 [.rp [.d .fro (.sl (.int .i64)) v1, iL v2] 0, .rp [.d .fro (.sl (.int .i64)) v3, iL v4] 0]) :: []
def xi07.mk (b : Bool) : R := (⟨.one, [bL b]⟩, nn 2 ([]))
def xi07.un (r : R) : Bool := ((leafR r 0).dat .bool)
noncomputable def xi07 (v0 : List (List Int)) (v1 : List Int) (v2 : Int) (v3 : List Int) (v4 : Int) : Option (Bool) := tOf xi07.mk (vlim E 144 (xi07.c v0 v1 v2 v3 v4))
def xs00.c (v0 : List (List Int)) (v1 : List Int) (v2 : Int) (v3 : List Int) (v4 : Int) : List Cell := vc (.d .fro (.sl (.sl (.int .i64))) v0) :: vc (.fn 200 [.rp [.fn 148 [.rp [.d .fro (.sl (.int .i64)) v1, iL v2] 0, .rp [.d .fro (.sl (.int .i64)) v3, iL v4] 0]] 0]) :: []
def xs00.mk (b : Bool) : R := (⟨.one, [bL b]⟩, nn 2 ([]))
def xs00.un (r : R) : Bool := ((leafR r 0).dat .bool)
noncomputable def xs00 (v0 : List (List Int)) (v1 : List Int) (v2 : Int) (v3 : List Int) (v4 : Int) : Option (Bool) := tOf xs00.mk (vlim E 199 (xs00.c v0 v1 v2 v3 v4))
def xs01.c (v0 : List (List Int)) (v1 : List Int) (v2 : Int) (v3 : List Int) (v4 : Int) : List Cell := vc (.d .fro (.sl (.sl (.int .i64))) v0) :: vc (.fn 200 [.rp [.fn 148 [.rp [.d .fro (.sl (.int .i64)) v1, iL v2] 0, .rp [.d .fro (.sl (.int .i64)) v3, iL v4] 0]] 0]) :: []
def xs01.mk (b : Int) : R := (⟨.one, [iL b]⟩, nn 2 ([]))
def xs01.un (r : R) : Int := ((leafR r 0).dat (.int .i64))
noncomputable def xs01 (v0 : List (List Int)) (v1 : List Int) (v2 : Int) (v3 : List Int) (v4 : Int) : Option (Int) := tOf xs01.mk (vlim E 225 (xs01.c v0 v1 v2 v3 v4))
def xi06.c (v0 : List Int) (v1 : List Int) (v2 : Int) (v3 : List Int) (v4 : Int) : List Cell := vc (.d .fro (.sl (.int .i64)) v0) :: vc (.rp [.fn 148 [.rp [.d .fro (.sl (.int .i64)) v1, iL v2] 0, .rp [.d .fro (.sl (.int .i64)) v3, iL v4] 0]] 0) :: []
def xi06.mk (b : Bool) : R := (⟨.one, [bL b]⟩, nn 2 ([]))
def xi06.un (r : R) : Bool := ((leafR r 0).dat .bool)
noncomputable def xi06 (v0 : List Int) (v1 : List Int) (v2 : Int) (v3 : List Int) (v4 : Int) : Option (Bool) := tOf xi06.mk (vlim E 200 (xi06.c v0 v1 v2 v3 v4))
def xi0d.c (v0 : List Int) (v1 : List Int) (v2 : Int) (v3 : List Int) (v4 : Int) : List Cell := vc (.d .fro (.sl (.int .i64)) v0) :: vc (.rp [.d .fro (.sl (.int .i64)) v1, iL v2] 0) :: vc (.rp [.d .fro (.sl (.int .i64)) v3, iL v4] 0) :: []
def xi0d.mk (b : Bool) : R := (⟨.one, [bL b]⟩, nn 3 ([]))
def xi0d.un (r : R) : Bool := ((leafR r 0).dat .bool)
noncomputable def xi0d (v0 : List Int) (v1 : List Int) (v2 : Int) (v3 : List Int) (v4 : Int) : Option (Bool) := tOf xi0d.mk (vlim E 148 (xi0d.c v0 v1 v2 v3 v4))
def impl_Row_own.c (v0 : List Int) : List Cell := ac [.d .fro (.sl (.int .i64)) v0] :: []
def impl_Row_own.mk (b : (List Int)) : R := (⟨.agg, [.d .deep (.sl (.int .i64)) b]⟩, nn 1 ([]))
def impl_Row_own.un (r : R) : (List Int) := ((leafR r 0).dat (.sl (.int .i64)))
noncomputable def impl_Row_own (v0 : List Int) : Option ((List Int)) := tOf impl_Row_own.mk (vlim E 152 (impl_Row_own.c v0))
def xs0i.c (v0 : List Int) : List Cell := vc (.d .fro (.sl (.int .i64)) v0) :: []
def xs0i.mk (b : (List Int)) : R := (⟨.one, [.d .deep (.sl (.int .i64)) b]⟩, nn 1 ([]))
def xs0i.un (r : R) : (List Int) := ((leafR r 0).dat (.sl (.int .i64)))
noncomputable def xs0i (v0 : List Int) : Option ((List Int)) := tOf xs0i.mk (vlim E 178 (xs0i.c v0))
def laws_eqTable.c (v0 : Int) (v1 : List (List Int × Int)) (v2 : Int) (v3 : List (List Int × Int)) : List Cell := ac [iL v0, .d .fro (.sl (.pair (.sl (.int .i64)) (.int .i64))) v1] :: ac [iL v2, .d .fro (.sl (.pair (.sl (.int .i64)) (.int .i64))) v3] :: []
def laws_eqTable.mk (b : Bool) : R := (⟨.one, [bL b]⟩, nn 2 ([]))
def laws_eqTable.un (r : R) : Bool := ((leafR r 0).dat .bool)
noncomputable def laws_eqTable (v0 : Int) (v1 : List (List Int × Int)) (v2 : Int) (v3 : List (List Int × Int)) : Option (Bool) := tOf laws_eqTable.mk (vlim E 19 (laws_eqTable.c v0 v1 v2 v3))
def laws_eqWeightedS.c (v0 : List (List Int × Int)) (v1 : List (List Int × Int)) : List Cell := vc (.d .fro (.sl (.pair (.sl (.int .i64)) (.int .i64))) v0) :: vc (.d .fro (.sl (.pair (.sl (.int .i64)) (.int .i64))) v1) :: []
def laws_eqWeightedS.mk (b : Bool) : R := (⟨.one, [bL b]⟩, nn 2 ([]))
def laws_eqWeightedS.un (r : R) : Bool := ((leafR r 0).dat .bool)
noncomputable def laws_eqWeightedS (v0 : List (List Int × Int)) (v1 : List (List Int × Int)) : Option (Bool) := tOf laws_eqWeightedS.mk (vlim E 75 (laws_eqWeightedS.c v0 v1))
def laws_eqWeighted.c (v0 : List Int) (v1 : Int) (v2 : List Int) (v3 : Int) : List Cell := ac [.d .fro (.sl (.int .i64)) v0, iL v1] :: ac [.d .fro (.sl (.int .i64)) v2, iL v3] :: []
def laws_eqWeighted.mk (b : Bool) : R := (⟨.one, [bL b]⟩, nn 2 ([]))
def laws_eqWeighted.un (r : R) : Bool := ((leafR r 0).dat .bool)
noncomputable def laws_eqWeighted (v0 : List Int) (v1 : Int) (v2 : List Int) (v3 : Int) : Option (Bool) := tOf laws_eqWeighted.mk (vlim E 149 (laws_eqWeighted.c v0 v1 v2 v3))
def laws_eqRow.c (v0 : List Int) (v1 : List Int) : List Cell := ac [.d .fro (.sl (.int .i64)) v0] :: ac [.d .fro (.sl (.int .i64)) v1] :: []
def laws_eqRow.mk (b : Bool) : R := (⟨.one, [bL b]⟩, nn 2 ([]))
def laws_eqRow.un (r : R) : Bool := ((leafR r 0).dat .bool)
noncomputable def laws_eqRow (v0 : List Int) (v1 : List Int) : Option (Bool) := tOf laws_eqRow.mk (vlim E 168 (laws_eqRow.c v0 v1))
def laws_eqIntS.c (v0 : List Int) (v1 : List Int) : List Cell := vc (.d .fro (.sl (.int .i64)) v0) :: vc (.d .fro (.sl (.int .i64)) v1) :: []
def laws_eqIntS.mk (b : Bool) : R := (⟨.one, [bL b]⟩, nn 2 ([]))
def laws_eqIntS.un (r : R) : Bool := ((leafR r 0).dat .bool)
noncomputable def laws_eqIntS (v0 : List Int) (v1 : List Int) : Option (Bool) := tOf laws_eqIntS.mk (vlim E 76 (laws_eqIntS.c v0 v1))
def laws_eqIntSS.c (v0 : List (List Int)) (v1 : List (List Int)) : List Cell := vc (.d .fro (.sl (.sl (.int .i64))) v0) :: vc (.d .fro (.sl (.sl (.int .i64))) v1) :: []
def laws_eqIntSS.mk (b : Bool) : R := (⟨.one, [bL b]⟩, nn 2 ([]))
def laws_eqIntSS.un (r : R) : Bool := ((leafR r 0).dat .bool)
noncomputable def laws_eqIntSS (v0 : List (List Int)) (v1 : List (List Int)) : Option (Bool) := tOf laws_eqIntSS.mk (vlim E 20 (laws_eqIntSS.c v0 v1))
def laws_markTable_d7a.c (v0 : Int) (v1 : List (List Int × Int)) (v2 : Int) : List Cell := ⟨(.val .agg), [iL v0, .d .deep (.sl (.pair (.sl (.int .i64)) (.int .i64))) v1], true, false, false, 0, 0⟩ :: vc (iL v2) :: []
def laws_markTable_d7a.mk (b : Int × Int × (List (List Int × Int))) : R := (⟨.one, [iL b.1]⟩, ⟨(.val .agg), [iL b.2.1, .d .deep (.sl (.pair (.sl (.int .i64)) (.int .i64))) b.2.2], true, false, false, 0, 0⟩ :: nn 1 ([]))
def laws_markTable_d7a.un (r : R) : Int × Int × (List (List Int × Int)) := ((leafR r 0).dat (.int .i64), (leafF r 0 0).dat (.int .i64), (leafF r 0 1).dat (.sl (.pair (.sl (.int .i64)) (.int .i64))))
noncomputable def laws_markTable_d7a (v0 : Int) (v1 : List (List Int × Int)) (v2 : Int) : Option (Int × Int × (List (List Int × Int))) := tOf laws_markTable_d7a.mk (vlim E 21 (laws_markTable_d7a.c v0 v1 v2))
def xl0e.c (v0 : List (List Int × Int)) (v1 : Int) : List Cell := ⟨(.val .one), [.d .deep (.sl (.pair (.sl (.int .i64)) (.int .i64))) v0], true, false, false, 0, 0⟩ :: vc (iL v1) :: []
def xl0e.mk (b : Int × (List (List Int × Int))) : R := (⟨.one, [iL b.1]⟩, ⟨(.val .one), [.d .deep (.sl (.pair (.sl (.int .i64)) (.int .i64))) b.2], true, false, false, 0, 0⟩ :: nn 1 ([]))
def xl0e.un (r : R) : Int × (List (List Int × Int)) := ((leafR r 0).dat (.int .i64), (leafF r 0 0).dat (.sl (.pair (.sl (.int .i64)) (.int .i64))))
noncomputable def xl0e (v0 : List (List Int × Int)) (v1 : Int) : Option (Int × (List (List Int × Int))) := tOf xl0e.mk (vlim E 77 (xl0e.c v0 v1))
def laws_markIntS_83f.c (v0 : List Int) (v1 : Int) : List Cell := ⟨(.val .one), [.d .deep (.sl (.int .i64)) v0], true, false, false, 0, 0⟩ :: vc (iL v1) :: []
def laws_markIntS_83f.mk (b : Int × (List Int)) : R := (⟨.one, [iL b.1]⟩, ⟨(.val .one), [.d .deep (.sl (.int .i64)) b.2], true, false, false, 0, 0⟩ :: nn 1 ([]))
def laws_markIntS_83f.un (r : R) : Int × (List Int) := ((leafR r 0).dat (.int .i64), (leafF r 0 0).dat (.sl (.int .i64)))
noncomputable def laws_markIntS_83f (v0 : List Int) (v1 : Int) : Option (Int × (List Int)) := tOf laws_markIntS_83f.mk (vlim E 78 (laws_markIntS_83f.c v0 v1))
def laws_markIntSS_1f6.c (v0 : List (List Int)) (v1 : Int) : List Cell := ⟨(.val .one), [.d .deep (.sl (.sl (.int .i64))) v0], true, false, false, 0, 0⟩ :: vc (iL v1) :: []
def laws_markIntSS_1f6.mk (b : Int × (List (List Int))) : R := (⟨.one, [iL b.1]⟩, ⟨(.val .one), [.d .deep (.sl (.sl (.int .i64))) b.2], true, false, false, 0, 0⟩ :: nn 1 ([]))
def laws_markIntSS_1f6.un (r : R) : Int × (List (List Int)) := ((leafR r 0).dat (.int .i64), (leafF r 0 0).dat (.sl (.sl (.int .i64))))
noncomputable def laws_markIntSS_1f6 (v0 : List (List Int)) (v1 : Int) : Option (Int × (List (List Int))) := tOf laws_markIntSS_1f6.mk (vlim E 22 (laws_markIntSS_1f6.c v0 v1))
def laws_heldTable.c (v0 : Int) (v1 : List (List Int × Int)) (v2 : Int) : List Cell := ac [iL v0, .d .fro (.sl (.pair (.sl (.int .i64)) (.int .i64))) v1] :: vc (iL v2) :: []
def laws_heldTable.mk (b : Int) : R := (⟨.one, [iL b]⟩, nn 2 ([]))
def laws_heldTable.un (r : R) : Int := ((leafR r 0).dat (.int .i64))
noncomputable def laws_heldTable (v0 : Int) (v1 : List (List Int × Int)) (v2 : Int) : Option (Int) := tOf laws_heldTable.mk (vlim E 23 (laws_heldTable.c v0 v1 v2))
def laws_heldWeightedS.c (v0 : List (List Int × Int)) (v1 : Int) : List Cell := vc (.d .fro (.sl (.pair (.sl (.int .i64)) (.int .i64))) v0) :: vc (iL v1) :: []
def laws_heldWeightedS.mk (b : Int) : R := (⟨.one, [iL b]⟩, nn 2 ([]))
def laws_heldWeightedS.un (r : R) : Int := ((leafR r 0).dat (.int .i64))
noncomputable def laws_heldWeightedS (v0 : List (List Int × Int)) (v1 : Int) : Option (Int) := tOf laws_heldWeightedS.mk (vlim E 79 (laws_heldWeightedS.c v0 v1))
def laws_heldIntS.c (v0 : List Int) (v1 : Int) : List Cell := vc (.d .fro (.sl (.int .i64)) v0) :: vc (iL v1) :: []
def laws_heldIntS.mk (b : Int) : R := (⟨.one, [iL b]⟩, nn 2 ([]))
def laws_heldIntS.un (r : R) : Int := ((leafR r 0).dat (.int .i64))
noncomputable def laws_heldIntS (v0 : List Int) (v1 : Int) : Option (Int) := tOf laws_heldIntS.mk (vlim E 117 (laws_heldIntS.c v0 v1))
def tabT : List (Nat × List (List Cell × Tb)) := [
 (3, [(xl0h.c 0 [] 0 [] [], ⟨Bool, xl0h.mk⟩)]),
 (13, [(laws_szTable.c 0 [] 0, ⟨Int, laws_szTable.mk⟩)]),
 (14, [(laws_szIntSS.c [] 0, ⟨Int, laws_szIntSS.mk⟩)]),
 (15, [(spec_SemiJoin.c 0 [] 0 [] [], ⟨Int × (List (List Int × Int)) × Bool, spec_SemiJoin.mk⟩)]),
 (16, [(laws_toTable.c 0 [], ⟨Int × (List (List Int × Int)), laws_toTable.mk⟩)]),
 (17, [(laws_toIntSS.c [], ⟨(List (List Int)), laws_toIntSS.mk⟩)]),
 (18, [(impl_SemiJoin.c 0 [] 0 [] [], ⟨Int × (List (List Int × Int)) × Bool, impl_SemiJoin.mk⟩)]),
 (19, [(laws_eqTable.c 0 [] 0 [], ⟨Bool, laws_eqTable.mk⟩)]),
 (20, [(laws_eqIntSS.c [] [], ⟨Bool, laws_eqIntSS.mk⟩)]),
 (21, [(laws_markTable_d7a.c 0 [] 0, ⟨Int × Int × (List (List Int × Int)), laws_markTable_d7a.mk⟩)]),
 (22, [(laws_markIntSS_1f6.c [] 0, ⟨Int × (List (List Int)), laws_markIntSS_1f6.mk⟩)]),
 (23, [(laws_heldTable.c 0 [] 0, ⟨Int, laws_heldTable.mk⟩)]),
 (64, [(laws_szWeightedS.c [] 0, ⟨Int, laws_szWeightedS.mk⟩)]),
 (65, [(laws_szIntS.c [] 0, ⟨Int, laws_szIntS.mk⟩)]),
 (66, [(spec_GoodTable.c 0 [], ⟨Bool, spec_GoodTable.mk⟩)]),
 (67, [(spec_l1Pairs.c [] 0 0, ⟨Bool, spec_l1Pairs.mk⟩)]),
 (68, [(spec_l2Tell.c 0 [], ⟨Int × (List (List Int × Int)) × Bool, spec_l2Tell.mk⟩)]),
 (69, [(spec_l11Semi.c [] [] [], ⟨(List (List Int × Int)), spec_l11Semi.mk⟩)]),
 (70, [(laws_toWeightedS.c [], ⟨(List (List Int × Int)), laws_toWeightedS.mk⟩)]),
 (71, [(laws_toIntS.c [], ⟨(List Int), laws_toIntS.mk⟩)]),
 (72, [(impl_GoodTable.c 0 [], ⟨Bool, impl_GoodTable.mk⟩)]),
 (73, [(impl_arePairs.c [] 0 0, ⟨Bool, impl_arePairs.mk⟩)]),
 (74, [(xi0j.c 0 [] 0 [] [], ⟨Int × (List (List Int × Int)), xi0j.mk⟩)]),
 (75, [(laws_eqWeightedS.c [] [], ⟨Bool, laws_eqWeightedS.mk⟩)]),
 (76, [(laws_eqIntS.c [] [], ⟨Bool, laws_eqIntS.mk⟩)]),
 (77, [(xl0e.c [] 0, ⟨Int × (List (List Int × Int)), xl0e.mk⟩)]),
 (78, [(laws_markIntS_83f.c [] 0, ⟨Int × (List Int), laws_markIntS_83f.mk⟩)]),
 (79, [(laws_heldWeightedS.c [] 0, ⟨Int, laws_heldWeightedS.mk⟩)]),
 (117, [(laws_heldIntS.c [] 0, ⟨Int, laws_heldIntS.mk⟩)]),
 (122, [(xi08.c 0 [] 0 [] [], ⟨Int × (List (List Int × Int)), xi08.mk⟩)]),
 (133, [(laws_szWeighted.c [] 0 0, ⟨Int, laws_szWeighted.mk⟩)]),
 (134, [(spec_GoodRow.c [], ⟨Bool, spec_GoodRow.mk⟩)]),
 (135, [(spec_l2Weight.c 0, ⟨Bool, spec_l2Weight.mk⟩)]),
 (136, [(spec_l1Compare.c [] [], ⟨Int, spec_l1Compare.mk⟩)]),
 (137, [(spec_l1In.c 0 0 0, ⟨Bool, spec_l1In.mk⟩)]),
 (138, [(spec_l2OwnRow.c [], ⟨(List Int), spec_l2OwnRow.mk⟩)]),
 (139, [(laws_toWeighted.c [] 0, ⟨(List Int) × Int, laws_toWeighted.mk⟩)]),
 (140, [(impl_isColumns.c 0, ⟨Bool, impl_isColumns.mk⟩)]),
 (141, [(impl_isRowOf.c [] 0, ⟨Bool, impl_isRowOf.mk⟩)]),
 (142, [(impl_isWeight.c 0, ⟨Bool, impl_isWeight.mk⟩)]),
 (143, [(impl_compareRows.c [] [], ⟨Int, impl_compareRows.mk⟩)]),
 (144, [(xi0a.c [] 0 0, ⟨Bool, xi0a.mk⟩), (xi07.c [] [] 0 [] 0, ⟨Bool, xi07.mk⟩)]),
 (145, [(impl_arePairs_1.c [] 0 0, ⟨Bool, impl_arePairs_1.mk⟩)]),
 (146, [(impl_isPlace.c 0 0, ⟨Bool, impl_isPlace.mk⟩)]),
 (147, [(xi0g.c [] 0 0 [] [], ⟨Int, xi0g.mk⟩)]),
 (148, [(xi0d.c [] [] 0 [] 0, ⟨Bool, xi0d.mk⟩)]),
 (149, [(laws_eqWeighted.c [] 0 [] 0, ⟨Bool, laws_eqWeighted.mk⟩)]),
 (152, [(impl_Row_own.c [], ⟨(List Int), impl_Row_own.mk⟩)]),
 (153, [(laws_szRow.c [] 0, ⟨Int, laws_szRow.mk⟩)]),
 (157, [(laws_toRow.c [], ⟨(List Int), laws_toRow.mk⟩)]),
 (158, [(impl_within.c 0 0 0, ⟨Bool, impl_within.mk⟩)]),
 (161, [(xi0c.c [], ⟨Bool, xi0c.mk⟩)]),
 (168, [(laws_eqRow.c [] [], ⟨Bool, laws_eqRow.mk⟩)]),
 (178, [(xs0i.c [], ⟨(List Int), xs0i.mk⟩)]),
 (197, [(impl_GoodRow.c [], ⟨Bool, impl_GoodRow.mk⟩)]),
 (198, [(xs0f.c [] [], ⟨Int, xs0f.mk⟩)]),
 (199, [(xs02.c [] 0 0, ⟨Bool, xs02.mk⟩), (xs00.c [] [] 0 [] 0, ⟨Bool, xs00.mk⟩)]),
 (200, [(xi09.c [] 0 0, ⟨Bool, xi09.mk⟩), (xi06.c [] [] 0 [] 0, ⟨Bool, xi06.mk⟩)]),
 (205, [(xs04.c [], ⟨Bool, xs04.mk⟩)]),
 (206, [(xi0b.c 0, ⟨Bool, xi0b.mk⟩)]),
 (223, [(impl_isCell.c 0, ⟨Bool, impl_isCell.mk⟩)]),
 (224, [(cmp_Compare_int.c 0 0, ⟨Int, cmp_Compare_int.mk⟩)]),
 (225, [(xs03.c [] 0 0, ⟨Int, xs03.mk⟩), (xs01.c [] [] 0 [] 0, ⟨Int, xs01.mk⟩)]),
 (228, [(xs05.c [], ⟨Int, xs05.mk⟩)]),
 (236, [(cmp_isNaN_int.c 0, ⟨Bool, cmp_isNaN_int.mk⟩)])]
def tab : FuncId → List Cell → Tb := fun g cs => match assoc tabT g with | some l => pickT l cs | none => ⟨Unit, fun _ => (⟨.one, []⟩, [])⟩
end GoV

/- Equations of the program's functions (printed by wip/tools/emit.py). -/
namespace GoV
open Go Go.Proofs
set_option maxRecDepth 100000

noncomputable def xl0h.t {γ : Type} (ret : (Bool) → Option γ) (v0 : Int) (v1 : List (List Int × Int)) (v2 : Int) (v3 : List (List Int × Int)) (v4 : List (List Int)) : Option γ :=
 (laws_szTable (v0) (v1) ((1048576 : Int))).bind fun (r0 : Int) =>
 bif decide (r0 < (0 : Int)) then
  ret (Bool.true)
 else
  (laws_szTable (v2) (v3) (r0)).bind fun (r1 : Int) =>
  bif decide (r1 < (0 : Int)) then
   ret (Bool.true)
  else
   (laws_szIntSS (v4) (r1)).bind fun (r2 : Int) =>
   bif decide (r2 < (0 : Int)) then
    ret (Bool.true)
   else
    (laws_toTable (v0) (v1)).bind fun (r3 : Int × (List (List Int × Int))) =>
    (laws_toTable (v2) (v3)).bind fun (r4 : Int × (List (List Int × Int))) =>
    (laws_toIntSS (v4)).bind fun (r5 : (List (List Int))) =>
    (spec_SemiJoin (r3.fst) (r3.snd) (r4.fst) (r4.snd) (r5)).bind fun (r6 : Int × (List (List Int × Int)) × Bool) =>
    (laws_toTable (v0) (v1)).bind fun (r7 : Int × (List (List Int × Int))) =>
    (laws_toTable (v2) (v3)).bind fun (r8 : Int × (List (List Int × Int))) =>
    (laws_toIntSS (v4)).bind fun (r9 : (List (List Int))) =>
    (impl_SemiJoin (r7.fst) (r7.snd) (r8.fst) (r8.snd) (r9)).bind fun (r10 : Int × (List (List Int × Int)) × Bool) =>
    (laws_eqTable (r10.fst) (r10.snd.fst) (r6.fst) (r6.snd.fst)).bind fun (r11 : Bool) =>
    bif !r11 then
     ret (Bool.false)
    else
     bif !r10.snd.snd == r6.snd.snd then
      ret (Bool.false)
     else
      (laws_toTable (v0) (v1)).bind fun (r12 : Int × (List (List Int × Int))) =>
      (laws_eqTable (r7.fst) (r7.snd) (r12.fst) (r12.snd)).bind fun (r13 : Bool) =>
      bif !r13 then
       ret (Bool.false)
      else
       (laws_toTable (v2) (v3)).bind fun (r14 : Int × (List (List Int × Int))) =>
       (laws_eqTable (r8.fst) (r8.snd) (r14.fst) (r14.snd)).bind fun (r15 : Bool) =>
       bif !r15 then
        ret (Bool.false)
       else
        (laws_toIntSS (v4)).bind fun (r16 : (List (List Int))) =>
        (laws_eqIntSS (r9) (r16)).bind fun (r17 : Bool) =>
        bif !r17 then
         ret (Bool.false)
        else
         (laws_markTable_d7a (r7.fst) (r7.snd) ((1 : Int))).bind fun (r18 : Int × Int × (List (List Int × Int))) =>
         (laws_markTable_d7a (r8.fst) (r8.snd) (r18.fst)).bind fun (r19 : Int × Int × (List (List Int × Int))) =>
         (laws_markIntSS_1f6 (r9) (r19.fst)).bind fun (r20 : Int × (List (List Int))) =>
         bif decide (r20.fst < (0 : Int)) then
          ret (Bool.false)
         else
          (laws_eqTable (r10.fst) (r10.snd.fst) (r6.fst) (r6.snd.fst)).bind fun (r21 : Bool) =>
          bif !r21 then
           ret (Bool.false)
          else
           bif !r10.snd.snd == r6.snd.snd then
            ret (Bool.false)
           else
            (laws_markTable_d7a (r10.fst) (r10.snd.fst) ((1 : Int))).bind fun (r22 : Int × Int × (List (List Int × Int))) =>
            (laws_heldTable (r10.fst) (r22.snd.snd) ((1 : Int))).bind fun (r23 : Int) =>
            bif decide (r23 < (0 : Int)) then
             ret (Bool.false)
            else
             bif r23 != r22.fst then
              ret (Bool.false)
             else
              (laws_toTable (v0) (v1)).bind fun (r24 : Int × (List (List Int × Int))) =>
              (laws_toTable (v2) (v3)).bind fun (r25 : Int × (List (List Int × Int))) =>
              (laws_toIntSS (v4)).bind fun (r26 : (List (List Int))) =>
              (impl_SemiJoin (r24.fst) (r24.snd) (r25.fst) (r25.snd) (r26)).bind fun (r27 : Int × (List (List Int × Int)) × Bool) =>
              (laws_eqTable (r27.fst) (r27.snd.fst) (r6.fst) (r6.snd.fst)).bind fun (r28 : Bool) =>
              bif !r28 then
               ret (Bool.false)
              else
               bif !r27.snd.snd == r6.snd.snd then
                ret (Bool.false)
               else
                (laws_heldTable (r10.fst) (r22.snd.snd) ((1 : Int))).bind fun (r29 : Int) =>
                bif decide (r29 < (0 : Int)) then
                 ret (Bool.false)
                else
                 bif r29 != r22.fst then
                  ret (Bool.false)
                 else
                  ret (Bool.true)
theorem xl0h.k (v0 : Int) (v1 : List (List Int × Int)) (v2 : Int) (v3 : List (List Int × Int)) (v4 : List (List Int)) : topL E (callT E tab) 3 Try.f3 (xl0h.c v0 v1 v2 v3 v4) = xl0h.t (fun b => some (xl0h.mk b)) v0 v1 v2 v3 v4 := by kernel_rfl
theorem xl0h.eq (v0 : Int) (v1 : List (List Int × Int)) (v2 : Int) (v3 : List (List Int × Int)) (v4 : List (List Int)) {b : Bool} (h : xl0h.t some v0 v1 v2 v3 v4 = some b) : xl0h v0 v1 v2 v3 v4 = some b := tOf_intro xl0h.un (fun _ => by kernel_rfl) (vlim_fn (callT_le E tab) rfl rfl rfl ((xl0h.k v0 v1 v2 v3 v4).trans ((by unfold xl0h.t; repeat' first | exact Sub.ret | exact Sub.none | exact Sub.loop | apply Sub.cond | (apply Sub.bind; intro _) : Sub xl0h.mk _ _) b h)))
noncomputable def laws_szTable.t {γ : Type} (ret : (Int) → Option γ) (v0 : Int) (v1 : List (List Int × Int)) (v2 : Int) : Option γ :=
 (laws_szWeightedS (v1) (v2)).bind fun (r0 : Int) =>
 bif decide (r0 < (0 : Int)) then
  ret ((-1 : Int))
 else
  ret (r0)
theorem laws_szTable.k (v0 : Int) (v1 : List (List Int × Int)) (v2 : Int) : topL E (callT E tab) 13 Try.f13 (laws_szTable.c v0 v1 v2) = laws_szTable.t (fun b => some (laws_szTable.mk b)) v0 v1 v2 := by kernel_rfl
theorem laws_szTable.eq (v0 : Int) (v1 : List (List Int × Int)) (v2 : Int) {b : Int} (h : laws_szTable.t some v0 v1 v2 = some b) : laws_szTable v0 v1 v2 = some b := tOf_intro laws_szTable.un (fun _ => by kernel_rfl) (vlim_fn (callT_le E tab) rfl rfl rfl ((laws_szTable.k v0 v1 v2).trans ((by unfold laws_szTable.t; repeat' first | exact Sub.ret | exact Sub.none | exact Sub.loop | apply Sub.cond | (apply Sub.bind; intro _) : Sub laws_szTable.mk _ _) b h)))
noncomputable def laws_szWeightedS.q5 (v0 : List (List Int × Int)) (v1 : Int) (v2 : Int) : Option R := loopAtL E (callT E tab) 64 Try.f64 2 [.r, .r, .r, .l, .r, .b] (vc (.d .fro (.sl (.pair (.sl (.int .i64)) (.int .i64))) v0) :: vc (iL v1) :: nn 3 (vc (iL v2) :: nn 21 ([])))
noncomputable def laws_szWeightedS.l5 (v0 : List (List Int × Int)) (v1 : Int) (v2 : Int) : Option (Int) := tOf laws_szWeightedS.mk (laws_szWeightedS.q5 v0 v1 v2)
noncomputable def laws_szWeightedS.t {γ : Type} (ret : (Int) → Option γ) (lp5 : (List (List Int × Int)) → Int → Int → Option γ) (v0 : List (List Int × Int)) (v1 : Int) : Option γ :=
 bif decide (IntKind.i64.wrap (v1 - (↑v0.length : Int)) < (0 : Int)) then
  ret ((-1 : Int))
 else
  lp5 (v0) (IntKind.i64.wrap (v1 - (↑v0.length : Int))) ((0 : Int))
noncomputable def laws_szWeightedS.t5 {γ : Type} (ret : (Int) → Option γ) (lp5 : (List (List Int × Int)) → Int → Int → Option γ) (v0 : List (List Int × Int)) (v1 : Int) (v2 : Int) : Option γ :=
 bif decide (v2 < (↑v0.length : Int)) then
  bif decide ((0 : Int) ≤ v2) then
   bif decide (v2.toNat < v0.length) then
    (laws_szWeighted ((v0.getD v2.toNat ([], (0 : Int))).fst) ((v0.getD v2.toNat ([], (0 : Int))).snd) (v1)).bind fun (r0 : Int) =>
    bif decide (r0 < (0 : Int)) then
     ret ((-1 : Int))
    else
     lp5 (v0) (r0) (IntKind.i64.wrap (v2 + (1 : Int)))
   else
    none
  else
   none
 else
  ret (v1)
theorem laws_szWeightedS.k (v0 : List (List Int × Int)) (v1 : Int) : topL E (callT E tab) 64 Try.f64 (laws_szWeightedS.c v0 v1) = laws_szWeightedS.t (fun b => some (laws_szWeightedS.mk b)) laws_szWeightedS.q5 v0 v1 := by kernel_rfl
theorem laws_szWeightedS.k5 (v0 : List (List Int × Int)) (v1 : Int) (v2 : Int) : roundL E (callT E tab) 64 Try.f64 2 [.r, .r, .r, .l, .r, .b] (vc (.d .fro (.sl (.pair (.sl (.int .i64)) (.int .i64))) v0) :: vc (iL v1) :: nn 3 (vc (iL v2) :: nn 21 ([]))) = laws_szWeightedS.t5 (fun b => some (laws_szWeightedS.mk b)) laws_szWeightedS.q5 v0 v1 v2 := by kernel_rfl
theorem laws_szWeightedS.eq (v0 : List (List Int × Int)) (v1 : Int) {b : Int} (h : laws_szWeightedS.t some laws_szWeightedS.l5 v0 v1 = some b) : laws_szWeightedS v0 v1 = some b := tOf_intro laws_szWeightedS.un (fun _ => by kernel_rfl) (vlim_fn (callT_le E tab) rfl rfl rfl ((laws_szWeightedS.k v0 v1).trans ((by unfold laws_szWeightedS.t; repeat' first | exact Sub.ret | exact Sub.none | exact Sub.loop | apply Sub.cond | (apply Sub.bind; intro _) : Sub laws_szWeightedS.mk _ _) b h)))
theorem laws_szWeightedS.eq5 (v0 : List (List Int × Int)) (v1 : Int) (v2 : Int) {b : Int} (h : laws_szWeightedS.t5 some laws_szWeightedS.l5 v0 v1 v2 = some b) : laws_szWeightedS.l5 v0 v1 v2 = some b := tOf_intro laws_szWeightedS.un (fun _ => by kernel_rfl) (loopAtL_step ((laws_szWeightedS.k5 v0 v1 v2).trans ((by unfold laws_szWeightedS.t5; repeat' first | exact Sub.ret | exact Sub.none | exact Sub.loop | apply Sub.cond | (apply Sub.bind; intro _) : Sub laws_szWeightedS.mk _ _) b h)))
noncomputable def laws_szWeighted.t {γ : Type} (ret : (Int) → Option γ) (v0 : List Int) (v1 : Int) (v2 : Int) : Option γ :=
 (laws_szRow (v0) (v2)).bind fun (r0 : Int) =>
 bif decide (r0 < (0 : Int)) then
  ret ((-1 : Int))
 else
  ret (r0)
theorem laws_szWeighted.k (v0 : List Int) (v1 : Int) (v2 : Int) : topL E (callT E tab) 133 Try.f133 (laws_szWeighted.c v0 v1 v2) = laws_szWeighted.t (fun b => some (laws_szWeighted.mk b)) v0 v1 v2 := by kernel_rfl
theorem laws_szWeighted.eq (v0 : List Int) (v1 : Int) (v2 : Int) {b : Int} (h : laws_szWeighted.t some v0 v1 v2 = some b) : laws_szWeighted v0 v1 v2 = some b := tOf_intro laws_szWeighted.un (fun _ => by kernel_rfl) (vlim_fn (callT_le E tab) rfl rfl rfl ((laws_szWeighted.k v0 v1 v2).trans ((by unfold laws_szWeighted.t; repeat' first | exact Sub.ret | exact Sub.none | exact Sub.loop | apply Sub.cond | (apply Sub.bind; intro _) : Sub laws_szWeighted.mk _ _) b h)))
noncomputable def laws_szRow.t {γ : Type} (ret : (Int) → Option γ) (v0 : List Int) (v1 : Int) : Option γ :=
 (laws_szIntS (v0) (v1)).bind fun (r0 : Int) =>
 bif decide (r0 < (0 : Int)) then
  ret ((-1 : Int))
 else
  ret (r0)
theorem laws_szRow.k (v0 : List Int) (v1 : Int) : topL E (callT E tab) 153 Try.f153 (laws_szRow.c v0 v1) = laws_szRow.t (fun b => some (laws_szRow.mk b)) v0 v1 := by kernel_rfl
theorem laws_szRow.eq (v0 : List Int) (v1 : Int) {b : Int} (h : laws_szRow.t some v0 v1 = some b) : laws_szRow v0 v1 = some b := tOf_intro laws_szRow.un (fun _ => by kernel_rfl) (vlim_fn (callT_le E tab) rfl rfl rfl ((laws_szRow.k v0 v1).trans ((by unfold laws_szRow.t; repeat' first | exact Sub.ret | exact Sub.none | exact Sub.loop | apply Sub.cond | (apply Sub.bind; intro _) : Sub laws_szRow.mk _ _) b h)))
noncomputable def laws_szIntS.t {γ : Type} (ret : (Int) → Option γ) (v0 : List Int) (v1 : Int) : Option γ :=
 bif decide (IntKind.i64.wrap (v1 - (↑v0.length : Int)) < (0 : Int)) then
  ret ((-1 : Int))
 else
  ret (IntKind.i64.wrap (v1 - (↑v0.length : Int)))
theorem laws_szIntS.k (v0 : List Int) (v1 : Int) : topL E (callT E tab) 65 Try.f65 (laws_szIntS.c v0 v1) = laws_szIntS.t (fun b => some (laws_szIntS.mk b)) v0 v1 := by kernel_rfl
theorem laws_szIntS.eq (v0 : List Int) (v1 : Int) {b : Int} (h : laws_szIntS.t some v0 v1 = some b) : laws_szIntS v0 v1 = some b := tOf_intro laws_szIntS.un (fun _ => by kernel_rfl) (vlim_fn (callT_le E tab) rfl rfl rfl ((laws_szIntS.k v0 v1).trans ((by unfold laws_szIntS.t; repeat' first | exact Sub.ret | exact Sub.none | exact Sub.loop | apply Sub.cond | (apply Sub.bind; intro _) : Sub laws_szIntS.mk _ _) b h)))
noncomputable def laws_szIntSS.q5 (v0 : List (List Int)) (v1 : Int) (v2 : Int) : Option R := loopAtL E (callT E tab) 14 Try.f14 2 [.r, .r, .r, .l, .r, .b] (vc (.d .fro (.sl (.sl (.int .i64))) v0) :: vc (iL v1) :: nn 3 (vc (iL v2) :: nn 21 ([])))
noncomputable def laws_szIntSS.l5 (v0 : List (List Int)) (v1 : Int) (v2 : Int) : Option (Int) := tOf laws_szIntSS.mk (laws_szIntSS.q5 v0 v1 v2)
noncomputable def laws_szIntSS.t {γ : Type} (ret : (Int) → Option γ) (lp5 : (List (List Int)) → Int → Int → Option γ) (v0 : List (List Int)) (v1 : Int) : Option γ :=
 bif decide (IntKind.i64.wrap (v1 - (↑v0.length : Int)) < (0 : Int)) then
  ret ((-1 : Int))
 else
  lp5 (v0) (IntKind.i64.wrap (v1 - (↑v0.length : Int))) ((0 : Int))
noncomputable def laws_szIntSS.t5 {γ : Type} (ret : (Int) → Option γ) (lp5 : (List (List Int)) → Int → Int → Option γ) (v0 : List (List Int)) (v1 : Int) (v2 : Int) : Option γ :=
 bif decide (v2 < (↑v0.length : Int)) then
  bif decide ((0 : Int) ≤ v2) then
   bif decide (v2.toNat < v0.length) then
    (laws_szIntS (v0.getD v2.toNat []) (v1)).bind fun (r0 : Int) =>
    bif decide (r0 < (0 : Int)) then
     ret ((-1 : Int))
    else
     lp5 (v0) (r0) (IntKind.i64.wrap (v2 + (1 : Int)))
   else
    none
  else
   none
 else
  ret (v1)
theorem laws_szIntSS.k (v0 : List (List Int)) (v1 : Int) : topL E (callT E tab) 14 Try.f14 (laws_szIntSS.c v0 v1) = laws_szIntSS.t (fun b => some (laws_szIntSS.mk b)) laws_szIntSS.q5 v0 v1 := by kernel_rfl
theorem laws_szIntSS.k5 (v0 : List (List Int)) (v1 : Int) (v2 : Int) : roundL E (callT E tab) 14 Try.f14 2 [.r, .r, .r, .l, .r, .b] (vc (.d .fro (.sl (.sl (.int .i64))) v0) :: vc (iL v1) :: nn 3 (vc (iL v2) :: nn 21 ([]))) = laws_szIntSS.t5 (fun b => some (laws_szIntSS.mk b)) laws_szIntSS.q5 v0 v1 v2 := by kernel_rfl
theorem laws_szIntSS.eq (v0 : List (List Int)) (v1 : Int) {b : Int} (h : laws_szIntSS.t some laws_szIntSS.l5 v0 v1 = some b) : laws_szIntSS v0 v1 = some b := tOf_intro laws_szIntSS.un (fun _ => by kernel_rfl) (vlim_fn (callT_le E tab) rfl rfl rfl ((laws_szIntSS.k v0 v1).trans ((by unfold laws_szIntSS.t; repeat' first | exact Sub.ret | exact Sub.none | exact Sub.loop | apply Sub.cond | (apply Sub.bind; intro _) : Sub laws_szIntSS.mk _ _) b h)))
theorem laws_szIntSS.eq5 (v0 : List (List Int)) (v1 : Int) (v2 : Int) {b : Int} (h : laws_szIntSS.t5 some laws_szIntSS.l5 v0 v1 v2 = some b) : laws_szIntSS.l5 v0 v1 v2 = some b := tOf_intro laws_szIntSS.un (fun _ => by kernel_rfl) (loopAtL_step ((laws_szIntSS.k5 v0 v1 v2).trans ((by unfold laws_szIntSS.t5; repeat' first | exact Sub.ret | exact Sub.none | exact Sub.loop | apply Sub.cond | (apply Sub.bind; intro _) : Sub laws_szIntSS.mk _ _) b h)))
noncomputable def laws_toTable.t {γ : Type} (ret : (Int × (List (List Int × Int))) → Option γ) (v0 : Int) (v1 : List (List Int × Int)) : Option γ :=
 (laws_toWeightedS (v1)).bind fun (r0 : (List (List Int × Int))) =>
 ret (v0, r0)
theorem laws_toTable.k (v0 : Int) (v1 : List (List Int × Int)) : topL E (callT E tab) 16 Try.f16 (laws_toTable.c v0 v1) = laws_toTable.t (fun b => some (laws_toTable.mk b)) v0 v1 := by kernel_rfl
theorem laws_toTable.eq (v0 : Int) (v1 : List (List Int × Int)) {b : Int × (List (List Int × Int))} (h : laws_toTable.t some v0 v1 = some b) : laws_toTable v0 v1 = some b := tOf_intro laws_toTable.un (fun _ => by kernel_rfl) (vlim_fn (callT_le E tab) rfl rfl rfl ((laws_toTable.k v0 v1).trans ((by unfold laws_toTable.t; repeat' first | exact Sub.ret | exact Sub.none | exact Sub.loop | apply Sub.cond | (apply Sub.bind; intro _) : Sub laws_toTable.mk _ _) b h)))
noncomputable def laws_toWeightedS.q3 (v0 : List (List Int × Int)) (v1 : List (List Int × Int)) (v2 : Int) : Option R := loopAtL E (callT E tab) 70 Try.f70 1 [.r, .r, .l, .r, .b] (vc (.d .fro (.sl (.pair (.sl (.int .i64)) (.int .i64))) v0) :: nn 2 (vc (.d .deep (.sl (.pair (.sl (.int .i64)) (.int .i64))) v1) :: vc (iL v2) :: nn 18 ([])))
noncomputable def laws_toWeightedS.l3 (v0 : List (List Int × Int)) (v1 : List (List Int × Int)) (v2 : Int) : Option ((List (List Int × Int))) := tOf laws_toWeightedS.mk (laws_toWeightedS.q3 v0 v1 v2)
noncomputable def laws_toWeightedS.t {γ : Type} (ret : ((List (List Int × Int))) → Option γ) (lp3 : (List (List Int × Int)) → (List (List Int × Int)) → Int → Option γ) (v0 : List (List Int × Int)) : Option γ :=
 bif decide ((↑v0.length : Int) = (↑v0.length : Int)) then
  bif decide ((↑v0.length : Int) ≤ (↑(4294967296 : Nat) : Int)) then
   lp3 (v0) (List.replicate (↑v0.length : Int).toNat ([], (0 : Int))) ((0 : Int))
  else
   none
 else
  none
noncomputable def laws_toWeightedS.t3 {γ : Type} (ret : ((List (List Int × Int))) → Option γ) (lp3 : (List (List Int × Int)) → (List (List Int × Int)) → Int → Option γ) (v0 : List (List Int × Int)) (v1 : List (List Int × Int)) (v2 : Int) : Option γ :=
 bif decide (v2 < (↑v0.length : Int)) then
  bif decide ((0 : Int) ≤ v2) then
   bif decide (v2.toNat < v0.length) then
    (laws_toWeighted ((v0.getD v2.toNat ([], (0 : Int))).fst) ((v0.getD v2.toNat ([], (0 : Int))).snd)).bind fun (r0 : (List Int) × Int) =>
    bif decide ((0 : Int) ≤ v2) then
     bif decide (v2.toNat < v1.length) then
      bif decide (v2.toNat < v1.length) then
       lp3 (v0) (v1.set v2.toNat (r0.fst, r0.snd)) (IntKind.i64.wrap (v2 + (1 : Int)))
      else
       none
     else
      none
    else
     none
   else
    none
  else
   none
 else
  ret (v1)
theorem laws_toWeightedS.k (v0 : List (List Int × Int)) : topL E (callT E tab) 70 Try.f70 (laws_toWeightedS.c v0) = laws_toWeightedS.t (fun b => some (laws_toWeightedS.mk b)) laws_toWeightedS.q3 v0 := by kernel_rfl
theorem laws_toWeightedS.k3 (v0 : List (List Int × Int)) (v1 : List (List Int × Int)) (v2 : Int) : roundL E (callT E tab) 70 Try.f70 1 [.r, .r, .l, .r, .b] (vc (.d .fro (.sl (.pair (.sl (.int .i64)) (.int .i64))) v0) :: nn 2 (vc (.d .deep (.sl (.pair (.sl (.int .i64)) (.int .i64))) v1) :: vc (iL v2) :: nn 18 ([]))) = laws_toWeightedS.t3 (fun b => some (laws_toWeightedS.mk b)) laws_toWeightedS.q3 v0 v1 v2 := by kernel_rfl
theorem laws_toWeightedS.eq (v0 : List (List Int × Int)) {b : (List (List Int × Int))} (h : laws_toWeightedS.t some laws_toWeightedS.l3 v0 = some b) : laws_toWeightedS v0 = some b := tOf_intro laws_toWeightedS.un (fun _ => by kernel_rfl) (vlim_fn (callT_le E tab) rfl rfl rfl ((laws_toWeightedS.k v0).trans ((by unfold laws_toWeightedS.t; repeat' first | exact Sub.ret | exact Sub.none | exact Sub.loop | apply Sub.cond | (apply Sub.bind; intro _) : Sub laws_toWeightedS.mk _ _) b h)))
theorem laws_toWeightedS.eq3 (v0 : List (List Int × Int)) (v1 : List (List Int × Int)) (v2 : Int) {b : (List (List Int × Int))} (h : laws_toWeightedS.t3 some laws_toWeightedS.l3 v0 v1 v2 = some b) : laws_toWeightedS.l3 v0 v1 v2 = some b := tOf_intro laws_toWeightedS.un (fun _ => by kernel_rfl) (loopAtL_step ((laws_toWeightedS.k3 v0 v1 v2).trans ((by unfold laws_toWeightedS.t3; repeat' first | exact Sub.ret | exact Sub.none | exact Sub.loop | apply Sub.cond | (apply Sub.bind; intro _) : Sub laws_toWeightedS.mk _ _) b h)))
noncomputable def laws_toWeighted.t {γ : Type} (ret : ((List Int) × Int) → Option γ) (v0 : List Int) (v1 : Int) : Option γ :=
 (laws_toRow (v0)).bind fun (r0 : (List Int)) =>
 ret (r0, v1)
theorem laws_toWeighted.k (v0 : List Int) (v1 : Int) : topL E (callT E tab) 139 Try.f139 (laws_toWeighted.c v0 v1) = laws_toWeighted.t (fun b => some (laws_toWeighted.mk b)) v0 v1 := by kernel_rfl
theorem laws_toWeighted.eq (v0 : List Int) (v1 : Int) {b : (List Int) × Int} (h : laws_toWeighted.t some v0 v1 = some b) : laws_toWeighted v0 v1 = some b := tOf_intro laws_toWeighted.un (fun _ => by kernel_rfl) (vlim_fn (callT_le E tab) rfl rfl rfl ((laws_toWeighted.k v0 v1).trans ((by unfold laws_toWeighted.t; repeat' first | exact Sub.ret | exact Sub.none | exact Sub.loop | apply Sub.cond | (apply Sub.bind; intro _) : Sub laws_toWeighted.mk _ _) b h)))
noncomputable def laws_toRow.t {γ : Type} (ret : ((List Int)) → Option γ) (v0 : List Int) : Option γ :=
 (laws_toIntS (v0)).bind fun (r0 : (List Int)) =>
 ret (r0)
theorem laws_toRow.k (v0 : List Int) : topL E (callT E tab) 157 Try.f157 (laws_toRow.c v0) = laws_toRow.t (fun b => some (laws_toRow.mk b)) v0 := by kernel_rfl
theorem laws_toRow.eq (v0 : List Int) {b : (List Int)} (h : laws_toRow.t some v0 = some b) : laws_toRow v0 = some b := tOf_intro laws_toRow.un (fun _ => by kernel_rfl) (vlim_fn (callT_le E tab) rfl rfl rfl ((laws_toRow.k v0).trans ((by unfold laws_toRow.t; repeat' first | exact Sub.ret | exact Sub.none | exact Sub.loop | apply Sub.cond | (apply Sub.bind; intro _) : Sub laws_toRow.mk _ _) b h)))
noncomputable def laws_toIntS.q3 (v0 : List Int) (v1 : List Int) (v2 : Int) : Option R := loopAtL E (callT E tab) 71 Try.f71 1 [.r, .r, .l, .r, .b] (vc (.d .fro (.sl (.int .i64)) v0) :: nn 2 (vc (.d .deep (.sl (.int .i64)) v1) :: vc (iL v2) :: nn 17 ([])))
noncomputable def laws_toIntS.l3 (v0 : List Int) (v1 : List Int) (v2 : Int) : Option ((List Int)) := tOf laws_toIntS.mk (laws_toIntS.q3 v0 v1 v2)
noncomputable def laws_toIntS.t {γ : Type} (ret : ((List Int)) → Option γ) (lp3 : (List Int) → (List Int) → Int → Option γ) (v0 : List Int) : Option γ :=
 bif decide ((↑v0.length : Int) = (↑v0.length : Int)) then
  bif decide ((↑v0.length : Int) ≤ (↑(4294967296 : Nat) : Int)) then
   lp3 (v0) (List.replicate (↑v0.length : Int).toNat (0 : Int)) ((0 : Int))
  else
   none
 else
  none
noncomputable def laws_toIntS.t3 {γ : Type} (ret : ((List Int)) → Option γ) (lp3 : (List Int) → (List Int) → Int → Option γ) (v0 : List Int) (v1 : List Int) (v2 : Int) : Option γ :=
 bif decide (v2 < (↑v0.length : Int)) then
  bif decide ((0 : Int) ≤ v2) then
   bif decide (v2.toNat < v0.length) then
    bif decide ((0 : Int) ≤ v2) then
     bif decide (v2.toNat < v1.length) then
      bif decide (v2.toNat < v1.length) then
       lp3 (v0) (v1.set v2.toNat (v0.getD v2.toNat (0 : Int))) (IntKind.i64.wrap (v2 + (1 : Int)))
      else
       none
     else
      none
    else
     none
   else
    none
  else
   none
 else
  ret (v1)
theorem laws_toIntS.k (v0 : List Int) : topL E (callT E tab) 71 Try.f71 (laws_toIntS.c v0) = laws_toIntS.t (fun b => some (laws_toIntS.mk b)) laws_toIntS.q3 v0 := by kernel_rfl
theorem laws_toIntS.k3 (v0 : List Int) (v1 : List Int) (v2 : Int) : roundL E (callT E tab) 71 Try.f71 1 [.r, .r, .l, .r, .b] (vc (.d .fro (.sl (.int .i64)) v0) :: nn 2 (vc (.d .deep (.sl (.int .i64)) v1) :: vc (iL v2) :: nn 17 ([]))) = laws_toIntS.t3 (fun b => some (laws_toIntS.mk b)) laws_toIntS.q3 v0 v1 v2 := by kernel_rfl
theorem laws_toIntS.eq (v0 : List Int) {b : (List Int)} (h : laws_toIntS.t some laws_toIntS.l3 v0 = some b) : laws_toIntS v0 = some b := tOf_intro laws_toIntS.un (fun _ => by kernel_rfl) (vlim_fn (callT_le E tab) rfl rfl rfl ((laws_toIntS.k v0).trans ((by unfold laws_toIntS.t; repeat' first | exact Sub.ret | exact Sub.none | exact Sub.loop | apply Sub.cond | (apply Sub.bind; intro _) : Sub laws_toIntS.mk _ _) b h)))
theorem laws_toIntS.eq3 (v0 : List Int) (v1 : List Int) (v2 : Int) {b : (List Int)} (h : laws_toIntS.t3 some laws_toIntS.l3 v0 v1 v2 = some b) : laws_toIntS.l3 v0 v1 v2 = some b := tOf_intro laws_toIntS.un (fun _ => by kernel_rfl) (loopAtL_step ((laws_toIntS.k3 v0 v1 v2).trans ((by unfold laws_toIntS.t3; repeat' first | exact Sub.ret | exact Sub.none | exact Sub.loop | apply Sub.cond | (apply Sub.bind; intro _) : Sub laws_toIntS.mk _ _) b h)))
noncomputable def laws_toIntSS.q3 (v0 : List (List Int)) (v1 : List (List Int)) (v2 : Int) : Option R := loopAtL E (callT E tab) 17 Try.f17 1 [.r, .r, .l, .r, .b] (vc (.d .fro (.sl (.sl (.int .i64))) v0) :: nn 2 (vc (.d .deep (.sl (.sl (.int .i64))) v1) :: vc (iL v2) :: nn 18 ([])))
noncomputable def laws_toIntSS.l3 (v0 : List (List Int)) (v1 : List (List Int)) (v2 : Int) : Option ((List (List Int))) := tOf laws_toIntSS.mk (laws_toIntSS.q3 v0 v1 v2)
noncomputable def laws_toIntSS.t {γ : Type} (ret : ((List (List Int))) → Option γ) (lp3 : (List (List Int)) → (List (List Int)) → Int → Option γ) (v0 : List (List Int)) : Option γ :=
 bif decide ((↑v0.length : Int) = (↑v0.length : Int)) then
  bif decide ((↑v0.length : Int) ≤ (↑(4294967296 : Nat) : Int)) then
   lp3 (v0) (List.replicate (↑v0.length : Int).toNat []) ((0 : Int))
  else
   none
 else
  none
noncomputable def laws_toIntSS.t3 {γ : Type} (ret : ((List (List Int))) → Option γ) (lp3 : (List (List Int)) → (List (List Int)) → Int → Option γ) (v0 : List (List Int)) (v1 : List (List Int)) (v2 : Int) : Option γ :=
 bif decide (v2 < (↑v0.length : Int)) then
  bif decide ((0 : Int) ≤ v2) then
   bif decide (v2.toNat < v0.length) then
    (laws_toIntS (v0.getD v2.toNat [])).bind fun (r0 : (List Int)) =>
    bif decide ((0 : Int) ≤ v2) then
     bif decide (v2.toNat < v1.length) then
      bif decide (v2.toNat < v1.length) then
       lp3 (v0) (v1.set v2.toNat r0) (IntKind.i64.wrap (v2 + (1 : Int)))
      else
       none
     else
      none
    else
     none
   else
    none
  else
   none
 else
  ret (v1)
theorem laws_toIntSS.k (v0 : List (List Int)) : topL E (callT E tab) 17 Try.f17 (laws_toIntSS.c v0) = laws_toIntSS.t (fun b => some (laws_toIntSS.mk b)) laws_toIntSS.q3 v0 := by kernel_rfl
theorem laws_toIntSS.k3 (v0 : List (List Int)) (v1 : List (List Int)) (v2 : Int) : roundL E (callT E tab) 17 Try.f17 1 [.r, .r, .l, .r, .b] (vc (.d .fro (.sl (.sl (.int .i64))) v0) :: nn 2 (vc (.d .deep (.sl (.sl (.int .i64))) v1) :: vc (iL v2) :: nn 18 ([]))) = laws_toIntSS.t3 (fun b => some (laws_toIntSS.mk b)) laws_toIntSS.q3 v0 v1 v2 := by kernel_rfl
theorem laws_toIntSS.eq (v0 : List (List Int)) {b : (List (List Int))} (h : laws_toIntSS.t some laws_toIntSS.l3 v0 = some b) : laws_toIntSS v0 = some b := tOf_intro laws_toIntSS.un (fun _ => by kernel_rfl) (vlim_fn (callT_le E tab) rfl rfl rfl ((laws_toIntSS.k v0).trans ((by unfold laws_toIntSS.t; repeat' first | exact Sub.ret | exact Sub.none | exact Sub.loop | apply Sub.cond | (apply Sub.bind; intro _) : Sub laws_toIntSS.mk _ _) b h)))
theorem laws_toIntSS.eq3 (v0 : List (List Int)) (v1 : List (List Int)) (v2 : Int) {b : (List (List Int))} (h : laws_toIntSS.t3 some laws_toIntSS.l3 v0 v1 v2 = some b) : laws_toIntSS.l3 v0 v1 v2 = some b := tOf_intro laws_toIntSS.un (fun _ => by kernel_rfl) (loopAtL_step ((laws_toIntSS.k3 v0 v1 v2).trans ((by unfold laws_toIntSS.t3; repeat' first | exact Sub.ret | exact Sub.none | exact Sub.loop | apply Sub.cond | (apply Sub.bind; intro _) : Sub laws_toIntSS.mk _ _) b h)))
noncomputable def spec_SemiJoin.t {γ : Type} (ret : (Int × (List (List Int × Int)) × Bool) → Option γ) (v0 : Int) (v1 : List (List Int × Int)) (v2 : Int) (v3 : List (List Int × Int)) (v4 : List (List Int)) : Option γ :=
 (spec_GoodTable (v0) (v1)).bind fun (r0 : Bool) =>
 bif !r0 then
  ret ((0 : Int), [], Bool.false)
 else
  (spec_GoodTable (v2) (v3)).bind fun (r1 : Bool) =>
  bif !r1 then
   ret ((0 : Int), [], Bool.false)
  else
   (spec_l1Pairs (v4) (v0) (v2)).bind fun (r2 : Bool) =>
   bif !r2 then
    ret ((0 : Int), [], Bool.false)
   else
    (spec_l11Semi (v1) (v3) (v4)).bind fun (r3 : (List (List Int × Int))) =>
    (spec_l2Tell (v0) (r3)).bind fun (r4 : Int × (List (List Int × Int)) × Bool) =>
    ret (r4.fst, r4.snd.fst, r4.snd.snd)
theorem spec_SemiJoin.k (v0 : Int) (v1 : List (List Int × Int)) (v2 : Int) (v3 : List (List Int × Int)) (v4 : List (List Int)) : topL E (callT E tab) 15 Try.f15 (spec_SemiJoin.c v0 v1 v2 v3 v4) = spec_SemiJoin.t (fun b => some (spec_SemiJoin.mk b)) v0 v1 v2 v3 v4 := by kernel_rfl
theorem spec_SemiJoin.eq (v0 : Int) (v1 : List (List Int × Int)) (v2 : Int) (v3 : List (List Int × Int)) (v4 : List (List Int)) {b : Int × (List (List Int × Int)) × Bool} (h : spec_SemiJoin.t some v0 v1 v2 v3 v4 = some b) : spec_SemiJoin v0 v1 v2 v3 v4 = some b := tOf_intro spec_SemiJoin.un (fun _ => by kernel_rfl) (vlim_fn (callT_le E tab) rfl rfl rfl ((spec_SemiJoin.k v0 v1 v2 v3 v4).trans ((by unfold spec_SemiJoin.t; repeat' first | exact Sub.ret | exact Sub.none | exact Sub.loop | apply Sub.cond | (apply Sub.bind; intro _) : Sub spec_SemiJoin.mk _ _) b h)))
noncomputable def spec_GoodTable.q2 (v0 : Int) (v1 : List (List Int × Int)) (v2 : List (List Int × Int)) (v3 : Int) (v4 : Int) : Option R := loopAtL E (callT E tab) 66 Try.f66 1 [.r, .l, .r, .b] (nn 1 (⟨(.box false), [iL v0, .d .fro (.sl (.pair (.sl (.int .i64)) (.int .i64))) v1], false, false, false, 0, 0⟩ :: nn 4 (vc (.d .fro (.sl (.pair (.sl (.int .i64)) (.int .i64))) v2) :: vc (iL v3) :: vc (iL v4) :: nn 55 ([]))))
noncomputable def spec_GoodTable.l2 (v0 : Int) (v1 : List (List Int × Int)) (v2 : List (List Int × Int)) (v3 : Int) (v4 : Int) : Option (Bool) := tOf spec_GoodTable.mk (spec_GoodTable.q2 v0 v1 v2 v3 v4)
noncomputable def spec_GoodTable.t {γ : Type} (ret : (Bool) → Option γ) (lp2 : Int → (List (List Int × Int)) → (List (List Int × Int)) → Int → Int → Option γ) (v0 : Int) (v1 : List (List Int × Int)) : Option γ :=
 lp2 (v0) (v1) (v1) ((↑v1.length : Int)) ((0 : Int))
noncomputable def spec_GoodTable.t2 {γ : Type} (ret : (Bool) → Option γ) (lp2 : Int → (List (List Int × Int)) → (List (List Int × Int)) → Int → Int → Option γ) (v0 : Int) (v1 : List (List Int × Int)) (v2 : List (List Int × Int)) (v3 : Int) (v4 : Int) : Option γ :=
 bif decide (v4 < v3) then
  bif decide ((0 : Int) ≤ v4) then
   bif decide (v4.toNat < v2.length) then
    (spec_GoodRow ((v2.getD v4.toNat ([], (0 : Int))).fst)).bind fun (r0 : Bool) =>
    bif !r0 then
     ret (Bool.false)
    else
     bif (↑(v2.getD v4.toNat ([], (0 : Int))).fst.length : Int) != v0 then
      ret (Bool.false)
     else
      (spec_l2Weight ((v2.getD v4.toNat ([], (0 : Int))).snd)).bind fun (r1 : Bool) =>
      bif !r1 then
       ret (Bool.false)
      else
       bif (v2.getD v4.toNat ([], (0 : Int))).snd == (0 : Int) then
        ret (Bool.false)
       else
        bif decide (v4 > (0 : Int)) then
         bif decide ((0 : Int) ≤ IntKind.i64.wrap (v4 - (1 : Int))) then
          bif decide ((IntKind.i64.wrap (v4 - (1 : Int))).toNat < v1.length) then
           (spec_l1Compare ((v1.getD (IntKind.i64.wrap (v4 - (1 : Int))).toNat ([], (0 : Int))).fst) ((v2.getD v4.toNat ([], (0 : Int))).fst)).bind fun (r2 : Int) =>
           bif decide (r2 ≥ (0 : Int)) then
            ret (Bool.false)
           else
            lp2 (v0) (v1) (v2) (v3) (IntKind.i64.wrap (v4 + (1 : Int)))
          else
           none
         else
          none
        else
         lp2 (v0) (v1) (v2) (v3) (IntKind.i64.wrap (v4 + (1 : Int)))
   else
    none
  else
   none
 else
  (spec_l1In (v0) ((0 : Int)) ((6 : Int))).bind fun (r3 : Bool) =>
  bif r3 then
   ret (decide ((↑v1.length : Int) ≤ (60 : Int)))
  else
   ret (Bool.false)
theorem spec_GoodTable.k (v0 : Int) (v1 : List (List Int × Int)) : topL E (callT E tab) 66 Try.f66 (spec_GoodTable.c v0 v1) = spec_GoodTable.t (fun b => some (spec_GoodTable.mk b)) spec_GoodTable.q2 v0 v1 := by kernel_rfl
theorem spec_GoodTable.k2 (v0 : Int) (v1 : List (List Int × Int)) (v2 : List (List Int × Int)) (v3 : Int) (v4 : Int) : roundL E (callT E tab) 66 Try.f66 1 [.r, .l, .r, .b] (nn 1 (⟨(.box false), [iL v0, .d .fro (.sl (.pair (.sl (.int .i64)) (.int .i64))) v1], false, false, false, 0, 0⟩ :: nn 4 (vc (.d .fro (.sl (.pair (.sl (.int .i64)) (.int .i64))) v2) :: vc (iL v3) :: vc (iL v4) :: nn 55 ([])))) = spec_GoodTable.t2 (fun b => some (spec_GoodTable.mk b)) spec_GoodTable.q2 v0 v1 v2 v3 v4 := by kernel_rfl
theorem spec_GoodTable.eq (v0 : Int) (v1 : List (List Int × Int)) {b : Bool} (h : spec_GoodTable.t some spec_GoodTable.l2 v0 v1 = some b) : spec_GoodTable v0 v1 = some b := tOf_intro spec_GoodTable.un (fun _ => by kernel_rfl) (vlim_fn (callT_le E tab) rfl rfl rfl ((spec_GoodTable.k v0 v1).trans ((by unfold spec_GoodTable.t; repeat' first | exact Sub.ret | exact Sub.none | exact Sub.loop | apply Sub.cond | (apply Sub.bind; intro _) : Sub spec_GoodTable.mk _ _) b h)))
theorem spec_GoodTable.eq2 (v0 : Int) (v1 : List (List Int × Int)) (v2 : List (List Int × Int)) (v3 : Int) (v4 : Int) {b : Bool} (h : spec_GoodTable.t2 some spec_GoodTable.l2 v0 v1 v2 v3 v4 = some b) : spec_GoodTable.l2 v0 v1 v2 v3 v4 = some b := tOf_intro spec_GoodTable.un (fun _ => by kernel_rfl) (loopAtL_step ((spec_GoodTable.k2 v0 v1 v2 v3 v4).trans ((by unfold spec_GoodTable.t2; repeat' first | exact Sub.ret | exact Sub.none | exact Sub.loop | apply Sub.cond | (apply Sub.bind; intro _) : Sub spec_GoodTable.mk _ _) b h)))
noncomputable def spec_GoodRow.q2 (v0 : List Int) (v1 : List Int) (v2 : Int) (v3 : Int) : Option R := loopAtL E (callT E tab) 134 Try.f134 1 [.r, .l, .r, .b] (nn 1 (⟨(.box false), [.d .fro (.sl (.int .i64)) v0], false, false, false, 0, 0⟩ :: nn 4 (vc (.d .fro (.sl (.int .i64)) v1) :: vc (iL v2) :: vc (iL v3) :: nn 11 ([]))))
noncomputable def spec_GoodRow.l2 (v0 : List Int) (v1 : List Int) (v2 : Int) (v3 : Int) : Option (Bool) := tOf spec_GoodRow.mk (spec_GoodRow.q2 v0 v1 v2 v3)
noncomputable def spec_GoodRow.t {γ : Type} (ret : (Bool) → Option γ) (lp2 : (List Int) → (List Int) → Int → Int → Option γ) (v0 : List Int) : Option γ :=
 lp2 (v0) (v0) ((↑v0.length : Int)) ((0 : Int))
noncomputable def spec_GoodRow.t2 {γ : Type} (ret : (Bool) → Option γ) (lp2 : (List Int) → (List Int) → Int → Int → Option γ) (v0 : List Int) (v1 : List Int) (v2 : Int) (v3 : Int) : Option γ :=
 bif decide (v3 < v2) then
  bif decide ((0 : Int) ≤ v3) then
   bif decide (v3.toNat < v1.length) then
    (spec_l1In (v1.getD v3.toNat (0 : Int)) ((-100000 : Int)) ((100000 : Int))).bind fun (r0 : Bool) =>
    bif !r0 then
     ret (Bool.false)
    else
     lp2 (v0) (v1) (v2) (IntKind.i64.wrap (v3 + (1 : Int)))
   else
    none
  else
   none
 else
  ret (decide ((↑v0.length : Int) ≤ (6 : Int)))
theorem spec_GoodRow.k (v0 : List Int) : topL E (callT E tab) 134 Try.f134 (spec_GoodRow.c v0) = spec_GoodRow.t (fun b => some (spec_GoodRow.mk b)) spec_GoodRow.q2 v0 := by kernel_rfl
theorem spec_GoodRow.k2 (v0 : List Int) (v1 : List Int) (v2 : Int) (v3 : Int) : roundL E (callT E tab) 134 Try.f134 1 [.r, .l, .r, .b] (nn 1 (⟨(.box false), [.d .fro (.sl (.int .i64)) v0], false, false, false, 0, 0⟩ :: nn 4 (vc (.d .fro (.sl (.int .i64)) v1) :: vc (iL v2) :: vc (iL v3) :: nn 11 ([])))) = spec_GoodRow.t2 (fun b => some (spec_GoodRow.mk b)) spec_GoodRow.q2 v0 v1 v2 v3 := by kernel_rfl
theorem spec_GoodRow.eq (v0 : List Int) {b : Bool} (h : spec_GoodRow.t some spec_GoodRow.l2 v0 = some b) : spec_GoodRow v0 = some b := tOf_intro spec_GoodRow.un (fun _ => by kernel_rfl) (vlim_fn (callT_le E tab) rfl rfl rfl ((spec_GoodRow.k v0).trans ((by unfold spec_GoodRow.t; repeat' first | exact Sub.ret | exact Sub.none | exact Sub.loop | apply Sub.cond | (apply Sub.bind; intro _) : Sub spec_GoodRow.mk _ _) b h)))
theorem spec_GoodRow.eq2 (v0 : List Int) (v1 : List Int) (v2 : Int) (v3 : Int) {b : Bool} (h : spec_GoodRow.t2 some spec_GoodRow.l2 v0 v1 v2 v3 = some b) : spec_GoodRow.l2 v0 v1 v2 v3 = some b := tOf_intro spec_GoodRow.un (fun _ => by kernel_rfl) (loopAtL_step ((spec_GoodRow.k2 v0 v1 v2 v3).trans ((by unfold spec_GoodRow.t2; repeat' first | exact Sub.ret | exact Sub.none | exact Sub.loop | apply Sub.cond | (apply Sub.bind; intro _) : Sub spec_GoodRow.mk _ _) b h)))
noncomputable def spec_l1In.t {γ : Type} (ret : (Bool) → Option γ) (v0 : Int) (v1 : Int) (v2 : Int) : Option γ :=
 bif decide (v0 ≥ v1) then
  ret (decide (v0 ≤ v2))
 else
  ret (Bool.false)
theorem spec_l1In.k (v0 : Int) (v1 : Int) (v2 : Int) : topL E (callT E tab) 137 Try.f137 (spec_l1In.c v0 v1 v2) = spec_l1In.t (fun b => some (spec_l1In.mk b)) v0 v1 v2 := by kernel_rfl
theorem spec_l1In.eq (v0 : Int) (v1 : Int) (v2 : Int) {b : Bool} (h : spec_l1In.t some v0 v1 v2 = some b) : spec_l1In v0 v1 v2 = some b := tOf_intro spec_l1In.un (fun _ => by kernel_rfl) (vlim_fn (callT_le E tab) rfl rfl rfl ((spec_l1In.k v0 v1 v2).trans ((by unfold spec_l1In.t; repeat' first | exact Sub.ret | exact Sub.none | exact Sub.loop | apply Sub.cond | (apply Sub.bind; intro _) : Sub spec_l1In.mk _ _) b h)))
noncomputable def spec_l2Weight.t {γ : Type} (ret : (Bool) → Option γ) (v0 : Int) : Option γ :=
 (spec_l1In (v0) ((-1000000 : Int)) ((1000000 : Int))).bind fun (r0 : Bool) =>
 ret (r0)
theorem spec_l2Weight.k (v0 : Int) : topL E (callT E tab) 135 Try.f135 (spec_l2Weight.c v0) = spec_l2Weight.t (fun b => some (spec_l2Weight.mk b)) v0 := by kernel_rfl
theorem spec_l2Weight.eq (v0 : Int) {b : Bool} (h : spec_l2Weight.t some v0 = some b) : spec_l2Weight v0 = some b := tOf_intro spec_l2Weight.un (fun _ => by kernel_rfl) (vlim_fn (callT_le E tab) rfl rfl rfl ((spec_l2Weight.k v0).trans ((by unfold spec_l2Weight.t; repeat' first | exact Sub.ret | exact Sub.none | exact Sub.loop | apply Sub.cond | (apply Sub.bind; intro _) : Sub spec_l2Weight.mk _ _) b h)))
noncomputable def spec_l1Compare.q2 (v0 : List Int) (v1 : List Int) (v2 : Int) : Option R := loopAtL E (callT E tab) 136 Try.f136 2 [.r, .l, .r, .b] (nn 2 (⟨(.box false), [.d .fro (.sl (.int .i64)) v0], false, false, false, 0, 0⟩ :: ⟨(.box false), [.d .fro (.sl (.int .i64)) v1], false, false, false, 0, 0⟩ :: nn 1 (vc (iL v2) :: nn 52 ([]))))
noncomputable def spec_l1Compare.l2 (v0 : List Int) (v1 : List Int) (v2 : Int) : Option (Int) := tOf spec_l1Compare.mk (spec_l1Compare.q2 v0 v1 v2)
noncomputable def spec_l1Compare.t {γ : Type} (ret : (Int) → Option γ) (lp2 : (List Int) → (List Int) → Int → Option γ) (v0 : List Int) (v1 : List Int) : Option γ :=
 lp2 (v0) (v1) ((0 : Int))
noncomputable def spec_l1Compare.t2 {γ : Type} (ret : (Int) → Option γ) (lp2 : (List Int) → (List Int) → Int → Option γ) (v0 : List Int) (v1 : List Int) (v2 : Int) : Option γ :=
 bif decide (v2 < (↑v0.length : Int)) then
  bif decide (v2 < (↑v1.length : Int)) then
   bif decide ((0 : Int) ≤ v2) then
    bif decide (v2.toNat < v0.length) then
     bif decide ((0 : Int) ≤ v2) then
      bif decide (v2.toNat < v1.length) then
       bif decide (v0.getD v2.toNat (0 : Int) < v1.getD v2.toNat (0 : Int)) then
        ret ((-1 : Int))
       else
        bif decide ((0 : Int) ≤ v2) then
         bif decide (v2.toNat < v0.length) then
          bif decide ((0 : Int) ≤ v2) then
           bif decide (v2.toNat < v1.length) then
            bif decide (v0.getD v2.toNat (0 : Int) > v1.getD v2.toNat (0 : Int)) then
             ret ((1 : Int))
            else
             lp2 (v0) (v1) (IntKind.i64.wrap (v2 + (1 : Int)))
           else
            none
          else
           none
         else
          none
        else
         none
      else
       none
     else
      none
    else
     none
   else
    none
  else
   bif decide ((↑v0.length : Int) < (↑v1.length : Int)) then
    ret ((-1 : Int))
   else
    bif decide ((↑v0.length : Int) > (↑v1.length : Int)) then
     ret ((1 : Int))
    else
     ret ((0 : Int))
 else
  bif decide ((↑v0.length : Int) < (↑v1.length : Int)) then
   ret ((-1 : Int))
  else
   bif decide ((↑v0.length : Int) > (↑v1.length : Int)) then
    ret ((1 : Int))
   else
    ret ((0 : Int))
theorem spec_l1Compare.k (v0 : List Int) (v1 : List Int) : topL E (callT E tab) 136 Try.f136 (spec_l1Compare.c v0 v1) = spec_l1Compare.t (fun b => some (spec_l1Compare.mk b)) spec_l1Compare.q2 v0 v1 := by kernel_rfl
theorem spec_l1Compare.k2 (v0 : List Int) (v1 : List Int) (v2 : Int) : roundL E (callT E tab) 136 Try.f136 2 [.r, .l, .r, .b] (nn 2 (⟨(.box false), [.d .fro (.sl (.int .i64)) v0], false, false, false, 0, 0⟩ :: ⟨(.box false), [.d .fro (.sl (.int .i64)) v1], false, false, false, 0, 0⟩ :: nn 1 (vc (iL v2) :: nn 52 ([])))) = spec_l1Compare.t2 (fun b => some (spec_l1Compare.mk b)) spec_l1Compare.q2 v0 v1 v2 := by kernel_rfl
theorem spec_l1Compare.eq (v0 : List Int) (v1 : List Int) {b : Int} (h : spec_l1Compare.t some spec_l1Compare.l2 v0 v1 = some b) : spec_l1Compare v0 v1 = some b := tOf_intro spec_l1Compare.un (fun _ => by kernel_rfl) (vlim_fn (callT_le E tab) rfl rfl rfl ((spec_l1Compare.k v0 v1).trans ((by unfold spec_l1Compare.t; repeat' first | exact Sub.ret | exact Sub.none | exact Sub.loop | apply Sub.cond | (apply Sub.bind; intro _) : Sub spec_l1Compare.mk _ _) b h)))
theorem spec_l1Compare.eq2 (v0 : List Int) (v1 : List Int) (v2 : Int) {b : Int} (h : spec_l1Compare.t2 some spec_l1Compare.l2 v0 v1 v2 = some b) : spec_l1Compare.l2 v0 v1 v2 = some b := tOf_intro spec_l1Compare.un (fun _ => by kernel_rfl) (loopAtL_step ((spec_l1Compare.k2 v0 v1 v2).trans ((by unfold spec_l1Compare.t2; repeat' first | exact Sub.ret | exact Sub.none | exact Sub.loop | apply Sub.cond | (apply Sub.bind; intro _) : Sub spec_l1Compare.mk _ _) b h)))
noncomputable def spec_l1Pairs.q2 (v0 : List (List Int)) (v1 : Int) (v2 : Int) (v3 : List (List Int)) (v4 : Int) (v5 : Int) : Option R := loopAtL E (callT E tab) 67 Try.f67 3 [.r, .l, .r, .b] (vc (.d .fro (.sl (.sl (.int .i64))) v0) :: vc (iL v1) :: vc (iL v2) :: nn 6 (vc (.d .fro (.sl (.sl (.int .i64))) v3) :: vc (iL v4) :: vc (iL v5) :: nn 36 ([])))
noncomputable def spec_l1Pairs.l2 (v0 : List (List Int)) (v1 : Int) (v2 : Int) (v3 : List (List Int)) (v4 : Int) (v5 : Int) : Option (Bool) := tOf spec_l1Pairs.mk (spec_l1Pairs.q2 v0 v1 v2 v3 v4 v5)
noncomputable def spec_l1Pairs.t {γ : Type} (ret : (Bool) → Option γ) (lp2 : (List (List Int)) → Int → Int → (List (List Int)) → Int → Int → Option γ) (v0 : List (List Int)) (v1 : Int) (v2 : Int) : Option γ :=
 lp2 (v0) (v1) (v2) (v0) ((↑v0.length : Int)) ((0 : Int))
noncomputable def spec_l1Pairs.t2 {γ : Type} (ret : (Bool) → Option γ) (lp2 : (List (List Int)) → Int → Int → (List (List Int)) → Int → Int → Option γ) (v0 : List (List Int)) (v1 : Int) (v2 : Int) (v3 : List (List Int)) (v4 : Int) (v5 : Int) : Option γ :=
 bif decide (v5 < v4) then
  bif decide ((0 : Int) ≤ v5) then
   bif decide (v5.toNat < v3.length) then
    bif (↑(v3.getD v5.toNat []).length : Int) != (2 : Int) then
     ret (Bool.false)
    else
     bif decide (Int.toNat (0 : Int) < (v3.getD v5.toNat []).length) then
      bif decide ((v3.getD v5.toNat []).getD (Int.toNat (0 : Int)) (0 : Int) < (0 : Int)) then
       ret (Bool.false)
      else
       bif decide (Int.toNat (0 : Int) < (v3.getD v5.toNat []).length) then
        bif decide ((v3.getD v5.toNat []).getD (Int.toNat (0 : Int)) (0 : Int) ≥ v1) then
         ret (Bool.false)
        else
         bif decide (Int.toNat (1 : Int) < (v3.getD v5.toNat []).length) then
          bif decide ((v3.getD v5.toNat []).getD (Int.toNat (1 : Int)) (0 : Int) < (0 : Int)) then
           ret (Bool.false)
          else
           bif decide (Int.toNat (1 : Int) < (v3.getD v5.toNat []).length) then
            bif decide ((v3.getD v5.toNat []).getD (Int.toNat (1 : Int)) (0 : Int) ≥ v2) then
             ret (Bool.false)
            else
             lp2 (v0) (v1) (v2) (v3) (v4) (IntKind.i64.wrap (v5 + (1 : Int)))
           else
            none
         else
          none
       else
        none
     else
      none
   else
    none
  else
   none
 else
  ret (decide ((↑v0.length : Int) ≤ (6 : Int)))
theorem spec_l1Pairs.k (v0 : List (List Int)) (v1 : Int) (v2 : Int) : topL E (callT E tab) 67 Try.f67 (spec_l1Pairs.c v0 v1 v2) = spec_l1Pairs.t (fun b => some (spec_l1Pairs.mk b)) spec_l1Pairs.q2 v0 v1 v2 := by kernel_rfl
theorem spec_l1Pairs.k2 (v0 : List (List Int)) (v1 : Int) (v2 : Int) (v3 : List (List Int)) (v4 : Int) (v5 : Int) : roundL E (callT E tab) 67 Try.f67 3 [.r, .l, .r, .b] (vc (.d .fro (.sl (.sl (.int .i64))) v0) :: vc (iL v1) :: vc (iL v2) :: nn 6 (vc (.d .fro (.sl (.sl (.int .i64))) v3) :: vc (iL v4) :: vc (iL v5) :: nn 36 ([]))) = spec_l1Pairs.t2 (fun b => some (spec_l1Pairs.mk b)) spec_l1Pairs.q2 v0 v1 v2 v3 v4 v5 := by kernel_rfl
theorem spec_l1Pairs.eq (v0 : List (List Int)) (v1 : Int) (v2 : Int) {b : Bool} (h : spec_l1Pairs.t some spec_l1Pairs.l2 v0 v1 v2 = some b) : spec_l1Pairs v0 v1 v2 = some b := tOf_intro spec_l1Pairs.un (fun _ => by kernel_rfl) (vlim_fn (callT_le E tab) rfl rfl rfl ((spec_l1Pairs.k v0 v1 v2).trans ((by unfold spec_l1Pairs.t; repeat' first | exact Sub.ret | exact Sub.none | exact Sub.loop | apply Sub.cond | (apply Sub.bind; intro _) : Sub spec_l1Pairs.mk _ _) b h)))
theorem spec_l1Pairs.eq2 (v0 : List (List Int)) (v1 : Int) (v2 : Int) (v3 : List (List Int)) (v4 : Int) (v5 : Int) {b : Bool} (h : spec_l1Pairs.t2 some spec_l1Pairs.l2 v0 v1 v2 v3 v4 v5 = some b) : spec_l1Pairs.l2 v0 v1 v2 v3 v4 v5 = some b := tOf_intro spec_l1Pairs.un (fun _ => by kernel_rfl) (loopAtL_step ((spec_l1Pairs.k2 v0 v1 v2 v3 v4 v5).trans ((by unfold spec_l1Pairs.t2; repeat' first | exact Sub.ret | exact Sub.none | exact Sub.loop | apply Sub.cond | (apply Sub.bind; intro _) : Sub spec_l1Pairs.mk _ _) b h)))
end GoV

/- Equations of the program's functions (printed by wip/tools/emit.py). -/
namespace GoV
open Go Go.Proofs
set_option maxRecDepth 100000

noncomputable def spec_l11Semi.q11 (v0 : List (List Int × Int)) (v1 : List (List Int)) (v2 : List (List Int × Int)) (v3 : List Int) (v4 : Int) (v5 : Bool) (v6 : List Int) (v7 : Int) (v8 : Bool) (v9 : List (List Int × Int)) (v10 : Int) (v11 : Int) (v12 : List (List Int × Int)) (v13 : Int) (v14 : Int) (v15 : List (List Int)) (v16 : Int) (v17 : Int) : Option R := loopAtL E (callT E tab) 69 Try.f69 3 [.r, .r, .l, .r, .b, .o, .r, .r, .l, .b, .r, .r, .l, .r, .b, .o, .r, .r, .l, .b, .r, .r, .l, .r, .b] (nn 1 (vc (.d .fro (.sl (.pair (.sl (.int .i64)) (.int .i64))) v0) :: vc (.d .fro (.sl (.sl (.int .i64))) v1) :: nn 4 (vc (.d .sha (.sl (.pair (.sl (.int .i64)) (.int .i64))) v2) :: nn 1 (⟨(.box false), [.d .fro (.sl (.int .i64)) v3, iL v4], false, false, false, 0, 0⟩ :: vc (bL v5) :: nn 1 (⟨(.box false), [.d .fro (.sl (.int .i64)) v6, iL v7], false, false, false, 0, 0⟩ :: vc (bL v8) :: nn 2 (vc (.d .fro (.sl (.pair (.sl (.int .i64)) (.int .i64))) v9) :: vc (iL v10) :: vc (iL v11) :: nn 3 (vc (.d .fro (.sl (.pair (.sl (.int .i64)) (.int .i64))) v12) :: vc (iL v13) :: vc (iL v14) :: nn 6 (vc (.d .fro (.sl (.sl (.int .i64))) v15) :: vc (iL v16) :: vc (iL v17) :: nn 36 ([])))))))))
noncomputable def spec_l11Semi.l11 (v0 : List (List Int × Int)) (v1 : List (List Int)) (v2 : List (List Int × Int)) (v3 : List Int) (v4 : Int) (v5 : Bool) (v6 : List Int) (v7 : Int) (v8 : Bool) (v9 : List (List Int × Int)) (v10 : Int) (v11 : Int) (v12 : List (List Int × Int)) (v13 : Int) (v14 : Int) (v15 : List (List Int)) (v16 : Int) (v17 : Int) : Option ((List (List Int × Int))) := tOf spec_l11Semi.mk (spec_l11Semi.q11 v0 v1 v2 v3 v4 v5 v6 v7 v8 v9 v10 v11 v12 v13 v14 v15 v16 v17)
noncomputable def spec_l11Semi.q7 (v0 : List (List Int × Int)) (v1 : List (List Int)) (v2 : List (List Int × Int)) (v3 : List Int) (v4 : Int) (v5 : Bool) (v6 : List (List Int × Int)) (v7 : Int) (v8 : Int) (v9 : List (List Int × Int)) (v10 : Int) (v11 : Int) : Option R := loopAtL E (callT E tab) 69 Try.f69 3 [.r, .r, .l, .r, .b, .o, .r, .r, .l, .b, .r, .r, .l, .r, .b] (nn 1 (vc (.d .fro (.sl (.pair (.sl (.int .i64)) (.int .i64))) v0) :: vc (.d .fro (.sl (.sl (.int .i64))) v1) :: nn 4 (vc (.d .sha (.sl (.pair (.sl (.int .i64)) (.int .i64))) v2) :: nn 1 (⟨(.box false), [.d .fro (.sl (.int .i64)) v3, iL v4], false, false, false, 0, 0⟩ :: vc (bL v5) :: nn 5 (vc (.d .fro (.sl (.pair (.sl (.int .i64)) (.int .i64))) v6) :: vc (iL v7) :: vc (iL v8) :: nn 3 (vc (.d .fro (.sl (.pair (.sl (.int .i64)) (.int .i64))) v9) :: vc (iL v10) :: vc (iL v11) :: nn 45 ([])))))))
noncomputable def spec_l11Semi.l7 (v0 : List (List Int × Int)) (v1 : List (List Int)) (v2 : List (List Int × Int)) (v3 : List Int) (v4 : Int) (v5 : Bool) (v6 : List (List Int × Int)) (v7 : Int) (v8 : Int) (v9 : List (List Int × Int)) (v10 : Int) (v11 : Int) : Option ((List (List Int × Int))) := tOf spec_l11Semi.mk (spec_l11Semi.q7 v0 v1 v2 v3 v4 v5 v6 v7 v8 v9 v10 v11)
noncomputable def spec_l11Semi.q3 (v0 : List (List Int × Int)) (v1 : List (List Int)) (v2 : List (List Int × Int)) (v3 : List (List Int × Int)) (v4 : Int) (v5 : Int) : Option R := loopAtL E (callT E tab) 69 Try.f69 3 [.r, .r, .l, .r, .b] (nn 1 (vc (.d .fro (.sl (.pair (.sl (.int .i64)) (.int .i64))) v0) :: vc (.d .fro (.sl (.sl (.int .i64))) v1) :: nn 4 (vc (.d .sha (.sl (.pair (.sl (.int .i64)) (.int .i64))) v2) :: nn 8 (vc (.d .fro (.sl (.pair (.sl (.int .i64)) (.int .i64))) v3) :: vc (iL v4) :: vc (iL v5) :: nn 51 ([])))))
noncomputable def spec_l11Semi.l3 (v0 : List (List Int × Int)) (v1 : List (List Int)) (v2 : List (List Int × Int)) (v3 : List (List Int × Int)) (v4 : Int) (v5 : Int) : Option ((List (List Int × Int))) := tOf spec_l11Semi.mk (spec_l11Semi.q3 v0 v1 v2 v3 v4 v5)
noncomputable def spec_l11Semi.t {γ : Type} (ret : ((List (List Int × Int))) → Option γ) (lp11 : (List (List Int × Int)) → (List (List Int)) → (List (List Int × Int)) → (List Int) → Int → Bool → (List Int) → Int → Bool → (List (List Int × Int)) → Int → Int → (List (List Int × Int)) → Int → Int → (List (List Int)) → Int → Int → Option γ) (lp7 : (List (List Int × Int)) → (List (List Int)) → (List (List Int × Int)) → (List Int) → Int → Bool → (List (List Int × Int)) → Int → Int → (List (List Int × Int)) → Int → Int → Option γ) (lp3 : (List (List Int × Int)) → (List (List Int)) → (List (List Int × Int)) → (List (List Int × Int)) → Int → Int → Option γ) (v0 : List (List Int × Int)) (v1 : List (List Int × Int)) (v2 : List (List Int)) : Option γ :=
 lp3 (v1) (v2) ([]) (v0) ((↑v0.length : Int)) ((0 : Int))
noncomputable def spec_l11Semi.t11 {γ : Type} (ret : ((List (List Int × Int))) → Option γ) (lp11 : (List (List Int × Int)) → (List (List Int)) → (List (List Int × Int)) → (List Int) → Int → Bool → (List Int) → Int → Bool → (List (List Int × Int)) → Int → Int → (List (List Int × Int)) → Int → Int → (List (List Int)) → Int → Int → Option γ) (lp7 : (List (List Int × Int)) → (List (List Int)) → (List (List Int × Int)) → (List Int) → Int → Bool → (List (List Int × Int)) → Int → Int → (List (List Int × Int)) → Int → Int → Option γ) (lp3 : (List (List Int × Int)) → (List (List Int)) → (List (List Int × Int)) → (List (List Int × Int)) → Int → Int → Option γ) (v0 : List (List Int × Int)) (v1 : List (List Int)) (v2 : List (List Int × Int)) (v3 : List Int) (v4 : Int) (v5 : Bool) (v6 : List Int) (v7 : Int) (v8 : Bool) (v9 : List (List Int × Int)) (v10 : Int) (v11 : Int) (v12 : List (List Int × Int)) (v13 : Int) (v14 : Int) (v15 : List (List Int)) (v16 : Int) (v17 : Int) : Option γ :=
 bif decide (v17 < v16) then
  bif decide ((0 : Int) ≤ v17) then
   bif decide (v17.toNat < v15.length) then
    bif v8 then
     bif decide (Int.toNat (0 : Int) < (v15.getD v17.toNat []).length) then
      bif decide ((0 : Int) ≤ (v15.getD v17.toNat []).getD (Int.toNat (0 : Int)) (0 : Int)) then
       bif decide (((v15.getD v17.toNat []).getD (Int.toNat (0 : Int)) (0 : Int)).toNat < v3.length) then
        bif decide (Int.toNat (1 : Int) < (v15.getD v17.toNat []).length) then
         bif decide ((0 : Int) ≤ (v15.getD v17.toNat []).getD (Int.toNat (1 : Int)) (0 : Int)) then
          bif decide (((v15.getD v17.toNat []).getD (Int.toNat (1 : Int)) (0 : Int)).toNat < v6.length) then
           lp11 (v0) (v1) (v2) (v3) (v4) (v5) (v6) (v7) (v3.getD ((v15.getD v17.toNat []).getD (Int.toNat (0 : Int)) (0 : Int)).toNat (0 : Int) ==   v6.getD ((v15.getD v17.toNat []).getD (Int.toNat (1 : Int)) (0 : Int)).toNat (0 : Int)) (v9) (v10) (v11) (v12) (v13) (v14) (v15) (v16) (IntKind.i64.wrap (v17 + (1 : Int)))
          else
           none
         else
          none
        else
         none
       else
        none
      else
       none
     else
      none
    else
     lp11 (v0) (v1) (v2) (v3) (v4) (v5) (v6) (v7) (Bool.false) (v9) (v10) (v11) (v12) (v13) (v14) (v15) (v16) (IntKind.i64.wrap (v17 + (1 : Int)))
   else
    none
  else
   none
 else
  bif v5 then
   lp7 (v0) (v1) (v2) (v3) (v4) (Bool.true) (v9) (v10) (v11) (v12) (v13) (IntKind.i64.wrap (v14 + (1 : Int)))
  else
   lp7 (v0) (v1) (v2) (v3) (v4) (v8) (v9) (v10) (v11) (v12) (v13) (IntKind.i64.wrap (v14 + (1 : Int)))
noncomputable def spec_l11Semi.t7 {γ : Type} (ret : ((List (List Int × Int))) → Option γ) (lp11 : (List (List Int × Int)) → (List (List Int)) → (List (List Int × Int)) → (List Int) → Int → Bool → (List Int) → Int → Bool → (List (List Int × Int)) → Int → Int → (List (List Int × Int)) → Int → Int → (List (List Int)) → Int → Int → Option γ) (lp7 : (List (List Int × Int)) → (List (List Int)) → (List (List Int × Int)) → (List Int) → Int → Bool → (List (List Int × Int)) → Int → Int → (List (List Int × Int)) → Int → Int → Option γ) (lp3 : (List (List Int × Int)) → (List (List Int)) → (List (List Int × Int)) → (List (List Int × Int)) → Int → Int → Option γ) (v0 : List (List Int × Int)) (v1 : List (List Int)) (v2 : List (List Int × Int)) (v3 : List Int) (v4 : Int) (v5 : Bool) (v6 : List (List Int × Int)) (v7 : Int) (v8 : Int) (v9 : List (List Int × Int)) (v10 : Int) (v11 : Int) : Option γ :=
 bif decide (v11 < v10) then
  bif decide ((0 : Int) ≤ v11) then
   bif decide (v11.toNat < v9.length) then
    lp11 (v0) (v1) (v2) (v3) (v4) (v5) ((v9.getD v11.toNat ([], (0 : Int))).fst) ((v9.getD v11.toNat ([], (0 : Int))).snd) (decide ((v9.getD v11.toNat ([], (0 : Int))).snd > (0 : Int))) (v6) (v7) (v8) (v9) (v10) (v11) (v1) ((↑v1.length : Int)) ((0 : Int))
   else
    none
  else
   none
 else
  bif v5 then
   bif decide (v2.length + [(v3, v4)].length ≤ (4294967296 : Nat)) then
    lp3 (v0) (v1) (v2 ++ [(v3, v4)]) (v6) (v7) (IntKind.i64.wrap (v8 + (1 : Int)))
   else
    none
  else
   lp3 (v0) (v1) (v2) (v6) (v7) (IntKind.i64.wrap (v8 + (1 : Int)))
noncomputable def spec_l11Semi.t3 {γ : Type} (ret : ((List (List Int × Int))) → Option γ) (lp11 : (List (List Int × Int)) → (List (List Int)) → (List (List Int × Int)) → (List Int) → Int → Bool → (List Int) → Int → Bool → (List (List Int × Int)) → Int → Int → (List (List Int × Int)) → Int → Int → (List (List Int)) → Int → Int → Option γ) (lp7 : (List (List Int × Int)) → (List (List Int)) → (List (List Int × Int)) → (List Int) → Int → Bool → (List (List Int × Int)) → Int → Int → (List (List Int × Int)) → Int → Int → Option γ) (lp3 : (List (List Int × Int)) → (List (List Int)) → (List (List Int × Int)) → (List (List Int × Int)) → Int → Int → Option γ) (v0 : List (List Int × Int)) (v1 : List (List Int)) (v2 : List (List Int × Int)) (v3 : List (List Int × Int)) (v4 : Int) (v5 : Int) : Option γ :=
 bif decide (v5 < v4) then
  bif decide ((0 : Int) ≤ v5) then
   bif decide (v5.toNat < v3.length) then
    lp7 (v0) (v1) (v2) ((v3.getD v5.toNat ([], (0 : Int))).fst) ((v3.getD v5.toNat ([], (0 : Int))).snd) (Bool.false) (v3) (v4) (v5) (v0) ((↑v0.length : Int)) ((0 : Int))
   else
    none
  else
   none
 else
  ret (v2)
theorem spec_l11Semi.k (v0 : List (List Int × Int)) (v1 : List (List Int × Int)) (v2 : List (List Int)) : topL E (callT E tab) 69 Try.f69 (spec_l11Semi.c v0 v1 v2) = spec_l11Semi.t (fun b => some (spec_l11Semi.mk b)) spec_l11Semi.q11 spec_l11Semi.q7 spec_l11Semi.q3 v0 v1 v2 := by kernel_rfl
theorem spec_l11Semi.k11 (v0 : List (List Int × Int)) (v1 : List (List Int)) (v2 : List (List Int × Int)) (v3 : List Int) (v4 : Int) (v5 : Bool) (v6 : List Int) (v7 : Int) (v8 : Bool) (v9 : List (List Int × Int)) (v10 : Int) (v11 : Int) (v12 : List (List Int × Int)) (v13 : Int) (v14 : Int) (v15 : List (List Int)) (v16 : Int) (v17 : Int) : roundL E (callT E tab) 69 Try.f69 3 [.r, .r, .l, .r, .b, .o, .r, .r, .l, .b, .r, .r, .l, .r, .b, .o, .r, .r, .l, .b, .r, .r, .l, .r, .b] (nn 1 (vc (.d .fro (.sl (.pair (.sl (.int .i64)) (.int .i64))) v0) :: vc (.d .fro (.sl (.sl (.int .i64))) v1) :: nn 4 (vc (.d .sha (.sl (.pair (.sl (.int .i64)) (.int .i64))) v2) :: nn 1 (⟨(.box false), [.d .fro (.sl (.int .i64)) v3, iL v4], false, false, false, 0, 0⟩ :: vc (bL v5) :: nn 1 (⟨(.box false), [.d .fro (.sl (.int .i64)) v6, iL v7], false, false, false, 0, 0⟩ :: vc (bL v8) :: nn 2 (vc (.d .fro (.sl (.pair (.sl (.int .i64)) (.int .i64))) v9) :: vc (iL v10) :: vc (iL v11) :: nn 3 (vc (.d .fro (.sl (.pair (.sl (.int .i64)) (.int .i64))) v12) :: vc (iL v13) :: vc (iL v14) :: nn 6 (vc (.d .fro (.sl (.sl (.int .i64))) v15) :: vc (iL v16) :: vc (iL v17) :: nn 36 ([]))))))))) = spec_l11Semi.t11 (fun b => some (spec_l11Semi.mk b)) spec_l11Semi.q11 spec_l11Semi.q7 spec_l11Semi.q3 v0 v1 v2 v3 v4 v5 v6 v7 v8 v9 v10 v11 v12 v13 v14 v15 v16 v17 := by kernel_rfl
theorem spec_l11Semi.k7 (v0 : List (List Int × Int)) (v1 : List (List Int)) (v2 : List (List Int × Int)) (v3 : List Int) (v4 : Int) (v5 : Bool) (v6 : List (List Int × Int)) (v7 : Int) (v8 : Int) (v9 : List (List Int × Int)) (v10 : Int) (v11 : Int) : roundL E (callT E tab) 69 Try.f69 3 [.r, .r, .l, .r, .b, .o, .r, .r, .l, .b, .r, .r, .l, .r, .b] (nn 1 (vc (.d .fro (.sl (.pair (.sl (.int .i64)) (.int .i64))) v0) :: vc (.d .fro (.sl (.sl (.int .i64))) v1) :: nn 4 (vc (.d .sha (.sl (.pair (.sl (.int .i64)) (.int .i64))) v2) :: nn 1 (⟨(.box false), [.d .fro (.sl (.int .i64)) v3, iL v4], false, false, false, 0, 0⟩ :: vc (bL v5) :: nn 5 (vc (.d .fro (.sl (.pair (.sl (.int .i64)) (.int .i64))) v6) :: vc (iL v7) :: vc (iL v8) :: nn 3 (vc (.d .fro (.sl (.pair (.sl (.int .i64)) (.int .i64))) v9) :: vc (iL v10) :: vc (iL v11) :: nn 45 ([]))))))) = spec_l11Semi.t7 (fun b => some (spec_l11Semi.mk b)) spec_l11Semi.q11 spec_l11Semi.q7 spec_l11Semi.q3 v0 v1 v2 v3 v4 v5 v6 v7 v8 v9 v10 v11 := by kernel_rfl
theorem spec_l11Semi.k3 (v0 : List (List Int × Int)) (v1 : List (List Int)) (v2 : List (List Int × Int)) (v3 : List (List Int × Int)) (v4 : Int) (v5 : Int) : roundL E (callT E tab) 69 Try.f69 3 [.r, .r, .l, .r, .b] (nn 1 (vc (.d .fro (.sl (.pair (.sl (.int .i64)) (.int .i64))) v0) :: vc (.d .fro (.sl (.sl (.int .i64))) v1) :: nn 4 (vc (.d .sha (.sl (.pair (.sl (.int .i64)) (.int .i64))) v2) :: nn 8 (vc (.d .fro (.sl (.pair (.sl (.int .i64)) (.int .i64))) v3) :: vc (iL v4) :: vc (iL v5) :: nn 51 ([]))))) = spec_l11Semi.t3 (fun b => some (spec_l11Semi.mk b)) spec_l11Semi.q11 spec_l11Semi.q7 spec_l11Semi.q3 v0 v1 v2 v3 v4 v5 := by kernel_rfl
theorem spec_l11Semi.eq (v0 : List (List Int × Int)) (v1 : List (List Int × Int)) (v2 : List (List Int)) {b : (List (List Int × Int))} (h : spec_l11Semi.t some spec_l11Semi.l11 spec_l11Semi.l7 spec_l11Semi.l3 v0 v1 v2 = some b) : spec_l11Semi v0 v1 v2 = some b := tOf_intro spec_l11Semi.un (fun _ => by kernel_rfl) (vlim_fn (callT_le E tab) rfl rfl rfl ((spec_l11Semi.k v0 v1 v2).trans ((by unfold spec_l11Semi.t; repeat' first | exact Sub.ret | exact Sub.none | exact Sub.loop | apply Sub.cond | (apply Sub.bind; intro _) : Sub spec_l11Semi.mk _ _) b h)))
theorem spec_l11Semi.eq11 (v0 : List (List Int × Int)) (v1 : List (List Int)) (v2 : List (List Int × Int)) (v3 : List Int) (v4 : Int) (v5 : Bool) (v6 : List Int) (v7 : Int) (v8 : Bool) (v9 : List (List Int × Int)) (v10 : Int) (v11 : Int) (v12 : List (List Int × Int)) (v13 : Int) (v14 : Int) (v15 : List (List Int)) (v16 : Int) (v17 : Int) {b : (List (List Int × Int))} (h : spec_l11Semi.t11 some spec_l11Semi.l11 spec_l11Semi.l7 spec_l11Semi.l3 v0 v1 v2 v3 v4 v5 v6 v7 v8 v9 v10 v11 v12 v13 v14 v15 v16 v17 = some b) : spec_l11Semi.l11 v0 v1 v2 v3 v4 v5 v6 v7 v8 v9 v10 v11 v12 v13 v14 v15 v16 v17 = some b := tOf_intro spec_l11Semi.un (fun _ => by kernel_rfl) (loopAtL_step ((spec_l11Semi.k11 v0 v1 v2 v3 v4 v5 v6 v7 v8 v9 v10 v11 v12 v13 v14 v15 v16 v17).trans ((by unfold spec_l11Semi.t11; repeat' first | exact Sub.ret | exact Sub.none | exact Sub.loop | apply Sub.cond | (apply Sub.bind; intro _) : Sub spec_l11Semi.mk _ _) b h)))
theorem spec_l11Semi.eq7 (v0 : List (List Int × Int)) (v1 : List (List Int)) (v2 : List (List Int × Int)) (v3 : List Int) (v4 : Int) (v5 : Bool) (v6 : List (List Int × Int)) (v7 : Int) (v8 : Int) (v9 : List (List Int × Int)) (v10 : Int) (v11 : Int) {b : (List (List Int × Int))} (h : spec_l11Semi.t7 some spec_l11Semi.l11 spec_l11Semi.l7 spec_l11Semi.l3 v0 v1 v2 v3 v4 v5 v6 v7 v8 v9 v10 v11 = some b) : spec_l11Semi.l7 v0 v1 v2 v3 v4 v5 v6 v7 v8 v9 v10 v11 = some b := tOf_intro spec_l11Semi.un (fun _ => by kernel_rfl) (loopAtL_step ((spec_l11Semi.k7 v0 v1 v2 v3 v4 v5 v6 v7 v8 v9 v10 v11).trans ((by unfold spec_l11Semi.t7; repeat' first | exact Sub.ret | exact Sub.none | exact Sub.loop | apply Sub.cond | (apply Sub.bind; intro _) : Sub spec_l11Semi.mk _ _) b h)))
theorem spec_l11Semi.eq3 (v0 : List (List Int × Int)) (v1 : List (List Int)) (v2 : List (List Int × Int)) (v3 : List (List Int × Int)) (v4 : Int) (v5 : Int) {b : (List (List Int × Int))} (h : spec_l11Semi.t3 some spec_l11Semi.l11 spec_l11Semi.l7 spec_l11Semi.l3 v0 v1 v2 v3 v4 v5 = some b) : spec_l11Semi.l3 v0 v1 v2 v3 v4 v5 = some b := tOf_intro spec_l11Semi.un (fun _ => by kernel_rfl) (loopAtL_step ((spec_l11Semi.k3 v0 v1 v2 v3 v4 v5).trans ((by unfold spec_l11Semi.t3; repeat' first | exact Sub.ret | exact Sub.none | exact Sub.loop | apply Sub.cond | (apply Sub.bind; intro _) : Sub spec_l11Semi.mk _ _) b h)))
noncomputable def spec_l2Tell.q3 (v0 : Int) (v1 : List (List Int × Int)) (v2 : Int) (v3 : List (List Int × Int)) (v4 : List (List Int × Int)) (v5 : Int) (v6 : Int) : Option R := loopAtL E (callT E tab) 68 Try.f68 2 [.r, .r, .l, .r, .b] (nn 4 (⟨(.box false), [iL v0, .d .deep (.sl (.pair (.sl (.int .i64)) (.int .i64))) v1], false, false, false, 0, 0⟩ :: nn 1 (⟨(.box false), [iL v2, .d .deep (.sl (.pair (.sl (.int .i64)) (.int .i64))) v3], false, false, false, 0, 0⟩ :: nn 4 (vc (.d .fro (.sl (.pair (.sl (.int .i64)) (.int .i64))) v4) :: vc (iL v5) :: vc (iL v6) :: nn 20 ([])))))
noncomputable def spec_l2Tell.l3 (v0 : Int) (v1 : List (List Int × Int)) (v2 : Int) (v3 : List (List Int × Int)) (v4 : List (List Int × Int)) (v5 : Int) (v6 : Int) : Option (Int × (List (List Int × Int)) × Bool) := tOf spec_l2Tell.mk (spec_l2Tell.q3 v0 v1 v2 v3 v4 v5 v6)
noncomputable def spec_l2Tell.t {γ : Type} (ret : (Int × (List (List Int × Int)) × Bool) → Option γ) (lp3 : Int → (List (List Int × Int)) → Int → (List (List Int × Int)) → (List (List Int × Int)) → Int → Int → Option γ) (v0 : Int) (v1 : List (List Int × Int)) : Option γ :=
 lp3 ((0 : Int)) ([]) (v0) ([]) (v1) ((↑v1.length : Int)) ((0 : Int))
noncomputable def spec_l2Tell.t3 {γ : Type} (ret : (Int × (List (List Int × Int)) × Bool) → Option γ) (lp3 : Int → (List (List Int × Int)) → Int → (List (List Int × Int)) → (List (List Int × Int)) → Int → Int → Option γ) (v0 : Int) (v1 : List (List Int × Int)) (v2 : Int) (v3 : List (List Int × Int)) (v4 : List (List Int × Int)) (v5 : Int) (v6 : Int) : Option γ :=
 bif decide (v6 < v5) then
  bif decide ((0 : Int) ≤ v6) then
   bif decide (v6.toNat < v4.length) then
    (spec_l2OwnRow ((v4.getD v6.toNat ([], (0 : Int))).fst)).bind fun (r0 : (List Int)) =>
    bif decide (v3.length + [(r0, (v4.getD v6.toNat ([], (0 : Int))).snd)].length ≤ (4294967296 : Nat)) then
     lp3 (v0) (v1) (v2) (v3 ++ [(r0, (v4.getD v6.toNat ([], (0 : Int))).snd)]) (v4) (v5) (IntKind.i64.wrap (v6 + (1 : Int)))
    else
     none
   else
    none
  else
   none
 else
  (spec_GoodTable (v2) (v3)).bind fun (r1 : Bool) =>
  bif !r1 then
   ret ((0 : Int), [], Bool.false)
  else
   ret (v2, v3, Bool.true)
theorem spec_l2Tell.k (v0 : Int) (v1 : List (List Int × Int)) : topL E (callT E tab) 68 Try.f68 (spec_l2Tell.c v0 v1) = spec_l2Tell.t (fun b => some (spec_l2Tell.mk b)) spec_l2Tell.q3 v0 v1 := by kernel_rfl
theorem spec_l2Tell.k3 (v0 : Int) (v1 : List (List Int × Int)) (v2 : Int) (v3 : List (List Int × Int)) (v4 : List (List Int × Int)) (v5 : Int) (v6 : Int) : roundL E (callT E tab) 68 Try.f68 2 [.r, .r, .l, .r, .b] (nn 4 (⟨(.box false), [iL v0, .d .deep (.sl (.pair (.sl (.int .i64)) (.int .i64))) v1], false, false, false, 0, 0⟩ :: nn 1 (⟨(.box false), [iL v2, .d .deep (.sl (.pair (.sl (.int .i64)) (.int .i64))) v3], false, false, false, 0, 0⟩ :: nn 4 (vc (.d .fro (.sl (.pair (.sl (.int .i64)) (.int .i64))) v4) :: vc (iL v5) :: vc (iL v6) :: nn 20 ([]))))) = spec_l2Tell.t3 (fun b => some (spec_l2Tell.mk b)) spec_l2Tell.q3 v0 v1 v2 v3 v4 v5 v6 := by kernel_rfl
theorem spec_l2Tell.eq (v0 : Int) (v1 : List (List Int × Int)) {b : Int × (List (List Int × Int)) × Bool} (h : spec_l2Tell.t some spec_l2Tell.l3 v0 v1 = some b) : spec_l2Tell v0 v1 = some b := tOf_intro spec_l2Tell.un (fun _ => by kernel_rfl) (vlim_fn (callT_le E tab) rfl rfl rfl ((spec_l2Tell.k v0 v1).trans ((by unfold spec_l2Tell.t; repeat' first | exact Sub.ret | exact Sub.none | exact Sub.loop | apply Sub.cond | (apply Sub.bind; intro _) : Sub spec_l2Tell.mk _ _) b h)))
theorem spec_l2Tell.eq3 (v0 : Int) (v1 : List (List Int × Int)) (v2 : Int) (v3 : List (List Int × Int)) (v4 : List (List Int × Int)) (v5 : Int) (v6 : Int) {b : Int × (List (List Int × Int)) × Bool} (h : spec_l2Tell.t3 some spec_l2Tell.l3 v0 v1 v2 v3 v4 v5 v6 = some b) : spec_l2Tell.l3 v0 v1 v2 v3 v4 v5 v6 = some b := tOf_intro spec_l2Tell.un (fun _ => by kernel_rfl) (loopAtL_step ((spec_l2Tell.k3 v0 v1 v2 v3 v4 v5 v6).trans ((by unfold spec_l2Tell.t3; repeat' first | exact Sub.ret | exact Sub.none | exact Sub.loop | apply Sub.cond | (apply Sub.bind; intro _) : Sub spec_l2Tell.mk _ _) b h)))
noncomputable def spec_l2OwnRow.t {γ : Type} (ret : ((List Int)) → Option γ) (v0 : List Int) : Option γ :=
 bif decide (([] : List Int).length + v0.length ≤ (4294967296 : Nat)) then
  ret ([] ++ v0)
 else
  none
theorem spec_l2OwnRow.k (v0 : List Int) : topL E (callT E tab) 138 Try.f138 (spec_l2OwnRow.c v0) = spec_l2OwnRow.t (fun b => some (spec_l2OwnRow.mk b)) v0 := by kernel_rfl
theorem spec_l2OwnRow.eq (v0 : List Int) {b : (List Int)} (h : spec_l2OwnRow.t some v0 = some b) : spec_l2OwnRow v0 = some b := tOf_intro spec_l2OwnRow.un (fun _ => by kernel_rfl) (vlim_fn (callT_le E tab) rfl rfl rfl ((spec_l2OwnRow.k v0).trans ((by unfold spec_l2OwnRow.t; repeat' first | exact Sub.ret | exact Sub.none | exact Sub.loop | apply Sub.cond | (apply Sub.bind; intro _) : Sub spec_l2OwnRow.mk _ _) b h)))
noncomputable def impl_SemiJoin.t {γ : Type} (ret : (Int × (List (List Int × Int)) × Bool) → Option γ) (v0 : Int) (v1 : List (List Int × Int)) (v2 : Int) (v3 : List (List Int × Int)) (v4 : List (List Int)) : Option γ :=
 (impl_GoodTable (v0) (v1)).bind fun (r0 : Bool) =>
 bif !r0 then
  ret ((0 : Int), [], Bool.false)
 else
  (impl_GoodTable (v2) (v3)).bind fun (r1 : Bool) =>
  bif !r1 then
   ret ((0 : Int), [], Bool.false)
  else
   (impl_arePairs (v4) (v0) (v2)).bind fun (r2 : Bool) =>
   bif !r2 then
    ret ((0 : Int), [], Bool.false)
   else
    (xi0j (v0) (v1) (v2) (v3) (v4)).bind fun (r3 : Int × (List (List Int × Int))) =>
    ret (r3.fst, r3.snd, Bool.true)
theorem impl_SemiJoin.k (v0 : Int) (v1 : List (List Int × Int)) (v2 : Int) (v3 : List (List Int × Int)) (v4 : List (List Int)) : topL E (callT E tab) 18 Try.f18 (impl_SemiJoin.c v0 v1 v2 v3 v4) = impl_SemiJoin.t (fun b => some (impl_SemiJoin.mk b)) v0 v1 v2 v3 v4 := by kernel_rfl
theorem impl_SemiJoin.eq (v0 : Int) (v1 : List (List Int × Int)) (v2 : Int) (v3 : List (List Int × Int)) (v4 : List (List Int)) {b : Int × (List (List Int × Int)) × Bool} (h : impl_SemiJoin.t some v0 v1 v2 v3 v4 = some b) : impl_SemiJoin v0 v1 v2 v3 v4 = some b := tOf_intro impl_SemiJoin.un (fun _ => by kernel_rfl) (vlim_fn (callT_le E tab) rfl rfl rfl ((impl_SemiJoin.k v0 v1 v2 v3 v4).trans ((by unfold impl_SemiJoin.t; repeat' first | exact Sub.ret | exact Sub.none | exact Sub.loop | apply Sub.cond | (apply Sub.bind; intro _) : Sub impl_SemiJoin.mk _ _) b h)))
noncomputable def impl_GoodTable.q4 (v0 : Int) (v1 : List (List Int × Int)) (v2 : List (List Int × Int)) (v3 : Int) (v4 : Int) : Option R := loopAtL E (callT E tab) 72 Try.f72 1 [.r, .r, .l, .r, .b] (nn 1 (⟨(.box false), [iL v0, .d .fro (.sl (.pair (.sl (.int .i64)) (.int .i64))) v1], false, false, false, 0, 0⟩ :: nn 14 (vc (.d .fro (.sl (.pair (.sl (.int .i64)) (.int .i64))) v2) :: vc (iL v3) :: vc (iL v4) :: nn 39 ([]))))
noncomputable def impl_GoodTable.l4 (v0 : Int) (v1 : List (List Int × Int)) (v2 : List (List Int × Int)) (v3 : Int) (v4 : Int) : Option (Bool) := tOf impl_GoodTable.mk (impl_GoodTable.q4 v0 v1 v2 v3 v4)
noncomputable def impl_GoodTable.t {γ : Type} (ret : (Bool) → Option γ) (lp4 : Int → (List (List Int × Int)) → (List (List Int × Int)) → Int → Int → Option γ) (v0 : Int) (v1 : List (List Int × Int)) : Option γ :=
 (impl_isColumns (v0)).bind fun (r0 : Bool) =>
 bif !r0 then
  ret (Bool.false)
 else
  bif decide ((↑v1.length : Int) > (60 : Int)) then
   ret (Bool.false)
  else
   lp4 (v0) (v1) (v1) ((↑v1.length : Int)) ((0 : Int))
noncomputable def impl_GoodTable.t4 {γ : Type} (ret : (Bool) → Option γ) (lp4 : Int → (List (List Int × Int)) → (List (List Int × Int)) → Int → Int → Option γ) (v0 : Int) (v1 : List (List Int × Int)) (v2 : List (List Int × Int)) (v3 : Int) (v4 : Int) : Option γ :=
 bif decide (v4 < v3) then
  bif decide ((0 : Int) ≤ v4) then
   bif decide (v4.toNat < v2.length) then
    (impl_isRowOf ((v2.getD v4.toNat ([], (0 : Int))).fst) (v0)).bind fun (r1 : Bool) =>
    bif !r1 then
     ret (Bool.false)
    else
     (impl_isWeight ((v2.getD v4.toNat ([], (0 : Int))).snd)).bind fun (r2 : Bool) =>
     bif !r2 then
      ret (Bool.false)
     else
      bif (v2.getD v4.toNat ([], (0 : Int))).snd == (0 : Int) then
       ret (Bool.false)
      else
       bif decide (v4 > (0 : Int)) then
        bif decide ((0 : Int) ≤ IntKind.i64.wrap (v4 - (1 : Int))) then
         bif decide ((IntKind.i64.wrap (v4 - (1 : Int))).toNat < v1.length) then
          (impl_compareRows ((v1.getD (IntKind.i64.wrap (v4 - (1 : Int))).toNat ([], (0 : Int))).fst) ((v2.getD v4.toNat ([], (0 : Int))).fst)).bind fun (r3 : Int) =>
          bif decide (r3 ≥ (0 : Int)) then
           ret (Bool.false)
          else
           lp4 (v0) (v1) (v2) (v3) (IntKind.i64.wrap (v4 + (1 : Int)))
         else
          none
        else
         none
       else
        lp4 (v0) (v1) (v2) (v3) (IntKind.i64.wrap (v4 + (1 : Int)))
   else
    none
  else
   none
 else
  ret (Bool.true)
theorem impl_GoodTable.k (v0 : Int) (v1 : List (List Int × Int)) : topL E (callT E tab) 72 Try.f72 (impl_GoodTable.c v0 v1) = impl_GoodTable.t (fun b => some (impl_GoodTable.mk b)) impl_GoodTable.q4 v0 v1 := by kernel_rfl
theorem impl_GoodTable.k4 (v0 : Int) (v1 : List (List Int × Int)) (v2 : List (List Int × Int)) (v3 : Int) (v4 : Int) : roundL E (callT E tab) 72 Try.f72 1 [.r, .r, .l, .r, .b] (nn 1 (⟨(.box false), [iL v0, .d .fro (.sl (.pair (.sl (.int .i64)) (.int .i64))) v1], false, false, false, 0, 0⟩ :: nn 14 (vc (.d .fro (.sl (.pair (.sl (.int .i64)) (.int .i64))) v2) :: vc (iL v3) :: vc (iL v4) :: nn 39 ([])))) = impl_GoodTable.t4 (fun b => some (impl_GoodTable.mk b)) impl_GoodTable.q4 v0 v1 v2 v3 v4 := by kernel_rfl
theorem impl_GoodTable.eq (v0 : Int) (v1 : List (List Int × Int)) {b : Bool} (h : impl_GoodTable.t some impl_GoodTable.l4 v0 v1 = some b) : impl_GoodTable v0 v1 = some b := tOf_intro impl_GoodTable.un (fun _ => by kernel_rfl) (vlim_fn (callT_le E tab) rfl rfl rfl ((impl_GoodTable.k v0 v1).trans ((by unfold impl_GoodTable.t; repeat' first | exact Sub.ret | exact Sub.none | exact Sub.loop | apply Sub.cond | (apply Sub.bind; intro _) : Sub impl_GoodTable.mk _ _) b h)))
theorem impl_GoodTable.eq4 (v0 : Int) (v1 : List (List Int × Int)) (v2 : List (List Int × Int)) (v3 : Int) (v4 : Int) {b : Bool} (h : impl_GoodTable.t4 some impl_GoodTable.l4 v0 v1 v2 v3 v4 = some b) : impl_GoodTable.l4 v0 v1 v2 v3 v4 = some b := tOf_intro impl_GoodTable.un (fun _ => by kernel_rfl) (loopAtL_step ((impl_GoodTable.k4 v0 v1 v2 v3 v4).trans ((by unfold impl_GoodTable.t4; repeat' first | exact Sub.ret | exact Sub.none | exact Sub.loop | apply Sub.cond | (apply Sub.bind; intro _) : Sub impl_GoodTable.mk _ _) b h)))
noncomputable def impl_isColumns.t {γ : Type} (ret : (Bool) → Option γ) (v0 : Int) : Option γ :=
 (impl_within (v0) ((0 : Int)) ((6 : Int))).bind fun (r0 : Bool) =>
 ret (r0)
theorem impl_isColumns.k (v0 : Int) : topL E (callT E tab) 140 Try.f140 (impl_isColumns.c v0) = impl_isColumns.t (fun b => some (impl_isColumns.mk b)) v0 := by kernel_rfl
theorem impl_isColumns.eq (v0 : Int) {b : Bool} (h : impl_isColumns.t some v0 = some b) : impl_isColumns v0 = some b := tOf_intro impl_isColumns.un (fun _ => by kernel_rfl) (vlim_fn (callT_le E tab) rfl rfl rfl ((impl_isColumns.k v0).trans ((by unfold impl_isColumns.t; repeat' first | exact Sub.ret | exact Sub.none | exact Sub.loop | apply Sub.cond | (apply Sub.bind; intro _) : Sub impl_isColumns.mk _ _) b h)))
noncomputable def impl_within.t {γ : Type} (ret : (Bool) → Option γ) (v0 : Int) (v1 : Int) (v2 : Int) : Option γ :=
 bif decide (v1 ≤ v0) then
  ret (decide (v0 ≤ v2))
 else
  ret (Bool.false)
theorem impl_within.k (v0 : Int) (v1 : Int) (v2 : Int) : topL E (callT E tab) 158 Try.f158 (impl_within.c v0 v1 v2) = impl_within.t (fun b => some (impl_within.mk b)) v0 v1 v2 := by kernel_rfl
theorem impl_within.eq (v0 : Int) (v1 : Int) (v2 : Int) {b : Bool} (h : impl_within.t some v0 v1 v2 = some b) : impl_within v0 v1 v2 = some b := tOf_intro impl_within.un (fun _ => by kernel_rfl) (vlim_fn (callT_le E tab) rfl rfl rfl ((impl_within.k v0 v1 v2).trans ((by unfold impl_within.t; repeat' first | exact Sub.ret | exact Sub.none | exact Sub.loop | apply Sub.cond | (apply Sub.bind; intro _) : Sub impl_within.mk _ _) b h)))
noncomputable def impl_isRowOf.t {γ : Type} (ret : (Bool) → Option γ) (v0 : List Int) (v1 : Int) : Option γ :=
 (impl_GoodRow (v0)).bind fun (r0 : Bool) =>
 bif r0 then
  ret ((↑v0.length : Int) == v1)
 else
  ret (Bool.false)
theorem impl_isRowOf.k (v0 : List Int) (v1 : Int) : topL E (callT E tab) 141 Try.f141 (impl_isRowOf.c v0 v1) = impl_isRowOf.t (fun b => some (impl_isRowOf.mk b)) v0 v1 := by kernel_rfl
theorem impl_isRowOf.eq (v0 : List Int) (v1 : Int) {b : Bool} (h : impl_isRowOf.t some v0 v1 = some b) : impl_isRowOf v0 v1 = some b := tOf_intro impl_isRowOf.un (fun _ => by kernel_rfl) (vlim_fn (callT_le E tab) rfl rfl rfl ((impl_isRowOf.k v0 v1).trans ((by unfold impl_isRowOf.t; repeat' first | exact Sub.ret | exact Sub.none | exact Sub.loop | apply Sub.cond | (apply Sub.bind; intro _) : Sub impl_isRowOf.mk _ _) b h)))
noncomputable def impl_GoodRow.t {γ : Type} (ret : (Bool) → Option γ) (v0 : List Int) : Option γ :=
 bif decide ((↑v0.length : Int) ≤ (6 : Int)) then
  (xi0c (v0)).bind fun (r0 : Bool) =>
  ret (r0)
 else
  ret (Bool.false)
theorem impl_GoodRow.k (v0 : List Int) : topL E (callT E tab) 197 Try.f197 (impl_GoodRow.c v0) = impl_GoodRow.t (fun b => some (impl_GoodRow.mk b)) v0 := by kernel_rfl
theorem impl_GoodRow.eq (v0 : List Int) {b : Bool} (h : impl_GoodRow.t some v0 = some b) : impl_GoodRow v0 = some b := tOf_intro impl_GoodRow.un (fun _ => by kernel_rfl) (vlim_fn (callT_le E tab) rfl rfl rfl ((impl_GoodRow.k v0).trans ((by unfold impl_GoodRow.t; repeat' first | exact Sub.ret | exact Sub.none | exact Sub.loop | apply Sub.cond | (apply Sub.bind; intro _) : Sub impl_GoodRow.mk _ _) b h)))
noncomputable def xi0c.t {γ : Type} (ret : (Bool) → Option γ) (v0 : List Int) : Option γ :=
 (xs04 (v0)).bind fun (r0 : Bool) =>
 ret (!r0)
theorem xi0c.k (v0 : List Int) : topL E (callT E tab) 161 Try.f161 (xi0c.c v0) = xi0c.t (fun b => some (xi0c.mk b)) v0 := by kernel_rfl
theorem xi0c.eq (v0 : List Int) {b : Bool} (h : xi0c.t some v0 = some b) : xi0c v0 = some b := tOf_intro xi0c.un (fun _ => by kernel_rfl) (vlim_fn (callT_le E tab) rfl rfl rfl ((xi0c.k v0).trans ((by unfold xi0c.t; repeat' first | exact Sub.ret | exact Sub.none | exact Sub.loop | apply Sub.cond | (apply Sub.bind; intro _) : Sub xi0c.mk _ _) b h)))
noncomputable def xs04.t {γ : Type} (ret : (Bool) → Option γ) (v0 : List Int) : Option γ :=
 (xs05 (v0)).bind fun (r0 : Int) =>
 ret (decide (r0 ≥ (0 : Int)))
theorem xs04.k (v0 : List Int) : topL E (callT E tab) 205 Try.f205 (xs04.c v0) = xs04.t (fun b => some (xs04.mk b)) v0 := by kernel_rfl
theorem xs04.eq (v0 : List Int) {b : Bool} (h : xs04.t some v0 = some b) : xs04 v0 = some b := tOf_intro xs04.un (fun _ => by kernel_rfl) (vlim_fn (callT_le E tab) rfl rfl rfl ((xs04.k v0).trans ((by unfold xs04.t; repeat' first | exact Sub.ret | exact Sub.none | exact Sub.loop | apply Sub.cond | (apply Sub.bind; intro _) : Sub xs04.mk _ _) b h)))
noncomputable def xs05.q2 (v0 : List Int) (v1 : Int) (v2 : Int) : Option R := loopAtL E (callT E tab) 228 Try.f228 2 [.r, .l, .r, .b] (vc (.d .fro (.sl (.int .i64)) v0) :: vc (.fn 206 [.rp [.fn 223 []] 0]) :: nn 5 (vc (iL v1) :: vc (iL v2) :: nn 10 ([])))
noncomputable def xs05.l2 (v0 : List Int) (v1 : Int) (v2 : Int) : Option (Int) := tOf xs05.mk (xs05.q2 v0 v1 v2)
noncomputable def xs05.t {γ : Type} (ret : (Int) → Option γ) (lp2 : (List Int) → Int → Int → Option γ) (v0 : List Int) : Option γ :=
 lp2 (v0) ((↑v0.length : Int)) ((0 : Int))
noncomputable def xs05.t2 {γ : Type} (ret : (Int) → Option γ) (lp2 : (List Int) → Int → Int → Option γ) (v0 : List Int) (v1 : Int) (v2 : Int) : Option γ :=
 bif decide (v2 < v1) then
  bif decide ((0 : Int) ≤ v2) then
   bif decide (v2.toNat < v0.length) then
    (xi0b (v0.getD v2.toNat (0 : Int))).bind fun (r0 : Bool) =>
    bif r0 then
     ret (v2)
    else
     lp2 (v0) (v1) (IntKind.i64.wrap (v2 + (1 : Int)))
   else
    none
  else
   none
 else
  ret ((-1 : Int))
theorem xs05.k (v0 : List Int) : topL E (callT E tab) 228 Try.f228 (xs05.c v0) = xs05.t (fun b => some (xs05.mk b)) xs05.q2 v0 := by kernel_rfl
theorem xs05.k2 (v0 : List Int) (v1 : Int) (v2 : Int) : roundL E (callT E tab) 228 Try.f228 2 [.r, .l, .r, .b] (vc (.d .fro (.sl (.int .i64)) v0) :: vc (.fn 206 [.rp [.fn 223 []] 0]) :: nn 5 (vc (iL v1) :: vc (iL v2) :: nn 10 ([]))) = xs05.t2 (fun b => some (xs05.mk b)) xs05.q2 v0 v1 v2 := by kernel_rfl
theorem xs05.eq (v0 : List Int) {b : Int} (h : xs05.t some xs05.l2 v0 = some b) : xs05 v0 = some b := tOf_intro xs05.un (fun _ => by kernel_rfl) (vlim_fn (callT_le E tab) rfl rfl rfl ((xs05.k v0).trans ((by unfold xs05.t; repeat' first | exact Sub.ret | exact Sub.none | exact Sub.loop | apply Sub.cond | (apply Sub.bind; intro _) : Sub xs05.mk _ _) b h)))
theorem xs05.eq2 (v0 : List Int) (v1 : Int) (v2 : Int) {b : Int} (h : xs05.t2 some xs05.l2 v0 v1 v2 = some b) : xs05.l2 v0 v1 v2 = some b := tOf_intro xs05.un (fun _ => by kernel_rfl) (loopAtL_step ((xs05.k2 v0 v1 v2).trans ((by unfold xs05.t2; repeat' first | exact Sub.ret | exact Sub.none | exact Sub.loop | apply Sub.cond | (apply Sub.bind; intro _) : Sub xs05.mk _ _) b h)))
noncomputable def xi0b.t {γ : Type} (ret : (Bool) → Option γ) (v0 : Int) : Option γ :=
 (impl_isCell (v0)).bind fun (r0 : Bool) =>
 ret (!r0)
theorem xi0b.k (v0 : Int) : topL E (callT E tab) 206 Try.f206 (xi0b.c v0) = xi0b.t (fun b => some (xi0b.mk b)) v0 := by kernel_rfl
theorem xi0b.eq (v0 : Int) {b : Bool} (h : xi0b.t some v0 = some b) : xi0b v0 = some b := tOf_intro xi0b.un (fun _ => by kernel_rfl) (vlim_fn (callT_le E tab) rfl rfl rfl ((xi0b.k v0).trans ((by unfold xi0b.t; repeat' first | exact Sub.ret | exact Sub.none | exact Sub.loop | apply Sub.cond | (apply Sub.bind; intro _) : Sub xi0b.mk _ _) b h)))
noncomputable def impl_isCell.t {γ : Type} (ret : (Bool) → Option γ) (v0 : Int) : Option γ :=
 (impl_within (v0) ((-100000 : Int)) ((100000 : Int))).bind fun (r0 : Bool) =>
 ret (r0)
theorem impl_isCell.k (v0 : Int) : topL E (callT E tab) 223 Try.f223 (impl_isCell.c v0) = impl_isCell.t (fun b => some (impl_isCell.mk b)) v0 := by kernel_rfl
theorem impl_isCell.eq (v0 : Int) {b : Bool} (h : impl_isCell.t some v0 = some b) : impl_isCell v0 = some b := tOf_intro impl_isCell.un (fun _ => by kernel_rfl) (vlim_fn (callT_le E tab) rfl rfl rfl ((impl_isCell.k v0).trans ((by unfold impl_isCell.t; repeat' first | exact Sub.ret | exact Sub.none | exact Sub.loop | apply Sub.cond | (apply Sub.bind; intro _) : Sub impl_isCell.mk _ _) b h)))
noncomputable def impl_isWeight.t {γ : Type} (ret : (Bool) → Option γ) (v0 : Int) : Option γ :=
 (impl_within (v0) ((-1000000 : Int)) ((1000000 : Int))).bind fun (r0 : Bool) =>
 ret (r0)
theorem impl_isWeight.k (v0 : Int) : topL E (callT E tab) 142 Try.f142 (impl_isWeight.c v0) = impl_isWeight.t (fun b => some (impl_isWeight.mk b)) v0 := by kernel_rfl
theorem impl_isWeight.eq (v0 : Int) {b : Bool} (h : impl_isWeight.t some v0 = some b) : impl_isWeight v0 = some b := tOf_intro impl_isWeight.un (fun _ => by kernel_rfl) (vlim_fn (callT_le E tab) rfl rfl rfl ((impl_isWeight.k v0).trans ((by unfold impl_isWeight.t; repeat' first | exact Sub.ret | exact Sub.none | exact Sub.loop | apply Sub.cond | (apply Sub.bind; intro _) : Sub impl_isWeight.mk _ _) b h)))
noncomputable def impl_compareRows.t {γ : Type} (ret : (Int) → Option γ) (v0 : List Int) (v1 : List Int) : Option γ :=
 (xs0f (v0) (v1)).bind fun (r0 : Int) =>
 ret (r0)
theorem impl_compareRows.k (v0 : List Int) (v1 : List Int) : topL E (callT E tab) 143 Try.f143 (impl_compareRows.c v0 v1) = impl_compareRows.t (fun b => some (impl_compareRows.mk b)) v0 v1 := by kernel_rfl
theorem impl_compareRows.eq (v0 : List Int) (v1 : List Int) {b : Int} (h : impl_compareRows.t some v0 v1 = some b) : impl_compareRows v0 v1 = some b := tOf_intro impl_compareRows.un (fun _ => by kernel_rfl) (vlim_fn (callT_le E tab) rfl rfl rfl ((impl_compareRows.k v0 v1).trans ((by unfold impl_compareRows.t; repeat' first | exact Sub.ret | exact Sub.none | exact Sub.loop | apply Sub.cond | (apply Sub.bind; intro _) : Sub impl_compareRows.mk _ _) b h)))
noncomputable def xs0f.q2 (v0 : List Int) (v1 : List Int) (v2 : List Int) (v3 : Int) (v4 : Int) : Option R := loopAtL E (callT E tab) 198 Try.f198 2 [.r, .l, .r, .b] (vc (.d .fro (.sl (.int .i64)) v0) :: vc (.d .fro (.sl (.int .i64)) v1) :: nn 7 (vc (.d .fro (.sl (.int .i64)) v2) :: vc (iL v3) :: vc (iL v4) :: nn 24 ([])))
noncomputable def xs0f.l2 (v0 : List Int) (v1 : List Int) (v2 : List Int) (v3 : Int) (v4 : Int) : Option (Int) := tOf xs0f.mk (xs0f.q2 v0 v1 v2 v3 v4)
noncomputable def xs0f.t {γ : Type} (ret : (Int) → Option γ) (lp2 : (List Int) → (List Int) → (List Int) → Int → Int → Option γ) (v0 : List Int) (v1 : List Int) : Option γ :=
 lp2 (v0) (v1) (v0) ((↑v0.length : Int)) ((0 : Int))
noncomputable def xs0f.t2 {γ : Type} (ret : (Int) → Option γ) (lp2 : (List Int) → (List Int) → (List Int) → Int → Int → Option γ) (v0 : List Int) (v1 : List Int) (v2 : List Int) (v3 : Int) (v4 : Int) : Option γ :=
 bif decide (v4 < v3) then
  bif decide ((0 : Int) ≤ v4) then
   bif decide (v4.toNat < v2.length) then
    bif decide (v4 ≥ (↑v1.length : Int)) then
     ret ((1 : Int))
    else
     bif decide ((0 : Int) ≤ v4) then
      bif decide (v4.toNat < v1.length) then
       (cmp_Compare_int (v2.getD v4.toNat (0 : Int)) (v1.getD v4.toNat (0 : Int))).bind fun (r0 : Int) =>
       bif r0 != (0 : Int) then
        ret (r0)
       else
        lp2 (v0) (v1) (v2) (v3) (IntKind.i64.wrap (v4 + (1 : Int)))
      else
       none
     else
      none
   else
    none
  else
   none
 else
  bif decide ((↑v0.length : Int) < (↑v1.length : Int)) then
   ret ((-1 : Int))
  else
   ret ((0 : Int))
theorem xs0f.k (v0 : List Int) (v1 : List Int) : topL E (callT E tab) 198 Try.f198 (xs0f.c v0 v1) = xs0f.t (fun b => some (xs0f.mk b)) xs0f.q2 v0 v1 := by kernel_rfl
theorem xs0f.k2 (v0 : List Int) (v1 : List Int) (v2 : List Int) (v3 : Int) (v4 : Int) : roundL E (callT E tab) 198 Try.f198 2 [.r, .l, .r, .b] (vc (.d .fro (.sl (.int .i64)) v0) :: vc (.d .fro (.sl (.int .i64)) v1) :: nn 7 (vc (.d .fro (.sl (.int .i64)) v2) :: vc (iL v3) :: vc (iL v4) :: nn 24 ([]))) = xs0f.t2 (fun b => some (xs0f.mk b)) xs0f.q2 v0 v1 v2 v3 v4 := by kernel_rfl
theorem xs0f.eq (v0 : List Int) (v1 : List Int) {b : Int} (h : xs0f.t some xs0f.l2 v0 v1 = some b) : xs0f v0 v1 = some b := tOf_intro xs0f.un (fun _ => by kernel_rfl) (vlim_fn (callT_le E tab) rfl rfl rfl ((xs0f.k v0 v1).trans ((by unfold xs0f.t; repeat' first | exact Sub.ret | exact Sub.none | exact Sub.loop | apply Sub.cond | (apply Sub.bind; intro _) : Sub xs0f.mk _ _) b h)))
theorem xs0f.eq2 (v0 : List Int) (v1 : List Int) (v2 : List Int) (v3 : Int) (v4 : Int) {b : Int} (h : xs0f.t2 some xs0f.l2 v0 v1 v2 v3 v4 = some b) : xs0f.l2 v0 v1 v2 v3 v4 = some b := tOf_intro xs0f.un (fun _ => by kernel_rfl) (loopAtL_step ((xs0f.k2 v0 v1 v2 v3 v4).trans ((by unfold xs0f.t2; repeat' first | exact Sub.ret | exact Sub.none | exact Sub.loop | apply Sub.cond | (apply Sub.bind; intro _) : Sub xs0f.mk _ _) b h)))
noncomputable def cmp_Compare_int.t {γ : Type} (ret : (Int) → Option γ) (v0 : Int) (v1 : Int) : Option γ :=
 (cmp_isNaN_int (v0)).bind fun (r0 : Bool) =>
 (cmp_isNaN_int (v1)).bind fun (r1 : Bool) =>
 bif r0 then
  bif r1 then
   ret ((0 : Int))
  else
   ret ((-1 : Int))
 else
  bif r1 then
   ret ((1 : Int))
  else
   bif decide (v0 < v1) then
    ret ((-1 : Int))
   else
    bif decide (v0 > v1) then
     ret ((1 : Int))
    else
     ret ((0 : Int))
theorem cmp_Compare_int.k (v0 : Int) (v1 : Int) : topL E (callT E tab) 224 Try.f224 (cmp_Compare_int.c v0 v1) = cmp_Compare_int.t (fun b => some (cmp_Compare_int.mk b)) v0 v1 := by kernel_rfl
theorem cmp_Compare_int.eq (v0 : Int) (v1 : Int) {b : Int} (h : cmp_Compare_int.t some v0 v1 = some b) : cmp_Compare_int v0 v1 = some b := tOf_intro cmp_Compare_int.un (fun _ => by kernel_rfl) (vlim_fn (callT_le E tab) rfl rfl rfl ((cmp_Compare_int.k v0 v1).trans ((by unfold cmp_Compare_int.t; repeat' first | exact Sub.ret | exact Sub.none | exact Sub.loop | apply Sub.cond | (apply Sub.bind; intro _) : Sub cmp_Compare_int.mk _ _) b h)))
noncomputable def cmp_isNaN_int.t {γ : Type} (ret : (Bool) → Option γ) (v0 : Int) : Option γ :=
 ret (v0 != v0)
theorem cmp_isNaN_int.k (v0 : Int) : topL E (callT E tab) 236 Try.f236 (cmp_isNaN_int.c v0) = cmp_isNaN_int.t (fun b => some (cmp_isNaN_int.mk b)) v0 := by kernel_rfl
theorem cmp_isNaN_int.eq (v0 : Int) {b : Bool} (h : cmp_isNaN_int.t some v0 = some b) : cmp_isNaN_int v0 = some b := tOf_intro cmp_isNaN_int.un (fun _ => by kernel_rfl) (vlim_fn (callT_le E tab) rfl rfl rfl ((cmp_isNaN_int.k v0).trans ((by unfold cmp_isNaN_int.t; repeat' first | exact Sub.ret | exact Sub.none | exact Sub.loop | apply Sub.cond | (apply Sub.bind; intro _) : Sub cmp_isNaN_int.mk _ _) b h)))
noncomputable def impl_arePairs.t {γ : Type} (ret : (Bool) → Option γ) (v0 : List (List Int)) (v1 : Int) (v2 : Int) : Option γ :=
 bif decide ((↑v0.length : Int) ≤ (6 : Int)) then
  (xi0a (v0) (v1) (v2)).bind fun (r0 : Bool) =>
  ret (r0)
 else
  ret (Bool.false)
theorem impl_arePairs.k (v0 : List (List Int)) (v1 : Int) (v2 : Int) : topL E (callT E tab) 73 Try.f73 (impl_arePairs.c v0 v1 v2) = impl_arePairs.t (fun b => some (impl_arePairs.mk b)) v0 v1 v2 := by kernel_rfl
theorem impl_arePairs.eq (v0 : List (List Int)) (v1 : Int) (v2 : Int) {b : Bool} (h : impl_arePairs.t some v0 v1 v2 = some b) : impl_arePairs v0 v1 v2 = some b := tOf_intro impl_arePairs.un (fun _ => by kernel_rfl) (vlim_fn (callT_le E tab) rfl rfl rfl ((impl_arePairs.k v0 v1 v2).trans ((by unfold impl_arePairs.t; repeat' first | exact Sub.ret | exact Sub.none | exact Sub.loop | apply Sub.cond | (apply Sub.bind; intro _) : Sub impl_arePairs.mk _ _) b h)))
end GoV

/- Equations of the program's functions (printed by wip/tools/emit.py). -/
namespace GoV
open Go Go.Proofs
set_option maxRecDepth 100000

noncomputable def xi0a.t {γ : Type} (ret : (Bool) → Option γ) (v0 : List (List Int)) (v1 : Int) (v2 : Int) : Option γ :=
 (xs02 (v0) (v1) (v2)).bind fun (r0 : Bool) =>
 ret (!r0)
theorem xi0a.k (v0 : List (List Int)) (v1 : Int) (v2 : Int) : topL E (callT E tab) 144 Try.f144 (xi0a.c v0 v1 v2) = xi0a.t (fun b => some (xi0a.mk b)) v0 v1 v2 := by kernel_rfl
theorem xi0a.eq (v0 : List (List Int)) (v1 : Int) (v2 : Int) {b : Bool} (h : xi0a.t some v0 v1 v2 = some b) : xi0a v0 v1 v2 = some b := tOf_intro xi0a.un (fun _ => by kernel_rfl) (vlim_fn (callT_le E tab) rfl rfl rfl ((xi0a.k v0 v1 v2).trans ((by unfold xi0a.t; repeat' first | exact Sub.ret | exact Sub.none | exact Sub.loop | apply Sub.cond | (apply Sub.bind; intro _) : Sub xi0a.mk _ _) b h)))
noncomputable def xs02.t {γ : Type} (ret : (Bool) → Option γ) (v0 : List (List Int)) (v1 : Int) (v2 : Int) : Option γ :=
 (xs03 (v0) (v1) (v2)).bind fun (r0 : Int) =>
 ret (decide (r0 ≥ (0 : Int)))
theorem xs02.k (v0 : List (List Int)) (v1 : Int) (v2 : Int) : topL E (callT E tab) 199 Try.f199 (xs02.c v0 v1 v2) = xs02.t (fun b => some (xs02.mk b)) v0 v1 v2 := by kernel_rfl
theorem xs02.eq (v0 : List (List Int)) (v1 : Int) (v2 : Int) {b : Bool} (h : xs02.t some v0 v1 v2 = some b) : xs02 v0 v1 v2 = some b := tOf_intro xs02.un (fun _ => by kernel_rfl) (vlim_fn (callT_le E tab) rfl rfl rfl ((xs02.k v0 v1 v2).trans ((by unfold xs02.t; repeat' first | exact Sub.ret | exact Sub.none | exact Sub.loop | apply Sub.cond | (apply Sub.bind; intro _) : Sub xs02.mk _ _) b h)))
noncomputable def xs03.q2 (v0 : List (List Int)) (v1 : Int) (v2 : Int) (v3 : Int) (v4 : Int) : Option R := loopAtL E (callT E tab) 225 Try.f225 2 [.r, .l, .r, .b] (vc (.d .fro (.sl (.sl (.int .i64))) v0) :: vc (.fn 200 [.rp [.fn 145 [.rp [iL v1] 0, .rp [iL v2] 0]] 0]) :: nn 5 (vc (iL v3) :: vc (iL v4) :: nn 10 ([])))
noncomputable def xs03.l2 (v0 : List (List Int)) (v1 : Int) (v2 : Int) (v3 : Int) (v4 : Int) : Option (Int) := tOf xs03.mk (xs03.q2 v0 v1 v2 v3 v4)
noncomputable def xs03.t {γ : Type} (ret : (Int) → Option γ) (lp2 : (List (List Int)) → Int → Int → Int → Int → Option γ) (v0 : List (List Int)) (v1 : Int) (v2 : Int) : Option γ :=
 lp2 (v0) (v1) (v2) ((↑v0.length : Int)) ((0 : Int))
noncomputable def xs03.t2 {γ : Type} (ret : (Int) → Option γ) (lp2 : (List (List Int)) → Int → Int → Int → Int → Option γ) (v0 : List (List Int)) (v1 : Int) (v2 : Int) (v3 : Int) (v4 : Int) : Option γ :=
 bif decide (v4 < v3) then
  bif decide ((0 : Int) ≤ v4) then
   bif decide (v4.toNat < v0.length) then
    (xi09 (v0.getD v4.toNat []) (v1) (v2)).bind fun (r0 : Bool) =>
    bif r0 then
     ret (v4)
    else
     lp2 (v0) (v1) (v2) (v3) (IntKind.i64.wrap (v4 + (1 : Int)))
   else
    none
  else
   none
 else
  ret ((-1 : Int))
theorem xs03.k (v0 : List (List Int)) (v1 : Int) (v2 : Int) : topL E (callT E tab) 225 Try.f225 (xs03.c v0 v1 v2) = xs03.t (fun b => some (xs03.mk b)) xs03.q2 v0 v1 v2 := by kernel_rfl
theorem xs03.k2 (v0 : List (List Int)) (v1 : Int) (v2 : Int) (v3 : Int) (v4 : Int) : roundL E (callT E tab) 225 Try.f225 2 [.r, .l, .r, .b] (vc (.d .fro (.sl (.sl (.int .i64))) v0) :: vc (.fn 200 [.rp [.fn 145 [.rp [iL v1] 0, .rp [iL v2] 0]] 0]) :: nn 5 (vc (iL v3) :: vc (iL v4) :: nn 10 ([]))) = xs03.t2 (fun b => some (xs03.mk b)) xs03.q2 v0 v1 v2 v3 v4 := by kernel_rfl
theorem xs03.eq (v0 : List (List Int)) (v1 : Int) (v2 : Int) {b : Int} (h : xs03.t some xs03.l2 v0 v1 v2 = some b) : xs03 v0 v1 v2 = some b := tOf_intro xs03.un (fun _ => by kernel_rfl) (vlim_fn (callT_le E tab) rfl rfl rfl ((xs03.k v0 v1 v2).trans ((by unfold xs03.t; repeat' first | exact Sub.ret | exact Sub.none | exact Sub.loop | apply Sub.cond | (apply Sub.bind; intro _) : Sub xs03.mk _ _) b h)))
theorem xs03.eq2 (v0 : List (List Int)) (v1 : Int) (v2 : Int) (v3 : Int) (v4 : Int) {b : Int} (h : xs03.t2 some xs03.l2 v0 v1 v2 v3 v4 = some b) : xs03.l2 v0 v1 v2 v3 v4 = some b := tOf_intro xs03.un (fun _ => by kernel_rfl) (loopAtL_step ((xs03.k2 v0 v1 v2 v3 v4).trans ((by unfold xs03.t2; repeat' first | exact Sub.ret | exact Sub.none | exact Sub.loop | apply Sub.cond | (apply Sub.bind; intro _) : Sub xs03.mk _ _) b h)))
noncomputable def xi09.t {γ : Type} (ret : (Bool) → Option γ) (v0 : List Int) (v1 : Int) (v2 : Int) : Option γ :=
 (impl_arePairs_1 (v0) (v1) (v2)).bind fun (r0 : Bool) =>
 ret (!r0)
theorem xi09.k (v0 : List Int) (v1 : Int) (v2 : Int) : topL E (callT E tab) 200 Try.f200 (xi09.c v0 v1 v2) = xi09.t (fun b => some (xi09.mk b)) v0 v1 v2 := by kernel_rfl
theorem xi09.eq (v0 : List Int) (v1 : Int) (v2 : Int) {b : Bool} (h : xi09.t some v0 v1 v2 = some b) : xi09 v0 v1 v2 = some b := tOf_intro xi09.un (fun _ => by kernel_rfl) (vlim_fn (callT_le E tab) rfl rfl rfl ((xi09.k v0 v1 v2).trans ((by unfold xi09.t; repeat' first | exact Sub.ret | exact Sub.none | exact Sub.loop | apply Sub.cond | (apply Sub.bind; intro _) : Sub xi09.mk _ _) b h)))
noncomputable def impl_arePairs_1.t {γ : Type} (ret : (Bool) → Option γ) (v0 : List Int) (v1 : Int) (v2 : Int) : Option γ :=
 bif (↑v0.length : Int) == (2 : Int) then
  bif decide (Int.toNat (0 : Int) < v0.length) then
   (impl_isPlace (v0.getD (Int.toNat (0 : Int)) (0 : Int)) (v1)).bind fun (r0 : Bool) =>
   bif r0 then
    bif decide (Int.toNat (1 : Int) < v0.length) then
     (impl_isPlace (v0.getD (Int.toNat (1 : Int)) (0 : Int)) (v2)).bind fun (r1 : Bool) =>
     ret (r1)
    else
     none
   else
    ret (Bool.false)
  else
   none
 else
  ret (Bool.false)
theorem impl_arePairs_1.k (v0 : List Int) (v1 : Int) (v2 : Int) : topL E (callT E tab) 145 Try.f145 (impl_arePairs_1.c v0 v1 v2) = impl_arePairs_1.t (fun b => some (impl_arePairs_1.mk b)) v0 v1 v2 := by kernel_rfl
theorem impl_arePairs_1.eq (v0 : List Int) (v1 : Int) (v2 : Int) {b : Bool} (h : impl_arePairs_1.t some v0 v1 v2 = some b) : impl_arePairs_1 v0 v1 v2 = some b := tOf_intro impl_arePairs_1.un (fun _ => by kernel_rfl) (vlim_fn (callT_le E tab) rfl rfl rfl ((impl_arePairs_1.k v0 v1 v2).trans ((by unfold impl_arePairs_1.t; repeat' first | exact Sub.ret | exact Sub.none | exact Sub.loop | apply Sub.cond | (apply Sub.bind; intro _) : Sub impl_arePairs_1.mk _ _) b h)))
noncomputable def impl_isPlace.t {γ : Type} (ret : (Bool) → Option γ) (v0 : Int) (v1 : Int) : Option γ :=
 bif decide (v0 ≥ (0 : Int)) then
  ret (decide (v0 < v1))
 else
  ret (Bool.false)
theorem impl_isPlace.k (v0 : Int) (v1 : Int) : topL E (callT E tab) 146 Try.f146 (impl_isPlace.c v0 v1) = impl_isPlace.t (fun b => some (impl_isPlace.mk b)) v0 v1 := by kernel_rfl
theorem impl_isPlace.eq (v0 : Int) (v1 : Int) {b : Bool} (h : impl_isPlace.t some v0 v1 = some b) : impl_isPlace v0 v1 = some b := tOf_intro impl_isPlace.un (fun _ => by kernel_rfl) (vlim_fn (callT_le E tab) rfl rfl rfl ((impl_isPlace.k v0 v1).trans ((by unfold impl_isPlace.t; repeat' first | exact Sub.ret | exact Sub.none | exact Sub.loop | apply Sub.cond | (apply Sub.bind; intro _) : Sub impl_isPlace.mk _ _) b h)))
noncomputable def xi0j.t {γ : Type} (ret : (Int × (List (List Int × Int))) → Option γ) (v0 : Int) (v1 : List (List Int × Int)) (v2 : Int) (v3 : List (List Int × Int)) (v4 : List (List Int)) : Option γ :=
 (xi08 (v0) (v1) (v2) (v3) (v4)).bind fun (r0 : Int × (List (List Int × Int))) =>
 ret (r0.fst, r0.snd)
theorem xi0j.k (v0 : Int) (v1 : List (List Int × Int)) (v2 : Int) (v3 : List (List Int × Int)) (v4 : List (List Int)) : topL E (callT E tab) 74 Try.f74 (xi0j.c v0 v1 v2 v3 v4) = xi0j.t (fun b => some (xi0j.mk b)) v0 v1 v2 v3 v4 := by kernel_rfl
theorem xi0j.eq (v0 : Int) (v1 : List (List Int × Int)) (v2 : Int) (v3 : List (List Int × Int)) (v4 : List (List Int)) {b : Int × (List (List Int × Int))} (h : xi0j.t some v0 v1 v2 v3 v4 = some b) : xi0j v0 v1 v2 v3 v4 = some b := tOf_intro xi0j.un (fun _ => by kernel_rfl) (vlim_fn (callT_le E tab) rfl rfl rfl ((xi0j.k v0 v1 v2 v3 v4).trans ((by unfold xi0j.t; repeat' first | exact Sub.ret | exact Sub.none | exact Sub.loop | apply Sub.cond | (apply Sub.bind; intro _) : Sub xi0j.mk _ _) b h)))
noncomputable def xi08.q3 (v0 : Int) (v1 : List (List Int × Int)) (v2 : List (List Int)) (v3 : Int) (v4 : List (List Int × Int)) (v5 : Int) (v6 : List (List Int × Int)) (v7 : List (List Int × Int)) (v8 : Int) (v9 : Int) : Option R := loopAtL E (callT E tab) 122 Try.f122 2 [.r, .r, .l, .r, .b] (nn 1 (vc (.fn 147 [.rp [iL v0, .d .fro (.sl (.pair (.sl (.int .i64)) (.int .i64))) v1] 0, .rp [.d .fro (.sl (.sl (.int .i64))) v2] 0]) :: nn 2 (⟨(.box false), [iL v3, .d .deep (.sl (.pair (.sl (.int .i64)) (.int .i64))) v4], false, false, false, 0, 0⟩ :: ⟨(.box false), [iL v5, .d .deep (.sl (.pair (.sl (.int .i64)) (.int .i64))) v6], false, false, false, 0, 0⟩ :: nn 7 (vc (.d .fro (.sl (.pair (.sl (.int .i64)) (.int .i64))) v7) :: vc (iL v8) :: vc (iL v9) :: nn 20 ([])))))
noncomputable def xi08.l3 (v0 : Int) (v1 : List (List Int × Int)) (v2 : List (List Int)) (v3 : Int) (v4 : List (List Int × Int)) (v5 : Int) (v6 : List (List Int × Int)) (v7 : List (List Int × Int)) (v8 : Int) (v9 : Int) : Option (Int × (List (List Int × Int))) := tOf xi08.mk (xi08.q3 v0 v1 v2 v3 v4 v5 v6 v7 v8 v9)
noncomputable def xi08.t {γ : Type} (ret : (Int × (List (List Int × Int))) → Option γ) (lp3 : Int → (List (List Int × Int)) → (List (List Int)) → Int → (List (List Int × Int)) → Int → (List (List Int × Int)) → (List (List Int × Int)) → Int → Int → Option γ) (v0 : Int) (v1 : List (List Int × Int)) (v2 : Int) (v3 : List (List Int × Int)) (v4 : List (List Int)) : Option γ :=
 lp3 (v2) (v3) (v4) ((0 : Int)) ([]) (v0) ([]) (v1) ((↑v1.length : Int)) ((0 : Int))
noncomputable def xi08.t3 {γ : Type} (ret : (Int × (List (List Int × Int))) → Option γ) (lp3 : Int → (List (List Int × Int)) → (List (List Int)) → Int → (List (List Int × Int)) → Int → (List (List Int × Int)) → (List (List Int × Int)) → Int → Int → Option γ) (v0 : Int) (v1 : List (List Int × Int)) (v2 : List (List Int)) (v3 : Int) (v4 : List (List Int × Int)) (v5 : Int) (v6 : List (List Int × Int)) (v7 : List (List Int × Int)) (v8 : Int) (v9 : Int) : Option γ :=
 bif decide (v9 < v8) then
  bif decide ((0 : Int) ≤ v9) then
   bif decide (v9.toNat < v7.length) then
    (xi0g ((v7.getD v9.toNat ([], (0 : Int))).fst) ((v7.getD v9.toNat ([], (0 : Int))).snd) (v0) (v1) (v2)).bind fun (r0 : Int) =>
    bif r0 != (0 : Int) then
     (impl_Row_own ((v7.getD v9.toNat ([], (0 : Int))).fst)).bind fun (r1 : (List Int)) =>
     bif decide (v6.length + [(r1, r0)].length ≤ (4294967296 : Nat)) then
      lp3 (v0) (v1) (v2) (v3) (v4) (v5) (v6 ++ [(r1, r0)]) (v7) (v8) (IntKind.i64.wrap (v9 + (1 : Int)))
     else
      none
    else
     lp3 (v0) (v1) (v2) (v3) (v4) (v5) (v6) (v7) (v8) (IntKind.i64.wrap (v9 + (1 : Int)))
   else
    none
  else
   none
 else
  ret (v5, v6)
theorem xi08.k (v0 : Int) (v1 : List (List Int × Int)) (v2 : Int) (v3 : List (List Int × Int)) (v4 : List (List Int)) : topL E (callT E tab) 122 Try.f122 (xi08.c v0 v1 v2 v3 v4) = xi08.t (fun b => some (xi08.mk b)) xi08.q3 v0 v1 v2 v3 v4 := by kernel_rfl
theorem xi08.k3 (v0 : Int) (v1 : List (List Int × Int)) (v2 : List (List Int)) (v3 : Int) (v4 : List (List Int × Int)) (v5 : Int) (v6 : List (List Int × Int)) (v7 : List (List Int × Int)) (v8 : Int) (v9 : Int) : roundL E (callT E tab) 122 Try.f122 2 [.r, .r, .l, .r, .b] (nn 1 (vc (.fn 147 [.rp [iL v0, .d .fro (.sl (.pair (.sl (.int .i64)) (.int .i64))) v1] 0, .rp [.d .fro (.sl (.sl (.int .i64))) v2] 0]) :: nn 2 (⟨(.box false), [iL v3, .d .deep (.sl (.pair (.sl (.int .i64)) (.int .i64))) v4], false, false, false, 0, 0⟩ :: ⟨(.box false), [iL v5, .d .deep (.sl (.pair (.sl (.int .i64)) (.int .i64))) v6], false, false, false, 0, 0⟩ :: nn 7 (vc (.d .fro (.sl (.pair (.sl (.int .i64)) (.int .i64))) v7) :: vc (iL v8) :: vc (iL v9) :: nn 20 ([]))))) = xi08.t3 (fun b => some (xi08.mk b)) xi08.q3 v0 v1 v2 v3 v4 v5 v6 v7 v8 v9 := by kernel_rfl
theorem xi08.eq (v0 : Int) (v1 : List (List Int × Int)) (v2 : Int) (v3 : List (List Int × Int)) (v4 : List (List Int)) {b : Int × (List (List Int × Int))} (h : xi08.t some xi08.l3 v0 v1 v2 v3 v4 = some b) : xi08 v0 v1 v2 v3 v4 = some b := tOf_intro xi08.un (fun _ => by kernel_rfl) (vlim_fn (callT_le E tab) rfl rfl rfl ((xi08.k v0 v1 v2 v3 v4).trans ((by unfold xi08.t; repeat' first | exact Sub.ret | exact Sub.none | exact Sub.loop | apply Sub.cond | (apply Sub.bind; intro _) : Sub xi08.mk _ _) b h)))
theorem xi08.eq3 (v0 : Int) (v1 : List (List Int × Int)) (v2 : List (List Int)) (v3 : Int) (v4 : List (List Int × Int)) (v5 : Int) (v6 : List (List Int × Int)) (v7 : List (List Int × Int)) (v8 : Int) (v9 : Int) {b : Int × (List (List Int × Int))} (h : xi08.t3 some xi08.l3 v0 v1 v2 v3 v4 v5 v6 v7 v8 v9 = some b) : xi08.l3 v0 v1 v2 v3 v4 v5 v6 v7 v8 v9 = some b := tOf_intro xi08.un (fun _ => by kernel_rfl) (loopAtL_step ((xi08.k3 v0 v1 v2 v3 v4 v5 v6 v7 v8 v9).trans ((by unfold xi08.t3; repeat' first | exact Sub.ret | exact Sub.none | exact Sub.loop | apply Sub.cond | (apply Sub.bind; intro _) : Sub xi08.mk _ _) b h)))
noncomputable def xi0g.q1002 (v0 : List (List Int)) (v1 : List Int) (v2 : Int) (v3 : List (List Int × Int)) (v4 : Int) (v5 : Int) : Option R := loopAtL E (callT E tab) 147 Try.f147 3 [.r, .l, .r, .b] (nn 2 (vc (.rp [.d .fro (.sl (.sl (.int .i64))) v0] 0) :: ⟨(.box true), [.d .fro (.sl (.int .i64)) v1, iL v2], false, false, false, 0, 0⟩ :: nn 4 (vc (.d .fro (.sl (.pair (.sl (.int .i64)) (.int .i64))) v3) :: vc (iL v4) :: vc (iL v5) :: nn 14 ([]))))
noncomputable def xi0g.l1002 (v0 : List (List Int)) (v1 : List Int) (v2 : Int) (v3 : List (List Int × Int)) (v4 : Int) (v5 : Int) : Option (Int) := tOf xi0g.mk (xi0g.q1002 v0 v1 v2 v3 v4 v5)
noncomputable def xi0g.q2 (v0 : List (List Int)) (v1 : List Int) (v2 : Int) (v3 : List (List Int × Int)) (v4 : Int) (v5 : Int) : Option R := loopAtL E (callT E tab) 147 Try.f147 3 [.r, .l, .r, .b] (nn 2 (vc (.rp [.d .fro (.sl (.sl (.int .i64))) v0] 0) :: ⟨(.box false), [.d .fro (.sl (.int .i64)) v1, iL v2], false, false, false, 0, 0⟩ :: nn 4 (vc (.d .fro (.sl (.pair (.sl (.int .i64)) (.int .i64))) v3) :: vc (iL v4) :: vc (iL v5) :: nn 14 ([]))))
noncomputable def xi0g.l2 (v0 : List (List Int)) (v1 : List Int) (v2 : Int) (v3 : List (List Int × Int)) (v4 : Int) (v5 : Int) : Option (Int) := tOf xi0g.mk (xi0g.q2 v0 v1 v2 v3 v4 v5)
noncomputable def xi0g.t {γ : Type} (ret : (Int) → Option γ) (lp1002 : (List (List Int)) → (List Int) → Int → (List (List Int × Int)) → Int → Int → Option γ) (lp2 : (List (List Int)) → (List Int) → Int → (List (List Int × Int)) → Int → Int → Option γ) (v0 : List Int) (v1 : Int) (v2 : Int) (v3 : List (List Int × Int)) (v4 : List (List Int)) : Option γ :=
 lp2 (v4) (v0) (v1) (v3) ((↑v3.length : Int)) ((0 : Int))
noncomputable def xi0g.t1002 {γ : Type} (ret : (Int) → Option γ) (lp1002 : (List (List Int)) → (List Int) → Int → (List (List Int × Int)) → Int → Int → Option γ) (lp2 : (List (List Int)) → (List Int) → Int → (List (List Int × Int)) → Int → Int → Option γ) (v0 : List (List Int)) (v1 : List Int) (v2 : Int) (v3 : List (List Int × Int)) (v4 : Int) (v5 : Int) : Option γ :=
 bif decide (v5 < v4) then
  bif decide ((0 : Int) ≤ v5) then
   bif decide (v5.toNat < v3.length) then
    bif decide ((v3.getD v5.toNat ([], (0 : Int))).snd > (0 : Int)) then
     (xi07 (v0) (v1) (v2) ((v3.getD v5.toNat ([], (0 : Int))).fst) ((v3.getD v5.toNat ([], (0 : Int))).snd)).bind fun (r1 : Bool) =>
     bif r1 then
      ret (v2)
     else
      lp1002 (v0) (v1) (v2) (v3) (v4) (IntKind.i64.wrap (v5 + (1 : Int)))
    else
     lp1002 (v0) (v1) (v2) (v3) (v4) (IntKind.i64.wrap (v5 + (1 : Int)))
   else
    none
  else
   none
 else
  ret ((0 : Int))
noncomputable def xi0g.t2 {γ : Type} (ret : (Int) → Option γ) (lp1002 : (List (List Int)) → (List Int) → Int → (List (List Int × Int)) → Int → Int → Option γ) (lp2 : (List (List Int)) → (List Int) → Int → (List (List Int × Int)) → Int → Int → Option γ) (v0 : List (List Int)) (v1 : List Int) (v2 : Int) (v3 : List (List Int × Int)) (v4 : Int) (v5 : Int) : Option γ :=
 bif decide (v5 < v4) then
  bif decide ((0 : Int) ≤ v5) then
   bif decide (v5.toNat < v3.length) then
    bif decide ((v3.getD v5.toNat ([], (0 : Int))).snd > (0 : Int)) then
     (xi07 (v0) (v1) (v2) ((v3.getD v5.toNat ([], (0 : Int))).fst) ((v3.getD v5.toNat ([], (0 : Int))).snd)).bind fun (r0 : Bool) =>
     bif r0 then
      ret (v2)
     else
      lp1002 (v0) (v1) (v2) (v3) (v4) (IntKind.i64.wrap (v5 + (1 : Int)))
    else
     lp2 (v0) (v1) (v2) (v3) (v4) (IntKind.i64.wrap (v5 + (1 : Int)))
   else
    none
  else
   none
 else
  ret ((0 : Int))
theorem xi0g.k (v0 : List Int) (v1 : Int) (v2 : Int) (v3 : List (List Int × Int)) (v4 : List (List Int)) : topL E (callT E tab) 147 Try.f147 (xi0g.c v0 v1 v2 v3 v4) = xi0g.t (fun b => some (xi0g.mk b)) xi0g.q1002 xi0g.q2 v0 v1 v2 v3 v4 := by kernel_rfl
theorem xi0g.k1002 (v0 : List (List Int)) (v1 : List Int) (v2 : Int) (v3 : List (List Int × Int)) (v4 : Int) (v5 : Int) : roundL E (callT E tab) 147 Try.f147 3 [.r, .l, .r, .b] (nn 2 (vc (.rp [.d .fro (.sl (.sl (.int .i64))) v0] 0) :: ⟨(.box true), [.d .fro (.sl (.int .i64)) v1, iL v2], false, false, false, 0, 0⟩ :: nn 4 (vc (.d .fro (.sl (.pair (.sl (.int .i64)) (.int .i64))) v3) :: vc (iL v4) :: vc (iL v5) :: nn 14 ([])))) = xi0g.t1002 (fun b => some (xi0g.mk b)) xi0g.q1002 xi0g.q2 v0 v1 v2 v3 v4 v5 := by kernel_rfl
theorem xi0g.k2 (v0 : List (List Int)) (v1 : List Int) (v2 : Int) (v3 : List (List Int × Int)) (v4 : Int) (v5 : Int) : roundL E (callT E tab) 147 Try.f147 3 [.r, .l, .r, .b] (nn 2 (vc (.rp [.d .fro (.sl (.sl (.int .i64))) v0] 0) :: ⟨(.box false), [.d .fro (.sl (.int .i64)) v1, iL v2], false, false, false, 0, 0⟩ :: nn 4 (vc (.d .fro (.sl (.pair (.sl (.int .i64)) (.int .i64))) v3) :: vc (iL v4) :: vc (iL v5) :: nn 14 ([])))) = xi0g.t2 (fun b => some (xi0g.mk b)) xi0g.q1002 xi0g.q2 v0 v1 v2 v3 v4 v5 := by kernel_rfl
theorem xi0g.eq (v0 : List Int) (v1 : Int) (v2 : Int) (v3 : List (List Int × Int)) (v4 : List (List Int)) {b : Int} (h : xi0g.t some xi0g.l1002 xi0g.l2 v0 v1 v2 v3 v4 = some b) : xi0g v0 v1 v2 v3 v4 = some b := tOf_intro xi0g.un (fun _ => by kernel_rfl) (vlim_fn (callT_le E tab) rfl rfl rfl ((xi0g.k v0 v1 v2 v3 v4).trans ((by unfold xi0g.t; repeat' first | exact Sub.ret | exact Sub.none | exact Sub.loop | apply Sub.cond | (apply Sub.bind; intro _) : Sub xi0g.mk _ _) b h)))
theorem xi0g.eq1002 (v0 : List (List Int)) (v1 : List Int) (v2 : Int) (v3 : List (List Int × Int)) (v4 : Int) (v5 : Int) {b : Int} (h : xi0g.t1002 some xi0g.l1002 xi0g.l2 v0 v1 v2 v3 v4 v5 = some b) : xi0g.l1002 v0 v1 v2 v3 v4 v5 = some b := tOf_intro xi0g.un (fun _ => by kernel_rfl) (loopAtL_step ((xi0g.k1002 v0 v1 v2 v3 v4 v5).trans ((by unfold xi0g.t1002; repeat' first | exact Sub.ret | exact Sub.none | exact Sub.loop | apply Sub.cond | (apply Sub.bind; intro _) : Sub xi0g.mk _ _) b h)))
theorem xi0g.eq2 (v0 : List (List Int)) (v1 : List Int) (v2 : Int) (v3 : List (List Int × Int)) (v4 : Int) (v5 : Int) {b : Int} (h : xi0g.t2 some xi0g.l1002 xi0g.l2 v0 v1 v2 v3 v4 v5 = some b) : xi0g.l2 v0 v1 v2 v3 v4 v5 = some b := tOf_intro xi0g.un (fun _ => by kernel_rfl) (loopAtL_step ((xi0g.k2 v0 v1 v2 v3 v4 v5).trans ((by unfold xi0g.t2; repeat' first | exact Sub.ret | exact Sub.none | exact Sub.loop | apply Sub.cond | (apply Sub.bind; intro _) : Sub xi0g.mk _ _) b h)))
noncomputable def xi07.t {γ : Type} (ret : (Bool) → Option γ) (v0 : List (List Int)) (v1 : List Int) (v2 : Int) (v3 : List Int) (v4 : Int) : Option γ :=
 (xs00 (v0) (v1) (v2) (v3) (v4)).bind fun (r0 : Bool) =>
 ret (!r0)
theorem xi07.k (v0 : List (List Int)) (v1 : List Int) (v2 : Int) (v3 : List Int) (v4 : Int) : topL E (callT E tab) 144 Try.f144 (xi07.c v0 v1 v2 v3 v4) = xi07.t (fun b => some (xi07.mk b)) v0 v1 v2 v3 v4 := by kernel_rfl
theorem xi07.eq (v0 : List (List Int)) (v1 : List Int) (v2 : Int) (v3 : List Int) (v4 : Int) {b : Bool} (h : xi07.t some v0 v1 v2 v3 v4 = some b) : xi07 v0 v1 v2 v3 v4 = some b := tOf_intro xi07.un (fun _ => by kernel_rfl) (vlim_fn (callT_le E tab) rfl rfl rfl ((xi07.k v0 v1 v2 v3 v4).trans ((by unfold xi07.t; repeat' first | exact Sub.ret | exact Sub.none | exact Sub.loop | apply Sub.cond | (apply Sub.bind; intro _) : Sub xi07.mk _ _) b h)))
noncomputable def xs00.t {γ : Type} (ret : (Bool) → Option γ) (v0 : List (List Int)) (v1 : List Int) (v2 : Int) (v3 : List Int) (v4 : Int) : Option γ :=
 (xs01 (v0) (v1) (v2) (v3) (v4)).bind fun (r0 : Int) =>
 ret (decide (r0 ≥ (0 : Int)))
theorem xs00.k (v0 : List (List Int)) (v1 : List Int) (v2 : Int) (v3 : List Int) (v4 : Int) : topL E (callT E tab) 199 Try.f199 (xs00.c v0 v1 v2 v3 v4) = xs00.t (fun b => some (xs00.mk b)) v0 v1 v2 v3 v4 := by kernel_rfl
theorem xs00.eq (v0 : List (List Int)) (v1 : List Int) (v2 : Int) (v3 : List Int) (v4 : Int) {b : Bool} (h : xs00.t some v0 v1 v2 v3 v4 = some b) : xs00 v0 v1 v2 v3 v4 = some b := tOf_intro xs00.un (fun _ => by kernel_rfl) (vlim_fn (callT_le E tab) rfl rfl rfl ((xs00.k v0 v1 v2 v3 v4).trans ((by unfold xs00.t; repeat' first | exact Sub.ret | exact Sub.none | exact Sub.loop | apply Sub.cond | (apply Sub.bind; intro _) : Sub xs00.mk _ _) b h)))
noncomputable def xs01.q2 (v0 : List (List Int)) (v1 : List Int) (v2 : Int) (v3 : List Int) (v4 : Int) (v5 : Int) (v6 : Int) : Option R := loopAtL E (callT E tab) 225 Try.f225 2 [.r, .l, .r, .b] (vc (.d .fro (.sl (.sl (.int .i64))) v0) :: vc (.fn 200 [.rp [.fn 148 [.rp [.d .fro (.sl (.int .i64)) v1, iL v2] 0, .rp [.d .fro (.sl (.int .i64)) v3, iL v4] 0]] 0]) :: nn 5 (vc (iL v5) :: vc (iL v6) :: nn 10 ([])))
noncomputable def xs01.l2 (v0 : List (List Int)) (v1 : List Int) (v2 : Int) (v3 : List Int) (v4 : Int) (v5 : Int) (v6 : Int) : Option (Int) := tOf xs01.mk (xs01.q2 v0 v1 v2 v3 v4 v5 v6)
noncomputable def xs01.t {γ : Type} (ret : (Int) → Option γ) (lp2 : (List (List Int)) → (List Int) → Int → (List Int) → Int → Int → Int → Option γ) (v0 : List (List Int)) (v1 : List Int) (v2 : Int) (v3 : List Int) (v4 : Int) : Option γ :=
 lp2 (v0) (v1) (v2) (v3) (v4) ((↑v0.length : Int)) ((0 : Int))
noncomputable def xs01.t2 {γ : Type} (ret : (Int) → Option γ) (lp2 : (List (List Int)) → (List Int) → Int → (List Int) → Int → Int → Int → Option γ) (v0 : List (List Int)) (v1 : List Int) (v2 : Int) (v3 : List Int) (v4 : Int) (v5 : Int) (v6 : Int) : Option γ :=
 bif decide (v6 < v5) then
  bif decide ((0 : Int) ≤ v6) then
   bif decide (v6.toNat < v0.length) then
    (xi06 (v0.getD v6.toNat []) (v1) (v2) (v3) (v4)).bind fun (r0 : Bool) =>
    bif r0 then
     ret (v6)
    else
     lp2 (v0) (v1) (v2) (v3) (v4) (v5) (IntKind.i64.wrap (v6 + (1 : Int)))
   else
    none
  else
   none
 else
  ret ((-1 : Int))
theorem xs01.k (v0 : List (List Int)) (v1 : List Int) (v2 : Int) (v3 : List Int) (v4 : Int) : topL E (callT E tab) 225 Try.f225 (xs01.c v0 v1 v2 v3 v4) = xs01.t (fun b => some (xs01.mk b)) xs01.q2 v0 v1 v2 v3 v4 := by kernel_rfl
theorem xs01.k2 (v0 : List (List Int)) (v1 : List Int) (v2 : Int) (v3 : List Int) (v4 : Int) (v5 : Int) (v6 : Int) : roundL E (callT E tab) 225 Try.f225 2 [.r, .l, .r, .b] (vc (.d .fro (.sl (.sl (.int .i64))) v0) :: vc (.fn 200 [.rp [.fn 148 [.rp [.d .fro (.sl (.int .i64)) v1, iL v2] 0, .rp [.d .fro (.sl (.int .i64)) v3, iL v4] 0]] 0]) :: nn 5 (vc (iL v5) :: vc (iL v6) :: nn 10 ([]))) = xs01.t2 (fun b => some (xs01.mk b)) xs01.q2 v0 v1 v2 v3 v4 v5 v6 := by kernel_rfl
theorem xs01.eq (v0 : List (List Int)) (v1 : List Int) (v2 : Int) (v3 : List Int) (v4 : Int) {b : Int} (h : xs01.t some xs01.l2 v0 v1 v2 v3 v4 = some b) : xs01 v0 v1 v2 v3 v4 = some b := tOf_intro xs01.un (fun _ => by kernel_rfl) (vlim_fn (callT_le E tab) rfl rfl rfl ((xs01.k v0 v1 v2 v3 v4).trans ((by unfold xs01.t; repeat' first | exact Sub.ret | exact Sub.none | exact Sub.loop | apply Sub.cond | (apply Sub.bind; intro _) : Sub xs01.mk _ _) b h)))
theorem xs01.eq2 (v0 : List (List Int)) (v1 : List Int) (v2 : Int) (v3 : List Int) (v4 : Int) (v5 : Int) (v6 : Int) {b : Int} (h : xs01.t2 some xs01.l2 v0 v1 v2 v3 v4 v5 v6 = some b) : xs01.l2 v0 v1 v2 v3 v4 v5 v6 = some b := tOf_intro xs01.un (fun _ => by kernel_rfl) (loopAtL_step ((xs01.k2 v0 v1 v2 v3 v4 v5 v6).trans ((by unfold xs01.t2; repeat' first | exact Sub.ret | exact Sub.none | exact Sub.loop | apply Sub.cond | (apply Sub.bind; intro _) : Sub xs01.mk _ _) b h)))
noncomputable def xi06.t {γ : Type} (ret : (Bool) → Option γ) (v0 : List Int) (v1 : List Int) (v2 : Int) (v3 : List Int) (v4 : Int) : Option γ :=
 (xi0d (v0) (v1) (v2) (v3) (v4)).bind fun (r0 : Bool) =>
 ret (!r0)
theorem xi06.k (v0 : List Int) (v1 : List Int) (v2 : Int) (v3 : List Int) (v4 : Int) : topL E (callT E tab) 200 Try.f200 (xi06.c v0 v1 v2 v3 v4) = xi06.t (fun b => some (xi06.mk b)) v0 v1 v2 v3 v4 := by kernel_rfl
theorem xi06.eq (v0 : List Int) (v1 : List Int) (v2 : Int) (v3 : List Int) (v4 : Int) {b : Bool} (h : xi06.t some v0 v1 v2 v3 v4 = some b) : xi06 v0 v1 v2 v3 v4 = some b := tOf_intro xi06.un (fun _ => by kernel_rfl) (vlim_fn (callT_le E tab) rfl rfl rfl ((xi06.k v0 v1 v2 v3 v4).trans ((by unfold xi06.t; repeat' first | exact Sub.ret | exact Sub.none | exact Sub.loop | apply Sub.cond | (apply Sub.bind; intro _) : Sub xi06.mk _ _) b h)))
noncomputable def xi0d.t {γ : Type} (ret : (Bool) → Option γ) (v0 : List Int) (v1 : List Int) (v2 : Int) (v3 : List Int) (v4 : Int) : Option γ :=
 bif decide (Int.toNat (0 : Int) < v0.length) then
  bif decide ((0 : Int) ≤ v0.getD (Int.toNat (0 : Int)) (0 : Int)) then
   bif decide ((v0.getD (Int.toNat (0 : Int)) (0 : Int)).toNat < v1.length) then
    bif decide (Int.toNat (1 : Int) < v0.length) then
     bif decide ((0 : Int) ≤ v0.getD (Int.toNat (1 : Int)) (0 : Int)) then
      bif decide ((v0.getD (Int.toNat (1 : Int)) (0 : Int)).toNat < v3.length) then
       ret (v1.getD (v0.getD (Int.toNat (0 : Int)) (0 : Int)).toNat (0 : Int) ==   v3.getD (v0.getD (Int.toNat (1 : Int)) (0 : Int)).toNat (0 : Int))
      else
       none
     else
      none
    else
     none
   else
    none
  else
   none
 else
  none
theorem xi0d.k (v0 : List Int) (v1 : List Int) (v2 : Int) (v3 : List Int) (v4 : Int) : topL E (callT E tab) 148 Try.f148 (xi0d.c v0 v1 v2 v3 v4) = xi0d.t (fun b => some (xi0d.mk b)) v0 v1 v2 v3 v4 := by kernel_rfl
theorem xi0d.eq (v0 : List Int) (v1 : List Int) (v2 : Int) (v3 : List Int) (v4 : Int) {b : Bool} (h : xi0d.t some v0 v1 v2 v3 v4 = some b) : xi0d v0 v1 v2 v3 v4 = some b := tOf_intro xi0d.un (fun _ => by kernel_rfl) (vlim_fn (callT_le E tab) rfl rfl rfl ((xi0d.k v0 v1 v2 v3 v4).trans ((by unfold xi0d.t; repeat' first | exact Sub.ret | exact Sub.none | exact Sub.loop | apply Sub.cond | (apply Sub.bind; intro _) : Sub xi0d.mk _ _) b h)))
noncomputable def impl_Row_own.t {γ : Type} (ret : ((List Int)) → Option γ) (v0 : List Int) : Option γ :=
 (xs0i (v0)).bind fun (r0 : (List Int)) =>
 ret (r0)
theorem impl_Row_own.k (v0 : List Int) : topL E (callT E tab) 152 Try.f152 (impl_Row_own.c v0) = impl_Row_own.t (fun b => some (impl_Row_own.mk b)) v0 := by kernel_rfl
theorem impl_Row_own.eq (v0 : List Int) {b : (List Int)} (h : impl_Row_own.t some v0 = some b) : impl_Row_own v0 = some b := tOf_intro impl_Row_own.un (fun _ => by kernel_rfl) (vlim_fn (callT_le E tab) rfl rfl rfl ((impl_Row_own.k v0).trans ((by unfold impl_Row_own.t; repeat' first | exact Sub.ret | exact Sub.none | exact Sub.loop | apply Sub.cond | (apply Sub.bind; intro _) : Sub impl_Row_own.mk _ _) b h)))
noncomputable def xs0i.t {γ : Type} (ret : ((List Int)) → Option γ) (v0 : List Int) : Option γ :=
 bif decide (v0.length ≤ (4294967296 : Nat)) then
  ret (v0)
 else
  none
theorem xs0i.k (v0 : List Int) : extOf 178 (xs0i.c v0) = xs0i.t (fun b => some (xs0i.mk b)) v0 := by kernel_rfl
theorem xs0i.eq (v0 : List Int) {b : (List Int)} (h : xs0i.t some v0 = some b) : xs0i v0 = some b := tOf_intro xs0i.un (fun _ => by kernel_rfl) (vlim_ext (g := extOf 178) rfl ((xs0i.k v0).trans ((by unfold xs0i.t; repeat' first | exact Sub.ret | exact Sub.none | exact Sub.loop | apply Sub.cond | (apply Sub.bind; intro _) : Sub xs0i.mk _ _) b h)))
noncomputable def laws_eqTable.t {γ : Type} (ret : (Bool) → Option γ) (v0 : Int) (v1 : List (List Int × Int)) (v2 : Int) (v3 : List (List Int × Int)) : Option γ :=
 bif v0 != v2 then
  ret (Bool.false)
 else
  (laws_eqWeightedS (v1) (v3)).bind fun (r0 : Bool) =>
  bif !r0 then
   ret (Bool.false)
  else
   ret (Bool.true)
theorem laws_eqTable.k (v0 : Int) (v1 : List (List Int × Int)) (v2 : Int) (v3 : List (List Int × Int)) : topL E (callT E tab) 19 Try.f19 (laws_eqTable.c v0 v1 v2 v3) = laws_eqTable.t (fun b => some (laws_eqTable.mk b)) v0 v1 v2 v3 := by kernel_rfl
theorem laws_eqTable.eq (v0 : Int) (v1 : List (List Int × Int)) (v2 : Int) (v3 : List (List Int × Int)) {b : Bool} (h : laws_eqTable.t some v0 v1 v2 v3 = some b) : laws_eqTable v0 v1 v2 v3 = some b := tOf_intro laws_eqTable.un (fun _ => by kernel_rfl) (vlim_fn (callT_le E tab) rfl rfl rfl ((laws_eqTable.k v0 v1 v2 v3).trans ((by unfold laws_eqTable.t; repeat' first | exact Sub.ret | exact Sub.none | exact Sub.loop | apply Sub.cond | (apply Sub.bind; intro _) : Sub laws_eqTable.mk _ _) b h)))
noncomputable def laws_eqWeightedS.q4 (v0 : List (List Int × Int)) (v1 : List (List Int × Int)) (v2 : Int) : Option R := loopAtL E (callT E tab) 75 Try.f75 2 [.r, .r, .l, .r, .b] (vc (.d .fro (.sl (.pair (.sl (.int .i64)) (.int .i64))) v0) :: vc (.d .fro (.sl (.pair (.sl (.int .i64)) (.int .i64))) v1) :: nn 3 (vc (iL v2) :: nn 21 ([])))
noncomputable def laws_eqWeightedS.l4 (v0 : List (List Int × Int)) (v1 : List (List Int × Int)) (v2 : Int) : Option (Bool) := tOf laws_eqWeightedS.mk (laws_eqWeightedS.q4 v0 v1 v2)
noncomputable def laws_eqWeightedS.t {γ : Type} (ret : (Bool) → Option γ) (lp4 : (List (List Int × Int)) → (List (List Int × Int)) → Int → Option γ) (v0 : List (List Int × Int)) (v1 : List (List Int × Int)) : Option γ :=
 bif (↑v0.length : Int) != (↑v1.length : Int) then
  ret (Bool.false)
 else
  lp4 (v0) (v1) ((0 : Int))
noncomputable def laws_eqWeightedS.t4 {γ : Type} (ret : (Bool) → Option γ) (lp4 : (List (List Int × Int)) → (List (List Int × Int)) → Int → Option γ) (v0 : List (List Int × Int)) (v1 : List (List Int × Int)) (v2 : Int) : Option γ :=
 bif decide (v2 < (↑v0.length : Int)) then
  bif decide ((0 : Int) ≤ v2) then
   bif decide (v2.toNat < v0.length) then
    bif decide ((0 : Int) ≤ v2) then
     bif decide (v2.toNat < v1.length) then
      (laws_eqWeighted ((v0.getD v2.toNat ([], (0 : Int))).fst) ((v0.getD v2.toNat ([], (0 : Int))).snd) ((v1.getD v2.toNat ([], (0 : Int))).fst) ((v1.getD v2.toNat ([], (0 : Int))).snd)).bind fun (r0 : Bool) =>
      bif !r0 then
       ret (Bool.false)
      else
       lp4 (v0) (v1) (IntKind.i64.wrap (v2 + (1 : Int)))
     else
      none
    else
     none
   else
    none
  else
   none
 else
  ret (Bool.true)
theorem laws_eqWeightedS.k (v0 : List (List Int × Int)) (v1 : List (List Int × Int)) : topL E (callT E tab) 75 Try.f75 (laws_eqWeightedS.c v0 v1) = laws_eqWeightedS.t (fun b => some (laws_eqWeightedS.mk b)) laws_eqWeightedS.q4 v0 v1 := by kernel_rfl
theorem laws_eqWeightedS.k4 (v0 : List (List Int × Int)) (v1 : List (List Int × Int)) (v2 : Int) : roundL E (callT E tab) 75 Try.f75 2 [.r, .r, .l, .r, .b] (vc (.d .fro (.sl (.pair (.sl (.int .i64)) (.int .i64))) v0) :: vc (.d .fro (.sl (.pair (.sl (.int .i64)) (.int .i64))) v1) :: nn 3 (vc (iL v2) :: nn 21 ([]))) = laws_eqWeightedS.t4 (fun b => some (laws_eqWeightedS.mk b)) laws_eqWeightedS.q4 v0 v1 v2 := by kernel_rfl
theorem laws_eqWeightedS.eq (v0 : List (List Int × Int)) (v1 : List (List Int × Int)) {b : Bool} (h : laws_eqWeightedS.t some laws_eqWeightedS.l4 v0 v1 = some b) : laws_eqWeightedS v0 v1 = some b := tOf_intro laws_eqWeightedS.un (fun _ => by kernel_rfl) (vlim_fn (callT_le E tab) rfl rfl rfl ((laws_eqWeightedS.k v0 v1).trans ((by unfold laws_eqWeightedS.t; repeat' first | exact Sub.ret | exact Sub.none | exact Sub.loop | apply Sub.cond | (apply Sub.bind; intro _) : Sub laws_eqWeightedS.mk _ _) b h)))
theorem laws_eqWeightedS.eq4 (v0 : List (List Int × Int)) (v1 : List (List Int × Int)) (v2 : Int) {b : Bool} (h : laws_eqWeightedS.t4 some laws_eqWeightedS.l4 v0 v1 v2 = some b) : laws_eqWeightedS.l4 v0 v1 v2 = some b := tOf_intro laws_eqWeightedS.un (fun _ => by kernel_rfl) (loopAtL_step ((laws_eqWeightedS.k4 v0 v1 v2).trans ((by unfold laws_eqWeightedS.t4; repeat' first | exact Sub.ret | exact Sub.none | exact Sub.loop | apply Sub.cond | (apply Sub.bind; intro _) : Sub laws_eqWeightedS.mk _ _) b h)))
noncomputable def laws_eqWeighted.t {γ : Type} (ret : (Bool) → Option γ) (v0 : List Int) (v1 : Int) (v2 : List Int) (v3 : Int) : Option γ :=
 (laws_eqRow (v0) (v2)).bind fun (r0 : Bool) =>
 bif !r0 then
  ret (Bool.false)
 else
  bif v1 != v3 then
   ret (Bool.false)
  else
   ret (Bool.true)
theorem laws_eqWeighted.k (v0 : List Int) (v1 : Int) (v2 : List Int) (v3 : Int) : topL E (callT E tab) 149 Try.f149 (laws_eqWeighted.c v0 v1 v2 v3) = laws_eqWeighted.t (fun b => some (laws_eqWeighted.mk b)) v0 v1 v2 v3 := by kernel_rfl
theorem laws_eqWeighted.eq (v0 : List Int) (v1 : Int) (v2 : List Int) (v3 : Int) {b : Bool} (h : laws_eqWeighted.t some v0 v1 v2 v3 = some b) : laws_eqWeighted v0 v1 v2 v3 = some b := tOf_intro laws_eqWeighted.un (fun _ => by kernel_rfl) (vlim_fn (callT_le E tab) rfl rfl rfl ((laws_eqWeighted.k v0 v1 v2 v3).trans ((by unfold laws_eqWeighted.t; repeat' first | exact Sub.ret | exact Sub.none | exact Sub.loop | apply Sub.cond | (apply Sub.bind; intro _) : Sub laws_eqWeighted.mk _ _) b h)))
noncomputable def laws_eqRow.t {γ : Type} (ret : (Bool) → Option γ) (v0 : List Int) (v1 : List Int) : Option γ :=
 (laws_eqIntS (v0) (v1)).bind fun (r0 : Bool) =>
 bif !r0 then
  ret (Bool.false)
 else
  ret (Bool.true)
theorem laws_eqRow.k (v0 : List Int) (v1 : List Int) : topL E (callT E tab) 168 Try.f168 (laws_eqRow.c v0 v1) = laws_eqRow.t (fun b => some (laws_eqRow.mk b)) v0 v1 := by kernel_rfl
theorem laws_eqRow.eq (v0 : List Int) (v1 : List Int) {b : Bool} (h : laws_eqRow.t some v0 v1 = some b) : laws_eqRow v0 v1 = some b := tOf_intro laws_eqRow.un (fun _ => by kernel_rfl) (vlim_fn (callT_le E tab) rfl rfl rfl ((laws_eqRow.k v0 v1).trans ((by unfold laws_eqRow.t; repeat' first | exact Sub.ret | exact Sub.none | exact Sub.loop | apply Sub.cond | (apply Sub.bind; intro _) : Sub laws_eqRow.mk _ _) b h)))
end GoV

/- Equations of the program's functions (printed by wip/tools/emit.py). -/
namespace GoV
open Go Go.Proofs
set_option maxRecDepth 100000

noncomputable def laws_eqIntS.q4 (v0 : List Int) (v1 : List Int) (v2 : Int) : Option R := loopAtL E (callT E tab) 76 Try.f76 2 [.r, .r, .l, .r, .b] (vc (.d .fro (.sl (.int .i64)) v0) :: vc (.d .fro (.sl (.int .i64)) v1) :: nn 3 (vc (iL v2) :: nn 20 ([])))
noncomputable def laws_eqIntS.l4 (v0 : List Int) (v1 : List Int) (v2 : Int) : Option (Bool) := tOf laws_eqIntS.mk (laws_eqIntS.q4 v0 v1 v2)
noncomputable def laws_eqIntS.t {γ : Type} (ret : (Bool) → Option γ) (lp4 : (List Int) → (List Int) → Int → Option γ) (v0 : List Int) (v1 : List Int) : Option γ :=
 bif (↑v0.length : Int) != (↑v1.length : Int) then
  ret (Bool.false)
 else
  lp4 (v0) (v1) ((0 : Int))
noncomputable def laws_eqIntS.t4 {γ : Type} (ret : (Bool) → Option γ) (lp4 : (List Int) → (List Int) → Int → Option γ) (v0 : List Int) (v1 : List Int) (v2 : Int) : Option γ :=
 bif decide (v2 < (↑v0.length : Int)) then
  bif decide ((0 : Int) ≤ v2) then
   bif decide (v2.toNat < v0.length) then
    bif decide ((0 : Int) ≤ v2) then
     bif decide (v2.toNat < v1.length) then
      bif v0.getD v2.toNat (0 : Int) != v1.getD v2.toNat (0 : Int) then
       ret (Bool.false)
      else
       lp4 (v0) (v1) (IntKind.i64.wrap (v2 + (1 : Int)))
     else
      none
    else
     none
   else
    none
  else
   none
 else
  ret (Bool.true)
theorem laws_eqIntS.k (v0 : List Int) (v1 : List Int) : topL E (callT E tab) 76 Try.f76 (laws_eqIntS.c v0 v1) = laws_eqIntS.t (fun b => some (laws_eqIntS.mk b)) laws_eqIntS.q4 v0 v1 := by kernel_rfl
theorem laws_eqIntS.k4 (v0 : List Int) (v1 : List Int) (v2 : Int) : roundL E (callT E tab) 76 Try.f76 2 [.r, .r, .l, .r, .b] (vc (.d .fro (.sl (.int .i64)) v0) :: vc (.d .fro (.sl (.int .i64)) v1) :: nn 3 (vc (iL v2) :: nn 20 ([]))) = laws_eqIntS.t4 (fun b => some (laws_eqIntS.mk b)) laws_eqIntS.q4 v0 v1 v2 := by kernel_rfl
theorem laws_eqIntS.eq (v0 : List Int) (v1 : List Int) {b : Bool} (h : laws_eqIntS.t some laws_eqIntS.l4 v0 v1 = some b) : laws_eqIntS v0 v1 = some b := tOf_intro laws_eqIntS.un (fun _ => by kernel_rfl) (vlim_fn (callT_le E tab) rfl rfl rfl ((laws_eqIntS.k v0 v1).trans ((by unfold laws_eqIntS.t; repeat' first | exact Sub.ret | exact Sub.none | exact Sub.loop | apply Sub.cond | (apply Sub.bind; intro _) : Sub laws_eqIntS.mk _ _) b h)))
theorem laws_eqIntS.eq4 (v0 : List Int) (v1 : List Int) (v2 : Int) {b : Bool} (h : laws_eqIntS.t4 some laws_eqIntS.l4 v0 v1 v2 = some b) : laws_eqIntS.l4 v0 v1 v2 = some b := tOf_intro laws_eqIntS.un (fun _ => by kernel_rfl) (loopAtL_step ((laws_eqIntS.k4 v0 v1 v2).trans ((by unfold laws_eqIntS.t4; repeat' first | exact Sub.ret | exact Sub.none | exact Sub.loop | apply Sub.cond | (apply Sub.bind; intro _) : Sub laws_eqIntS.mk _ _) b h)))
noncomputable def laws_eqIntSS.q4 (v0 : List (List Int)) (v1 : List (List Int)) (v2 : Int) : Option R := loopAtL E (callT E tab) 20 Try.f20 2 [.r, .r, .l, .r, .b] (vc (.d .fro (.sl (.sl (.int .i64))) v0) :: vc (.d .fro (.sl (.sl (.int .i64))) v1) :: nn 3 (vc (iL v2) :: nn 21 ([])))
noncomputable def laws_eqIntSS.l4 (v0 : List (List Int)) (v1 : List (List Int)) (v2 : Int) : Option (Bool) := tOf laws_eqIntSS.mk (laws_eqIntSS.q4 v0 v1 v2)
noncomputable def laws_eqIntSS.t {γ : Type} (ret : (Bool) → Option γ) (lp4 : (List (List Int)) → (List (List Int)) → Int → Option γ) (v0 : List (List Int)) (v1 : List (List Int)) : Option γ :=
 bif (↑v0.length : Int) != (↑v1.length : Int) then
  ret (Bool.false)
 else
  lp4 (v0) (v1) ((0 : Int))
noncomputable def laws_eqIntSS.t4 {γ : Type} (ret : (Bool) → Option γ) (lp4 : (List (List Int)) → (List (List Int)) → Int → Option γ) (v0 : List (List Int)) (v1 : List (List Int)) (v2 : Int) : Option γ :=
 bif decide (v2 < (↑v0.length : Int)) then
  bif decide ((0 : Int) ≤ v2) then
   bif decide (v2.toNat < v0.length) then
    bif decide ((0 : Int) ≤ v2) then
     bif decide (v2.toNat < v1.length) then
      (laws_eqIntS (v0.getD v2.toNat []) (v1.getD v2.toNat [])).bind fun (r0 : Bool) =>
      bif !r0 then
       ret (Bool.false)
      else
       lp4 (v0) (v1) (IntKind.i64.wrap (v2 + (1 : Int)))
     else
      none
    else
     none
   else
    none
  else
   none
 else
  ret (Bool.true)
theorem laws_eqIntSS.k (v0 : List (List Int)) (v1 : List (List Int)) : topL E (callT E tab) 20 Try.f20 (laws_eqIntSS.c v0 v1) = laws_eqIntSS.t (fun b => some (laws_eqIntSS.mk b)) laws_eqIntSS.q4 v0 v1 := by kernel_rfl
theorem laws_eqIntSS.k4 (v0 : List (List Int)) (v1 : List (List Int)) (v2 : Int) : roundL E (callT E tab) 20 Try.f20 2 [.r, .r, .l, .r, .b] (vc (.d .fro (.sl (.sl (.int .i64))) v0) :: vc (.d .fro (.sl (.sl (.int .i64))) v1) :: nn 3 (vc (iL v2) :: nn 21 ([]))) = laws_eqIntSS.t4 (fun b => some (laws_eqIntSS.mk b)) laws_eqIntSS.q4 v0 v1 v2 := by kernel_rfl
theorem laws_eqIntSS.eq (v0 : List (List Int)) (v1 : List (List Int)) {b : Bool} (h : laws_eqIntSS.t some laws_eqIntSS.l4 v0 v1 = some b) : laws_eqIntSS v0 v1 = some b := tOf_intro laws_eqIntSS.un (fun _ => by kernel_rfl) (vlim_fn (callT_le E tab) rfl rfl rfl ((laws_eqIntSS.k v0 v1).trans ((by unfold laws_eqIntSS.t; repeat' first | exact Sub.ret | exact Sub.none | exact Sub.loop | apply Sub.cond | (apply Sub.bind; intro _) : Sub laws_eqIntSS.mk _ _) b h)))
theorem laws_eqIntSS.eq4 (v0 : List (List Int)) (v1 : List (List Int)) (v2 : Int) {b : Bool} (h : laws_eqIntSS.t4 some laws_eqIntSS.l4 v0 v1 v2 = some b) : laws_eqIntSS.l4 v0 v1 v2 = some b := tOf_intro laws_eqIntSS.un (fun _ => by kernel_rfl) (loopAtL_step ((laws_eqIntSS.k4 v0 v1 v2).trans ((by unfold laws_eqIntSS.t4; repeat' first | exact Sub.ret | exact Sub.none | exact Sub.loop | apply Sub.cond | (apply Sub.bind; intro _) : Sub laws_eqIntSS.mk _ _) b h)))
noncomputable def laws_markTable_d7a.t {γ : Type} (ret : (Int × Int × (List (List Int × Int))) → Option γ) (v0 : Int) (v1 : List (List Int × Int)) (v2 : Int) : Option γ :=
 (xl0e (v1) (v2)).bind fun (r0 : Int × (List (List Int × Int))) =>
 ret (r0.fst, v0, r0.snd)
theorem laws_markTable_d7a.k (v0 : Int) (v1 : List (List Int × Int)) (v2 : Int) : topL E (callT E tab) 21 Try.f21 (laws_markTable_d7a.c v0 v1 v2) = laws_markTable_d7a.t (fun b => some (laws_markTable_d7a.mk b)) v0 v1 v2 := by kernel_rfl
theorem laws_markTable_d7a.eq (v0 : Int) (v1 : List (List Int × Int)) (v2 : Int) {b : Int × Int × (List (List Int × Int))} (h : laws_markTable_d7a.t some v0 v1 v2 = some b) : laws_markTable_d7a v0 v1 v2 = some b := tOf_intro laws_markTable_d7a.un (fun _ => by kernel_rfl) (vlim_fn (callT_le E tab) rfl rfl rfl ((laws_markTable_d7a.k v0 v1 v2).trans ((by unfold laws_markTable_d7a.t; repeat' first | exact Sub.ret | exact Sub.none | exact Sub.loop | apply Sub.cond | (apply Sub.bind; intro _) : Sub laws_markTable_d7a.mk _ _) b h)))
noncomputable def xl0e.q2 (v0 : List (List Int × Int)) (v1 : Int) (v2 : Int) : Option R := loopAtL E (callT E tab) 77 Try.f77 2 [.r, .l, .r, .b] (⟨(.val .one), [.d .deep (.sl (.pair (.sl (.int .i64)) (.int .i64))) v0], true, false, false, 0, 0⟩ :: vc (iL v1) :: nn 3 (vc (iL v2) :: nn 22 ([])))
noncomputable def xl0e.l2 (v0 : List (List Int × Int)) (v1 : Int) (v2 : Int) : Option (Int × (List (List Int × Int))) := tOf xl0e.mk (xl0e.q2 v0 v1 v2)
noncomputable def xl0e.t {γ : Type} (ret : (Int × (List (List Int × Int))) → Option γ) (lp2 : (List (List Int × Int)) → Int → Int → Option γ) (v0 : List (List Int × Int)) (v1 : Int) : Option γ :=
 lp2 (v0) (v1) ((0 : Int))
noncomputable def xl0e.t2 {γ : Type} (ret : (Int × (List (List Int × Int))) → Option γ) (lp2 : (List (List Int × Int)) → Int → Int → Option γ) (v0 : List (List Int × Int)) (v1 : Int) (v2 : Int) : Option γ :=
 bif decide (v2 < (↑v0.length : Int)) then
  bif decide ((0 : Int) ≤ v2) then
   bif decide (v2.toNat < v0.length) then
    bif decide (v2.toNat < v0.length) then
     bif decide (v2.toNat < v0.length) then
      (laws_markIntS_83f ((v0.getD v2.toNat ([], (0 : Int))).fst) (v1)).bind fun (r0 : Int × (List Int)) =>
      bif decide (v2.toNat = v2.toNat) &&   (decide ((0 : Nat) + (0 : Nat) + (0 : Nat) = (0 : Nat) + (0 : Nat) + (0 : Nat)) &&     decide ((1 : Nat) + (1 : Nat) = (1 : Nat) + (1 : Nat))) then
       bif decide (v2.toNat < v0.length) then
        bif decide ((0 : Int) ≤ v2) then
         bif decide (v2.toNat < (v0.set v2.toNat (r0.snd, (v0.getD v2.toNat ([], (0 : Int))).snd)).length) then
          bif decide (v2.toNat < (v0.set v2.toNat (r0.snd, (v0.getD v2.toNat ([], (0 : Int))).snd)).length) then
           lp2 ((v0.set v2.toNat (r0.snd, (v0.getD v2.toNat ([], (0 : Int))).snd)).set v2.toNat   (((v0.set v2.toNat (r0.snd, (v0.getD v2.toNat ([], (0 : Int))).snd)).getD v2.toNat ([], (0 : Int))).fst, r0.fst)) (IntKind.i64.wrap (r0.fst + (1 : Int))) (IntKind.i64.wrap (v2 + (1 : Int)))
          else
           none
         else
          none
        else
         none
       else
        none
      else
       none
     else
      none
    else
     none
   else
    none
  else
   none
 else
  ret (v1, v0)
theorem xl0e.k (v0 : List (List Int × Int)) (v1 : Int) : topL E (callT E tab) 77 Try.f77 (xl0e.c v0 v1) = xl0e.t (fun b => some (xl0e.mk b)) xl0e.q2 v0 v1 := by kernel_rfl
theorem xl0e.k2 (v0 : List (List Int × Int)) (v1 : Int) (v2 : Int) : roundL E (callT E tab) 77 Try.f77 2 [.r, .l, .r, .b] (⟨(.val .one), [.d .deep (.sl (.pair (.sl (.int .i64)) (.int .i64))) v0], true, false, false, 0, 0⟩ :: vc (iL v1) :: nn 3 (vc (iL v2) :: nn 22 ([]))) = xl0e.t2 (fun b => some (xl0e.mk b)) xl0e.q2 v0 v1 v2 := by kernel_rfl
theorem xl0e.eq (v0 : List (List Int × Int)) (v1 : Int) {b : Int × (List (List Int × Int))} (h : xl0e.t some xl0e.l2 v0 v1 = some b) : xl0e v0 v1 = some b := tOf_intro xl0e.un (fun _ => by kernel_rfl) (vlim_fn (callT_le E tab) rfl rfl rfl ((xl0e.k v0 v1).trans ((by unfold xl0e.t; repeat' first | exact Sub.ret | exact Sub.none | exact Sub.loop | apply Sub.cond | (apply Sub.bind; intro _) : Sub xl0e.mk _ _) b h)))
theorem xl0e.eq2 (v0 : List (List Int × Int)) (v1 : Int) (v2 : Int) {b : Int × (List (List Int × Int))} (h : xl0e.t2 some xl0e.l2 v0 v1 v2 = some b) : xl0e.l2 v0 v1 v2 = some b := tOf_intro xl0e.un (fun _ => by kernel_rfl) (loopAtL_step ((xl0e.k2 v0 v1 v2).trans ((by unfold xl0e.t2; repeat' first | exact Sub.ret | exact Sub.none | exact Sub.loop | apply Sub.cond | (apply Sub.bind; intro _) : Sub xl0e.mk _ _) b h)))
noncomputable def laws_markIntS_83f.q2 (v0 : List Int) (v1 : Int) (v2 : Int) : Option R := loopAtL E (callT E tab) 78 Try.f78 2 [.r, .l, .r, .b] (⟨(.val .one), [.d .deep (.sl (.int .i64)) v0], true, false, false, 0, 0⟩ :: vc (iL v1) :: nn 3 (vc (iL v2) :: nn 13 ([])))
noncomputable def laws_markIntS_83f.l2 (v0 : List Int) (v1 : Int) (v2 : Int) : Option (Int × (List Int)) := tOf laws_markIntS_83f.mk (laws_markIntS_83f.q2 v0 v1 v2)
noncomputable def laws_markIntS_83f.t {γ : Type} (ret : (Int × (List Int)) → Option γ) (lp2 : (List Int) → Int → Int → Option γ) (v0 : List Int) (v1 : Int) : Option γ :=
 lp2 (v0) (v1) ((0 : Int))
noncomputable def laws_markIntS_83f.t2 {γ : Type} (ret : (Int × (List Int)) → Option γ) (lp2 : (List Int) → Int → Int → Option γ) (v0 : List Int) (v1 : Int) (v2 : Int) : Option γ :=
 bif decide (v2 < (↑v0.length : Int)) then
  bif decide ((0 : Int) ≤ v2) then
   bif decide (v2.toNat < v0.length) then
    bif decide (v2.toNat < v0.length) then
     lp2 (v0.set v2.toNat v1) (IntKind.i64.wrap (v1 + (1 : Int))) (IntKind.i64.wrap (v2 + (1 : Int)))
    else
     none
   else
    none
  else
   none
 else
  ret (v1, v0)
theorem laws_markIntS_83f.k (v0 : List Int) (v1 : Int) : topL E (callT E tab) 78 Try.f78 (laws_markIntS_83f.c v0 v1) = laws_markIntS_83f.t (fun b => some (laws_markIntS_83f.mk b)) laws_markIntS_83f.q2 v0 v1 := by kernel_rfl
theorem laws_markIntS_83f.k2 (v0 : List Int) (v1 : Int) (v2 : Int) : roundL E (callT E tab) 78 Try.f78 2 [.r, .l, .r, .b] (⟨(.val .one), [.d .deep (.sl (.int .i64)) v0], true, false, false, 0, 0⟩ :: vc (iL v1) :: nn 3 (vc (iL v2) :: nn 13 ([]))) = laws_markIntS_83f.t2 (fun b => some (laws_markIntS_83f.mk b)) laws_markIntS_83f.q2 v0 v1 v2 := by kernel_rfl
theorem laws_markIntS_83f.eq (v0 : List Int) (v1 : Int) {b : Int × (List Int)} (h : laws_markIntS_83f.t some laws_markIntS_83f.l2 v0 v1 = some b) : laws_markIntS_83f v0 v1 = some b := tOf_intro laws_markIntS_83f.un (fun _ => by kernel_rfl) (vlim_fn (callT_le E tab) rfl rfl rfl ((laws_markIntS_83f.k v0 v1).trans ((by unfold laws_markIntS_83f.t; repeat' first | exact Sub.ret | exact Sub.none | exact Sub.loop | apply Sub.cond | (apply Sub.bind; intro _) : Sub laws_markIntS_83f.mk _ _) b h)))
theorem laws_markIntS_83f.eq2 (v0 : List Int) (v1 : Int) (v2 : Int) {b : Int × (List Int)} (h : laws_markIntS_83f.t2 some laws_markIntS_83f.l2 v0 v1 v2 = some b) : laws_markIntS_83f.l2 v0 v1 v2 = some b := tOf_intro laws_markIntS_83f.un (fun _ => by kernel_rfl) (loopAtL_step ((laws_markIntS_83f.k2 v0 v1 v2).trans ((by unfold laws_markIntS_83f.t2; repeat' first | exact Sub.ret | exact Sub.none | exact Sub.loop | apply Sub.cond | (apply Sub.bind; intro _) : Sub laws_markIntS_83f.mk _ _) b h)))
noncomputable def laws_markIntSS_1f6.q2 (v0 : List (List Int)) (v1 : Int) (v2 : Int) : Option R := loopAtL E (callT E tab) 22 Try.f22 2 [.r, .l, .r, .b] (⟨(.val .one), [.d .deep (.sl (.sl (.int .i64))) v0], true, false, false, 0, 0⟩ :: vc (iL v1) :: nn 3 (vc (iL v2) :: nn 13 ([])))
noncomputable def laws_markIntSS_1f6.l2 (v0 : List (List Int)) (v1 : Int) (v2 : Int) : Option (Int × (List (List Int))) := tOf laws_markIntSS_1f6.mk (laws_markIntSS_1f6.q2 v0 v1 v2)
noncomputable def laws_markIntSS_1f6.t {γ : Type} (ret : (Int × (List (List Int))) → Option γ) (lp2 : (List (List Int)) → Int → Int → Option γ) (v0 : List (List Int)) (v1 : Int) : Option γ :=
 lp2 (v0) (v1) ((0 : Int))
noncomputable def laws_markIntSS_1f6.t2 {γ : Type} (ret : (Int × (List (List Int))) → Option γ) (lp2 : (List (List Int)) → Int → Int → Option γ) (v0 : List (List Int)) (v1 : Int) (v2 : Int) : Option γ :=
 bif decide (v2 < (↑v0.length : Int)) then
  bif decide ((0 : Int) ≤ v2) then
   bif decide (v2.toNat < v0.length) then
    bif decide (v2.toNat < v0.length) then
     bif decide (v2.toNat < v0.length) then
      (laws_markIntS_83f (v0.getD v2.toNat []) (v1)).bind fun (r0 : Int × (List Int)) =>
      bif decide (v2.toNat = v2.toNat) &&   (decide ((0 : Nat) = (0 : Nat)) && decide ((1 : Nat) = (1 : Nat))) then
       bif decide (v2.toNat < v0.length) then
        lp2 (v0.set v2.toNat r0.snd) (r0.fst) (IntKind.i64.wrap (v2 + (1 : Int)))
       else
        none
      else
       none
     else
      none
    else
     none
   else
    none
  else
   none
 else
  ret (v1, v0)
theorem laws_markIntSS_1f6.k (v0 : List (List Int)) (v1 : Int) : topL E (callT E tab) 22 Try.f22 (laws_markIntSS_1f6.c v0 v1) = laws_markIntSS_1f6.t (fun b => some (laws_markIntSS_1f6.mk b)) laws_markIntSS_1f6.q2 v0 v1 := by kernel_rfl
theorem laws_markIntSS_1f6.k2 (v0 : List (List Int)) (v1 : Int) (v2 : Int) : roundL E (callT E tab) 22 Try.f22 2 [.r, .l, .r, .b] (⟨(.val .one), [.d .deep (.sl (.sl (.int .i64))) v0], true, false, false, 0, 0⟩ :: vc (iL v1) :: nn 3 (vc (iL v2) :: nn 13 ([]))) = laws_markIntSS_1f6.t2 (fun b => some (laws_markIntSS_1f6.mk b)) laws_markIntSS_1f6.q2 v0 v1 v2 := by kernel_rfl
theorem laws_markIntSS_1f6.eq (v0 : List (List Int)) (v1 : Int) {b : Int × (List (List Int))} (h : laws_markIntSS_1f6.t some laws_markIntSS_1f6.l2 v0 v1 = some b) : laws_markIntSS_1f6 v0 v1 = some b := tOf_intro laws_markIntSS_1f6.un (fun _ => by kernel_rfl) (vlim_fn (callT_le E tab) rfl rfl rfl ((laws_markIntSS_1f6.k v0 v1).trans ((by unfold laws_markIntSS_1f6.t; repeat' first | exact Sub.ret | exact Sub.none | exact Sub.loop | apply Sub.cond | (apply Sub.bind; intro _) : Sub laws_markIntSS_1f6.mk _ _) b h)))
theorem laws_markIntSS_1f6.eq2 (v0 : List (List Int)) (v1 : Int) (v2 : Int) {b : Int × (List (List Int))} (h : laws_markIntSS_1f6.t2 some laws_markIntSS_1f6.l2 v0 v1 v2 = some b) : laws_markIntSS_1f6.l2 v0 v1 v2 = some b := tOf_intro laws_markIntSS_1f6.un (fun _ => by kernel_rfl) (loopAtL_step ((laws_markIntSS_1f6.k2 v0 v1 v2).trans ((by unfold laws_markIntSS_1f6.t2; repeat' first | exact Sub.ret | exact Sub.none | exact Sub.loop | apply Sub.cond | (apply Sub.bind; intro _) : Sub laws_markIntSS_1f6.mk _ _) b h)))
noncomputable def laws_heldTable.t {γ : Type} (ret : (Int) → Option γ) (v0 : Int) (v1 : List (List Int × Int)) (v2 : Int) : Option γ :=
 (laws_heldWeightedS (v1) (v2)).bind fun (r0 : Int) =>
 bif decide (r0 < (0 : Int)) then
  ret ((-1 : Int))
 else
  ret (r0)
theorem laws_heldTable.k (v0 : Int) (v1 : List (List Int × Int)) (v2 : Int) : topL E (callT E tab) 23 Try.f23 (laws_heldTable.c v0 v1 v2) = laws_heldTable.t (fun b => some (laws_heldTable.mk b)) v0 v1 v2 := by kernel_rfl
theorem laws_heldTable.eq (v0 : Int) (v1 : List (List Int × Int)) (v2 : Int) {b : Int} (h : laws_heldTable.t some v0 v1 v2 = some b) : laws_heldTable v0 v1 v2 = some b := tOf_intro laws_heldTable.un (fun _ => by kernel_rfl) (vlim_fn (callT_le E tab) rfl rfl rfl ((laws_heldTable.k v0 v1 v2).trans ((by unfold laws_heldTable.t; repeat' first | exact Sub.ret | exact Sub.none | exact Sub.loop | apply Sub.cond | (apply Sub.bind; intro _) : Sub laws_heldTable.mk _ _) b h)))
noncomputable def laws_heldWeightedS.q2 (v0 : List (List Int × Int)) (v1 : Int) (v2 : Int) : Option R := loopAtL E (callT E tab) 79 Try.f79 2 [.r, .l, .r, .b] (vc (.d .fro (.sl (.pair (.sl (.int .i64)) (.int .i64))) v0) :: vc (iL v1) :: nn 3 (vc (iL v2) :: nn 26 ([])))
noncomputable def laws_heldWeightedS.l2 (v0 : List (List Int × Int)) (v1 : Int) (v2 : Int) : Option (Int) := tOf laws_heldWeightedS.mk (laws_heldWeightedS.q2 v0 v1 v2)
noncomputable def laws_heldWeightedS.t {γ : Type} (ret : (Int) → Option γ) (lp2 : (List (List Int × Int)) → Int → Int → Option γ) (v0 : List (List Int × Int)) (v1 : Int) : Option γ :=
 lp2 (v0) (v1) ((0 : Int))
noncomputable def laws_heldWeightedS.t2 {γ : Type} (ret : (Int) → Option γ) (lp2 : (List (List Int × Int)) → Int → Int → Option γ) (v0 : List (List Int × Int)) (v1 : Int) (v2 : Int) : Option γ :=
 bif decide (v2 < (↑v0.length : Int)) then
  bif decide ((0 : Int) ≤ v2) then
   bif decide (v2.toNat < v0.length) then
    (laws_heldIntS ((v0.getD v2.toNat ([], (0 : Int))).fst) (v1)).bind fun (r0 : Int) =>
    bif decide (r0 < (0 : Int)) then
     ret ((-1 : Int))
    else
     bif decide ((0 : Int) ≤ v2) then
      bif decide (v2.toNat < v0.length) then
       bif (v0.getD v2.toNat ([], (0 : Int))).snd != r0 then
        ret ((-1 : Int))
       else
        lp2 (v0) (IntKind.i64.wrap (r0 + (1 : Int))) (IntKind.i64.wrap (v2 + (1 : Int)))
      else
       none
     else
      none
   else
    none
  else
   none
 else
  ret (v1)
theorem laws_heldWeightedS.k (v0 : List (List Int × Int)) (v1 : Int) : topL E (callT E tab) 79 Try.f79 (laws_heldWeightedS.c v0 v1) = laws_heldWeightedS.t (fun b => some (laws_heldWeightedS.mk b)) laws_heldWeightedS.q2 v0 v1 := by kernel_rfl
theorem laws_heldWeightedS.k2 (v0 : List (List Int × Int)) (v1 : Int) (v2 : Int) : roundL E (callT E tab) 79 Try.f79 2 [.r, .l, .r, .b] (vc (.d .fro (.sl (.pair (.sl (.int .i64)) (.int .i64))) v0) :: vc (iL v1) :: nn 3 (vc (iL v2) :: nn 26 ([]))) = laws_heldWeightedS.t2 (fun b => some (laws_heldWeightedS.mk b)) laws_heldWeightedS.q2 v0 v1 v2 := by kernel_rfl
theorem laws_heldWeightedS.eq (v0 : List (List Int × Int)) (v1 : Int) {b : Int} (h : laws_heldWeightedS.t some laws_heldWeightedS.l2 v0 v1 = some b) : laws_heldWeightedS v0 v1 = some b := tOf_intro laws_heldWeightedS.un (fun _ => by kernel_rfl) (vlim_fn (callT_le E tab) rfl rfl rfl ((laws_heldWeightedS.k v0 v1).trans ((by unfold laws_heldWeightedS.t; repeat' first | exact Sub.ret | exact Sub.none | exact Sub.loop | apply Sub.cond | (apply Sub.bind; intro _) : Sub laws_heldWeightedS.mk _ _) b h)))
theorem laws_heldWeightedS.eq2 (v0 : List (List Int × Int)) (v1 : Int) (v2 : Int) {b : Int} (h : laws_heldWeightedS.t2 some laws_heldWeightedS.l2 v0 v1 v2 = some b) : laws_heldWeightedS.l2 v0 v1 v2 = some b := tOf_intro laws_heldWeightedS.un (fun _ => by kernel_rfl) (loopAtL_step ((laws_heldWeightedS.k2 v0 v1 v2).trans ((by unfold laws_heldWeightedS.t2; repeat' first | exact Sub.ret | exact Sub.none | exact Sub.loop | apply Sub.cond | (apply Sub.bind; intro _) : Sub laws_heldWeightedS.mk _ _) b h)))
noncomputable def laws_heldIntS.q2 (v0 : List Int) (v1 : Int) (v2 : Int) : Option R := loopAtL E (callT E tab) 117 Try.f117 2 [.r, .l, .r, .b] (vc (.d .fro (.sl (.int .i64)) v0) :: vc (iL v1) :: nn 3 (vc (iL v2) :: nn 15 ([])))
noncomputable def laws_heldIntS.l2 (v0 : List Int) (v1 : Int) (v2 : Int) : Option (Int) := tOf laws_heldIntS.mk (laws_heldIntS.q2 v0 v1 v2)
noncomputable def laws_heldIntS.t {γ : Type} (ret : (Int) → Option γ) (lp2 : (List Int) → Int → Int → Option γ) (v0 : List Int) (v1 : Int) : Option γ :=
 lp2 (v0) (v1) ((0 : Int))
noncomputable def laws_heldIntS.t2 {γ : Type} (ret : (Int) → Option γ) (lp2 : (List Int) → Int → Int → Option γ) (v0 : List Int) (v1 : Int) (v2 : Int) : Option γ :=
 bif decide (v2 < (↑v0.length : Int)) then
  bif decide ((0 : Int) ≤ v2) then
   bif decide (v2.toNat < v0.length) then
    bif v0.getD v2.toNat (0 : Int) != v1 then
     ret ((-1 : Int))
    else
     lp2 (v0) (IntKind.i64.wrap (v1 + (1 : Int))) (IntKind.i64.wrap (v2 + (1 : Int)))
   else
    none
  else
   none
 else
  ret (v1)
theorem laws_heldIntS.k (v0 : List Int) (v1 : Int) : topL E (callT E tab) 117 Try.f117 (laws_heldIntS.c v0 v1) = laws_heldIntS.t (fun b => some (laws_heldIntS.mk b)) laws_heldIntS.q2 v0 v1 := by kernel_rfl
theorem laws_heldIntS.k2 (v0 : List Int) (v1 : Int) (v2 : Int) : roundL E (callT E tab) 117 Try.f117 2 [.r, .l, .r, .b] (vc (.d .fro (.sl (.int .i64)) v0) :: vc (iL v1) :: nn 3 (vc (iL v2) :: nn 15 ([]))) = laws_heldIntS.t2 (fun b => some (laws_heldIntS.mk b)) laws_heldIntS.q2 v0 v1 v2 := by kernel_rfl
theorem laws_heldIntS.eq (v0 : List Int) (v1 : Int) {b : Int} (h : laws_heldIntS.t some laws_heldIntS.l2 v0 v1 = some b) : laws_heldIntS v0 v1 = some b := tOf_intro laws_heldIntS.un (fun _ => by kernel_rfl) (vlim_fn (callT_le E tab) rfl rfl rfl ((laws_heldIntS.k v0 v1).trans ((by unfold laws_heldIntS.t; repeat' first | exact Sub.ret | exact Sub.none | exact Sub.loop | apply Sub.cond | (apply Sub.bind; intro _) : Sub laws_heldIntS.mk _ _) b h)))
theorem laws_heldIntS.eq2 (v0 : List Int) (v1 : Int) (v2 : Int) {b : Int} (h : laws_heldIntS.t2 some laws_heldIntS.l2 v0 v1 v2 = some b) : laws_heldIntS.l2 v0 v1 v2 = some b := tOf_intro laws_heldIntS.un (fun _ => by kernel_rfl) (loopAtL_step ((laws_heldIntS.k2 v0 v1 v2).trans ((by unfold laws_heldIntS.t2; repeat' first | exact Sub.ret | exact Sub.none | exact Sub.loop | apply Sub.cond | (apply Sub.bind; intro _) : Sub laws_heldIntS.mk _ _) b h)))
end GoV
