/- A part of the proof of FnExactGroupTable: an interpreter of the model over plain data, its soundness, and what it makes of the functions that the statement reaches. Conditions: none beyond what the given statement itself says. -/
import Derived.Test.YtjbhilkkckfkmaaTH
set_option linter.unusedVariables false
set_option linter.unusedSimpArgs false
set_option linter.unnecessarySimpa false
set_option linter.unusedSectionVars false
/- The functions of the program, each told by what it answers in the end (printed by wip/tools/emit.py). -/
/-! Names of functions here: xs00 = slices_ContainsFunc_int_int_impl_areAll_int_1_impl_areColumns_1, xs01 = slices_SortStableFunc_impl_Group_impl_Group_impl_grouped_1_254, xs02 = slices_IndexFunc_int_int_impl_areAll_int_1_impl_areColumns_1, xs03 = slices_DeleteFunc_impl_Group_impl_Group_impl_grouped_2_d69, xs04 = slices_ContainsFunc_int_int_impl_areAll_int_1_impl_isCell, xs05 = slices_insertionSortCmpFunc_impl_Group_impl_grouped_1_e85, xs06 = slices_IndexFunc_int_int_impl_areAll_int_1_impl_isCell, xs07 = slices_IndexFunc_impl_Group_impl_Group_impl_grouped_2, xs08 = slices_swapRangeCmpFunc_impl_Group_impl_grouped_1_c25, xs09 = slices_symMergeCmpFunc_impl_Group_impl_grouped_1_c25, xs0a = slices_rotateCmpFunc_impl_Group_impl_grouped_1_c25, xs0b = slices_stableCmpFunc_impl_Group_impl_grouped_1_5fb, xs0c = slices_Grow_impl_Group_impl_Group_abe, xi0d = impl_areAll_int_1_impl_areColumns_1, xs0e = slices_Concat_impl_Group_impl_Group, xi0f = impl_areAll_int_impl_areColumns_1, xi0g = impl_areAll_int_1_impl_isCell, xi0h = impl_areAll_int_impl_isCell, xl0i = laws_FnExactGroupTable, xl0j = laws_markWeightedS_d97, xs0k = slices_Compare_int_int, xs0l = slices_Clone_int_int, xl0m = laws_markGroupS_10a -/
namespace GoV
open Go Go.Proofs
set_option maxRecDepth 100000

def laws_szRow.c (v0 : List Int) (v1 : Int) : List Cell := ac [.d .fro (.sl (.int .i64)) v0] :: vc (iL v1) :: []
def laws_szRow.mk (b : Int) : R := (⟨.one, [iL b]⟩, nn 2 ([]))
def laws_szRow.un (r : R) : Int := ((leafR r 0).dat (.int .i64))
noncomputable def laws_szRow (v0 : List Int) (v1 : Int) : Option (Int) := tOf laws_szRow.mk (vlim E 66 (laws_szRow.c v0 v1))
def laws_szIntS.c (v0 : List Int) (v1 : Int) : List Cell := vc (.d .fro (.sl (.int .i64)) v0) :: vc (iL v1) :: []
def laws_szIntS.mk (b : Int) : R := (⟨.one, [iL b]⟩, nn 2 ([]))
def laws_szIntS.un (r : R) : Int := ((leafR r 0).dat (.int .i64))
noncomputable def laws_szIntS (v0 : List Int) (v1 : Int) : Option (Int) := tOf laws_szIntS.mk (vlim E 101 (laws_szIntS.c v0 v1))
def laws_toRow.c (v0 : List Int) : List Cell := ac [.d .fro (.sl (.int .i64)) v0] :: []
def laws_toRow.mk (b : (List Int)) : R := (⟨.agg, [.d .deep (.sl (.int .i64)) b]⟩, nn 1 ([]))
def laws_toRow.un (r : R) : (List Int) := ((leafR r 0).dat (.sl (.int .i64)))
noncomputable def laws_toRow (v0 : List Int) : Option ((List Int)) := tOf laws_toRow.mk (vlim E 71 (laws_toRow.c v0))
def laws_toIntS.c (v0 : List Int) : List Cell := vc (.d .fro (.sl (.int .i64)) v0) :: []
def laws_toIntS.mk (b : (List Int)) : R := (⟨.one, [.d .deep (.sl (.int .i64)) b]⟩, nn 1 ([]))
def laws_toIntS.un (r : R) : (List Int) := ((leafR r 0).dat (.sl (.int .i64)))
noncomputable def laws_toIntS (v0 : List Int) : Option ((List Int)) := tOf laws_toIntS.mk (vlim E 15 (laws_toIntS.c v0))
def spec_GoodGroups.c (v0 : List (List Int × Int × Int)) : List Cell := vc (.d .fro (.sl (.pair (.sl (.int .i64)) (.pair (.int .i64) (.int .i64)))) v0) :: []
def spec_GoodGroups.mk (b : Bool) : R := (⟨.one, [bL b]⟩, nn 1 ([]))
def spec_GoodGroups.un (r : R) : Bool := ((leafR r 0).dat .bool)
noncomputable def spec_GoodGroups (v0 : List (List Int × Int × Int)) : Option (Bool) := tOf spec_GoodGroups.mk (vlim E 34 (spec_GoodGroups.c v0))
def spec_GoodRow.c (v0 : List Int) : List Cell := ac [.d .fro (.sl (.int .i64)) v0] :: []
def spec_GoodRow.mk (b : Bool) : R := (⟨.one, [bL b]⟩, nn 1 ([]))
def spec_GoodRow.un (r : R) : Bool := ((leafR r 0).dat .bool)
noncomputable def spec_GoodRow (v0 : List Int) : Option (Bool) := tOf spec_GoodRow.mk (vlim E 67 (spec_GoodRow.c v0))
def spec_l1In.c (v0 : Int) (v1 : Int) (v2 : Int) : List Cell := vc (iL v0) :: vc (iL v1) :: vc (iL v2) :: []
def spec_l1In.mk (b : Bool) : R := (⟨.one, [bL b]⟩, nn 3 ([]))
def spec_l1In.un (r : R) : Bool := ((leafR r 0).dat .bool)
noncomputable def spec_l1In (v0 : Int) (v1 : Int) (v2 : Int) : Option (Bool) := tOf spec_l1In.mk (vlim E 87 (spec_l1In.c v0 v1 v2))
def spec_l5Sum.c (v0 : Int) : List Cell := vc (iL v0) :: []
def spec_l5Sum.mk (b : Bool) : R := (⟨.one, [bL b]⟩, nn 1 ([]))
def spec_l5Sum.un (r : R) : Bool := ((leafR r 0).dat .bool)
noncomputable def spec_l5Sum (v0 : Int) : Option (Bool) := tOf spec_l5Sum.mk (vlim E 68 (spec_l5Sum.c v0))
def spec_l1Compare.c (v0 : List Int) (v1 : List Int) : List Cell := ac [.d .fro (.sl (.int .i64)) v0] :: ac [.d .fro (.sl (.int .i64)) v1] :: []
def spec_l1Compare.mk (b : Int) : R := (⟨.one, [iL b]⟩, nn 2 ([]))
def spec_l1Compare.un (r : R) : Int := ((leafR r 0).dat (.int .i64))
noncomputable def spec_l1Compare (v0 : List Int) (v1 : List Int) : Option (Int) := tOf spec_l1Compare.mk (vlim E 69 (spec_l1Compare.c v0 v1))
def spec_l5Put.c (v0 : List (List Int × Int × Int)) (v1 : List Int) (v2 : Int) (v3 : Int) : List Cell := vc (.d .fro (.sl (.pair (.sl (.int .i64)) (.pair (.int .i64) (.int .i64)))) v0) :: ac [.d .fro (.sl (.int .i64)) v1, iL v2, iL v3] :: []
def spec_l5Put.mk (b : (List (List Int × Int × Int))) : R := (⟨.one, [.d .sha (.sl (.pair (.sl (.int .i64)) (.pair (.int .i64) (.int .i64)))) b]⟩, nn 2 ([]))
def spec_l5Put.un (r : R) : (List (List Int × Int × Int)) := ((leafR r 0).dat (.sl (.pair (.sl (.int .i64)) (.pair (.int .i64) (.int .i64)))))
noncomputable def spec_l5Put (v0 : List (List Int × Int × Int)) (v1 : List Int) (v2 : Int) (v3 : Int) : Option ((List (List Int × Int × Int))) := tOf spec_l5Put.mk (vlim E 35 (spec_l5Put.c v0 v1 v2 v3))
def spec_l2OwnRow.c (v0 : List Int) : List Cell := ac [.d .fro (.sl (.int .i64)) v0] :: []
def spec_l2OwnRow.mk (b : (List Int)) : R := (⟨.agg, [.d .deep (.sl (.int .i64)) b]⟩, nn 1 ([]))
def spec_l2OwnRow.un (r : R) : (List Int) := ((leafR r 0).dat (.sl (.int .i64)))
noncomputable def spec_l2OwnRow (v0 : List Int) : Option ((List Int)) := tOf spec_l2OwnRow.mk (vlim E 70 (spec_l2OwnRow.c v0))
def spec_l5Tell.c (v0 : List (List Int × Int × Int)) : List Cell := vc (.d .fro (.sl (.pair (.sl (.int .i64)) (.pair (.int .i64) (.int .i64)))) v0) :: []
def spec_l5Tell.mk (b : (List (List Int × Int × Int)) × Bool) : R := (⟨(.tup [none, none]), [.d .deep (.sl (.pair (.sl (.int .i64)) (.pair (.int .i64) (.int .i64)))) b.1, bL b.2]⟩, nn 1 ([]))
def spec_l5Tell.un (r : R) : (List (List Int × Int × Int)) × Bool := ((leafR r 0).dat (.sl (.pair (.sl (.int .i64)) (.pair (.int .i64) (.int .i64)))), (leafR r 1).dat .bool)
noncomputable def spec_l5Tell (v0 : List (List Int × Int × Int)) : Option ((List (List Int × Int × Int)) × Bool) := tOf spec_l5Tell.mk (vlim E 36 (spec_l5Tell.c v0))
def impl_GoodGroups.c (v0 : List (List Int × Int × Int)) : List Cell := vc (.d .fro (.sl (.pair (.sl (.int .i64)) (.pair (.int .i64) (.int .i64)))) v0) :: []
def impl_GoodGroups.mk (b : Bool) : R := (⟨.one, [bL b]⟩, nn 1 ([]))
def impl_GoodGroups.un (r : R) : Bool := ((leafR r 0).dat .bool)
noncomputable def impl_GoodGroups (v0 : List (List Int × Int × Int)) : Option (Bool) := tOf impl_GoodGroups.mk (vlim E 38 (impl_GoodGroups.c v0))
def impl_keyLength.c (v0 : List (List Int × Int × Int)) : List Cell := vc (.d .fro (.sl (.pair (.sl (.int .i64)) (.pair (.int .i64) (.int .i64)))) v0) :: []
def impl_keyLength.mk (b : Int) : R := (⟨.one, [iL b]⟩, nn 1 ([]))
def impl_keyLength.un (r : R) : Int := ((leafR r 0).dat (.int .i64))
noncomputable def impl_keyLength (v0 : List (List Int × Int × Int)) : Option (Int) := tOf impl_keyLength.mk (vlim E 39 (impl_keyLength.c v0))
def impl_isRowOf.c (v0 : List Int) (v1 : Int) : List Cell := ac [.d .fro (.sl (.int .i64)) v0] :: vc (iL v1) :: []
def impl_isRowOf.mk (b : Bool) : R := (⟨.one, [bL b]⟩, nn 2 ([]))
def impl_isRowOf.un (r : R) : Bool := ((leafR r 0).dat .bool)
noncomputable def impl_isRowOf (v0 : List Int) (v1 : Int) : Option (Bool) := tOf impl_isRowOf.mk (vlim E 72 (impl_isRowOf.c v0 v1))
def impl_GoodRow.c (v0 : List Int) : List Cell := ac [.d .fro (.sl (.int .i64)) v0] :: []
def impl_GoodRow.mk (b : Bool) : R := (⟨.one, [bL b]⟩, nn 1 ([]))
def impl_GoodRow.un (r : R) : Bool := ((leafR r 0).dat .bool)
noncomputable def impl_GoodRow (v0 : List Int) : Option (Bool) := tOf impl_GoodRow.mk (vlim E 102 (impl_GoodRow.c v0))
def xi0h.c (v0 : List Int) : List Cell := vc (.d .fro (.sl (.int .i64)) v0) :: vc (.fn 62 []) :: []
def xi0h.mk (b : Bool) : R := (⟨.one, [bL b]⟩, nn 2 ([]))
def xi0h.un (r : R) : Bool := ((leafR r 0).dat .bool)
noncomputable def xi0h (v0 : List Int) : Option (Bool) := tOf xi0h.mk (vlim E 45 (xi0h.c v0))
def xs04.c (v0 : List Int) : List Cell := vc (.d .fro (.sl (.int .i64)) v0) :: vc (.fn 84 [.rp [.fn 62 []] 0]) :: []
def xs04.mk (b : Bool) : R := (⟨.one, [bL b]⟩, nn 2 ([]))
def xs04.un (r : R) : Bool := ((leafR r 0).dat .bool)
noncomputable def xs04 (v0 : List Int) : Option (Bool) := tOf xs04.mk (vlim E 83 (xs04.c v0))
def xs06.c (v0 : List Int) : List Cell := vc (.d .fro (.sl (.int .i64)) v0) :: vc (.fn 84 [.rp [.fn 62 []] 0]) :: []
def xs06.mk (b : Int) : R := (⟨.one, [iL b]⟩, nn 2 ([]))
def xs06.un (r : R) : Int := ((leafR r 0).dat (.int .i64))
noncomputable def xs06 (v0 : List Int) : Option (Int) := tOf xs06.mk (vlim E 108 (xs06.c v0))
def xi0g.c (v0 : Int) : List Cell := vc (iL v0) :: vc (.rp [.fn 62 []] 0) :: []
def xi0g.mk (b : Bool) : R := (⟨.one, [bL b]⟩, nn 2 ([]))
def xi0g.un (r : R) : Bool := ((leafR r 0).dat .bool)
noncomputable def xi0g (v0 : Int) : Option (Bool) := tOf xi0g.mk (vlim E 84 (xi0g.c v0))
def impl_isCell.c (v0 : Int) : List Cell := vc (iL v0) :: []
def impl_isCell.mk (b : Bool) : R := (⟨.one, [bL b]⟩, nn 1 ([]))
def impl_isCell.un (r : R) : Bool := ((leafR r 0).dat .bool)
noncomputable def impl_isCell (v0 : Int) : Option (Bool) := tOf impl_isCell.mk (vlim E 62 (impl_isCell.c v0))
def impl_within.c (v0 : Int) (v1 : Int) (v2 : Int) : List Cell := vc (iL v0) :: vc (iL v1) :: vc (iL v2) :: []
def impl_within.mk (b : Bool) : R := (⟨.one, [bL b]⟩, nn 3 ([]))
def impl_within.un (r : R) : Bool := ((leafR r 0).dat .bool)
noncomputable def impl_within (v0 : Int) (v1 : Int) (v2 : Int) : Option (Bool) := tOf impl_within.mk (vlim E 53 (impl_within.c v0 v1 v2))
def impl_isSum.c (v0 : Int) : List Cell := vc (iL v0) :: []
def impl_isSum.mk (b : Bool) : R := (⟨.one, [bL b]⟩, nn 1 ([]))
def impl_isSum.un (r : R) : Bool := ((leafR r 0).dat .bool)
noncomputable def impl_isSum (v0 : Int) : Option (Bool) := tOf impl_isSum.mk (vlim E 60 (impl_isSum.c v0))
def impl_compareRows.c (v0 : List Int) (v1 : List Int) : List Cell := ac [.d .fro (.sl (.int .i64)) v0] :: ac [.d .fro (.sl (.int .i64)) v1] :: []
def impl_compareRows.mk (b : Int) : R := (⟨.one, [iL b]⟩, nn 2 ([]))
def impl_compareRows.un (r : R) : Int := ((leafR r 0).dat (.int .i64))
noncomputable def impl_compareRows (v0 : List Int) (v1 : List Int) : Option (Int) := tOf impl_compareRows.mk (vlim E 73 (impl_compareRows.c v0 v1))
def xs0k.c (v0 : List Int) (v1 : List Int) : List Cell := vc (.d .fro (.sl (.int .i64)) v0) :: vc (.d .fro (.sl (.int .i64)) v1) :: []
def xs0k.mk (b : Int) : R := (⟨.one, [iL b]⟩, nn 2 ([]))
def xs0k.un (r : R) : Int := ((leafR r 0).dat (.int .i64))
noncomputable def xs0k (v0 : List Int) (v1 : List Int) : Option (Int) := tOf xs0k.mk (vlim E 103 (xs0k.c v0 v1))
def cmp_Compare_int.c (v0 : Int) (v1 : Int) : List Cell := vc (iL v0) :: vc (iL v1) :: []
def cmp_Compare_int.mk (b : Int) : R := (⟨.one, [iL b]⟩, nn 2 ([]))
def cmp_Compare_int.un (r : R) : Int := ((leafR r 0).dat (.int .i64))
noncomputable def cmp_Compare_int (v0 : Int) (v1 : Int) : Option (Int) := tOf cmp_Compare_int.mk (vlim E 115 (cmp_Compare_int.c v0 v1))
def cmp_isNaN_int.c (v0 : Int) : List Cell := vc (iL v0) :: []
def cmp_isNaN_int.mk (b : Bool) : R := (⟨.one, [bL b]⟩, nn 1 ([]))
def cmp_isNaN_int.un (r : R) : Bool := ((leafR r 0).dat .bool)
noncomputable def cmp_isNaN_int (v0 : Int) : Option (Bool) := tOf cmp_isNaN_int.mk (vlim E 121 (cmp_isNaN_int.c v0))
def impl_grouped.c (v0 : List (List (List Int × Int × Int))) : List Cell := vc (.d .fro (.sl (.sl (.pair (.sl (.int .i64)) (.pair (.int .i64) (.int .i64))))) v0) :: []
def impl_grouped.mk (b : (List (List Int × Int × Int)) × Bool) : R := (⟨(.tup [none, none]), [.d .deep (.sl (.pair (.sl (.int .i64)) (.pair (.int .i64) (.int .i64)))) b.1, bL b.2]⟩, nn 1 ([]))
def impl_grouped.un (r : R) : (List (List Int × Int × Int)) × Bool := ((leafR r 0).dat (.sl (.pair (.sl (.int .i64)) (.pair (.int .i64) (.int .i64)))), (leafR r 1).dat .bool)
noncomputable def impl_grouped (v0 : List (List (List Int × Int × Int))) : Option ((List (List Int × Int × Int)) × Bool) := tOf impl_grouped.mk (vlim E 40 (impl_grouped.c v0))
def xs0e.c (v0 : List (List (List Int × Int × Int))) : List Cell := vc (.d .fro (.sl (.sl (.pair (.sl (.int .i64)) (.pair (.int .i64) (.int .i64))))) v0) :: []
def xs0e.mk (b : (List (List Int × Int × Int))) : R := (⟨.one, [.d .sha (.sl (.pair (.sl (.int .i64)) (.pair (.int .i64) (.int .i64)))) b]⟩, nn 1 ([]))
def xs0e.un (r : R) : (List (List Int × Int × Int)) := ((leafR r 0).dat (.sl (.pair (.sl (.int .i64)) (.pair (.int .i64) (.int .i64)))))
noncomputable def xs0e (v0 : List (List (List Int × Int × Int))) : Option ((List (List Int × Int × Int))) := tOf xs0e.mk (vlim E 74 (xs0e.c v0))
def xs0c.c (v0 : Int) : List Cell := vc (.nil (.pair (.sl (.int .i64)) (.pair (.int .i64) (.int .i64)))) :: vc (iL v0) :: []
def xs0c.mk (b : (List (List Int × Int × Int))) : R := (⟨.one, [.d .deep (.sl (.pair (.sl (.int .i64)) (.pair (.int .i64) (.int .i64)))) b]⟩, nn 2 ([]))
def xs0c.un (r : R) : (List (List Int × Int × Int)) := ((leafR r 0).dat (.sl (.pair (.sl (.int .i64)) (.pair (.int .i64) (.int .i64)))))
noncomputable def xs0c (v0 : Int) : Option ((List (List Int × Int × Int))) := tOf xs0c.mk (vlim E 104 (xs0c.c v0))
def xs01.c (v0 : List (List Int × Int × Int)) : List Cell := ⟨(.val .one), [.d .sha (.sl (.pair (.sl (.int .i64)) (.pair (.int .i64) (.int .i64)))) v0], true, false, false, 0, 0⟩ :: vc (.fn 76 []) :: []
def xs01.mk (b : (List (List Int × Int × Int))) : R := (⟨(.tup []), []⟩, ⟨(.val .one), [.d .sha (.sl (.pair (.sl (.int .i64)) (.pair (.int .i64) (.int .i64)))) b], true, false, false, 0, 0⟩ :: nn 1 ([]))
def xs01.un (r : R) : (List (List Int × Int × Int)) := ((leafF r 0 0).dat (.sl (.pair (.sl (.int .i64)) (.pair (.int .i64) (.int .i64)))))
noncomputable def xs01 (v0 : List (List Int × Int × Int)) : Option ((List (List Int × Int × Int))) := tOf xs01.mk (vlim E 75 (xs01.c v0))
def xs0b.c (v0 : List (List Int × Int × Int)) (v1 : Int) : List Cell := ⟨(.val .one), [.d .sha (.sl (.pair (.sl (.int .i64)) (.pair (.int .i64) (.int .i64)))) v0], true, false, false, 0, 0⟩ :: vc (iL v1) :: vc (.fn 76 []) :: []
def xs0b.mk (b : (List (List Int × Int × Int))) : R := (⟨(.tup []), []⟩, ⟨(.val .one), [.d .sha (.sl (.pair (.sl (.int .i64)) (.pair (.int .i64) (.int .i64)))) b], true, false, false, 0, 0⟩ :: nn 2 ([]))
def xs0b.un (r : R) : (List (List Int × Int × Int)) := ((leafF r 0 0).dat (.sl (.pair (.sl (.int .i64)) (.pair (.int .i64) (.int .i64)))))
noncomputable def xs0b (v0 : List (List Int × Int × Int)) (v1 : Int) : Option ((List (List Int × Int × Int))) := tOf xs0b.mk (vlim E 105 (xs0b.c v0 v1))
def xs05.c (v0 : List (List Int × Int × Int)) (v1 : Int) (v2 : Int) : List Cell := ⟨(.val .one), [.d .sha (.sl (.pair (.sl (.int .i64)) (.pair (.int .i64) (.int .i64)))) v0], true, false, false, 0, 0⟩ :: vc (iL v1) :: vc (iL v2) :: vc (.fn 76 []) :: []
def xs05.mk (b : (List (List Int × Int × Int))) : R := (⟨(.tup []), []⟩, ⟨(.val .one), [.d .sha (.sl (.pair (.sl (.int .i64)) (.pair (.int .i64) (.int .i64)))) b], true, false, false, 0, 0⟩ :: nn 3 ([]))
def xs05.un (r : R) : (List (List Int × Int × Int)) := ((leafF r 0 0).dat (.sl (.pair (.sl (.int .i64)) (.pair (.int .i64) (.int .i64)))))
noncomputable def xs05 (v0 : List (List Int × Int × Int)) (v1 : Int) (v2 : Int) : Option ((List (List Int × Int × Int))) := tOf xs05.mk (vlim E 116 (xs05.c v0 v1 v2))
def impl_grouped_1.c (v0 : List Int) (v1 : Int) (v2 : Int) (v3 : List Int) (v4 : Int) (v5 : Int) : List Cell := ac [.d .fro (.sl (.int .i64)) v0, iL v1, iL v2] :: ac [.d .fro (.sl (.int .i64)) v3, iL v4, iL v5] :: []
def impl_grouped_1.mk (b : Int) : R := (⟨.one, [iL b]⟩, nn 2 ([]))
def impl_grouped_1.un (r : R) : Int := ((leafR r 0).dat (.int .i64))
noncomputable def impl_grouped_1 (v0 : List Int) (v1 : Int) (v2 : Int) (v3 : List Int) (v4 : Int) (v5 : Int) : Option (Int) := tOf impl_grouped_1.mk (vlim E 76 (impl_grouped_1.c v0 v1 v2 v3 v4 v5))
def xs09.c (v0 : List (List Int × Int × Int)) (v1 : Int) (v2 : Int) (v3 : Int) : List Cell := ⟨(.val .one), [.d .sha (.sl (.pair (.sl (.int .i64)) (.pair (.int .i64) (.int .i64)))) v0], true, false, false, 0, 0⟩ :: vc (iL v1) :: vc (iL v2) :: vc (iL v3) :: vc (.fn 76 []) :: []
def xs09.mk (b : (List (List Int × Int × Int))) : R := (⟨(.tup []), []⟩, ⟨(.val .one), [.d .sha (.sl (.pair (.sl (.int .i64)) (.pair (.int .i64) (.int .i64)))) b], true, false, false, 0, 0⟩ :: nn 4 ([]))
def xs09.un (r : R) : (List (List Int × Int × Int)) := ((leafF r 0 0).dat (.sl (.pair (.sl (.int .i64)) (.pair (.int .i64) (.int .i64)))))
noncomputable def xs09 (v0 : List (List Int × Int × Int)) (v1 : Int) (v2 : Int) (v3 : Int) : Option ((List (List Int × Int × Int))) := tOf xs09.mk (vlim E 117 (xs09.c v0 v1 v2 v3))
def xs0a.c (v0 : List (List Int × Int × Int)) (v1 : Int) (v2 : Int) (v3 : Int) : List Cell := ⟨(.val .one), [.d .sha (.sl (.pair (.sl (.int .i64)) (.pair (.int .i64) (.int .i64)))) v0], true, false, false, 0, 0⟩ :: vc (iL v1) :: vc (iL v2) :: vc (iL v3) :: vc (.fn 76 []) :: []
def xs0a.mk (b : (List (List Int × Int × Int))) : R := (⟨(.tup []), []⟩, ⟨(.val .one), [.d .sha (.sl (.pair (.sl (.int .i64)) (.pair (.int .i64) (.int .i64)))) b], true, false, false, 0, 0⟩ :: nn 4 ([]))
def xs0a.un (r : R) : (List (List Int × Int × Int)) := ((leafF r 0 0).dat (.sl (.pair (.sl (.int .i64)) (.pair (.int .i64) (.int .i64)))))
noncomputable def xs0a (v0 : List (List Int × Int × Int)) (v1 : Int) (v2 : Int) (v3 : Int) : Option ((List (List Int × Int × Int))) := tOf xs0a.mk (vlim E 122 (xs0a.c v0 v1 v2 v3))
def xs08.c (v0 : List (List Int × Int × Int)) (v1 : Int) (v2 : Int) (v3 : Int) : List Cell := ⟨(.val .one), [.d .sha (.sl (.pair (.sl (.int .i64)) (.pair (.int .i64) (.int .i64)))) v0], true, false, false, 0, 0⟩ :: vc (iL v1) :: vc (iL v2) :: vc (iL v3) :: vc (.fn 76 []) :: []
def xs08.mk (b : (List (List Int × Int × Int))) : R := (⟨(.tup []), []⟩, ⟨(.val .one), [.d .sha (.sl (.pair (.sl (.int .i64)) (.pair (.int .i64) (.int .i64)))) b], true, false, false, 0, 0⟩ :: nn 4 ([]))
def xs08.un (r : R) : (List (List Int × Int × Int)) := ((leafF r 0 0).dat (.sl (.pair (.sl (.int .i64)) (.pair (.int .i64) (.int .i64)))))
noncomputable def xs08 (v0 : List (List Int × Int × Int)) (v1 : Int) (v2 : Int) (v3 : Int) : Option ((List (List Int × Int × Int))) := tOf xs08.mk (vlim E 123 (xs08.c v0 v1 v2 v3))
def impl_Row_own.c (v0 : List Int) : List Cell := ac [.d .fro (.sl (.int .i64)) v0] :: []
def impl_Row_own.mk (b : (List Int)) : R := (⟨.agg, [.d .deep (.sl (.int .i64)) b]⟩, nn 1 ([]))
def impl_Row_own.un (r : R) : (List Int) := ((leafR r 0).dat (.sl (.int .i64)))
noncomputable def impl_Row_own (v0 : List Int) : Option ((List Int)) := tOf impl_Row_own.mk (vlim E 77 (impl_Row_own.c v0))
def xs0l.c (v0 : List Int) : List Cell := vc (.d .fro (.sl (.int .i64)) v0) :: []
def xs0l.mk (b : (List Int)) : R := (⟨.one, [.d .deep (.sl (.int .i64)) b]⟩, nn 1 ([]))
def xs0l.un (r : R) : (List Int) := ((leafR r 0).dat (.sl (.int .i64)))
noncomputable def xs0l (v0 : List Int) : Option ((List Int)) := tOf xs0l.mk (vlim E 106 (xs0l.c v0))
def xs03.c (v0 : List (List Int × Int × Int)) : List Cell := vc (.d .deep (.sl (.pair (.sl (.int .i64)) (.pair (.int .i64) (.int .i64)))) v0) :: vc (.fn 79 []) :: []
def xs03.mk (b : (List (List Int × Int × Int))) : R := (⟨.one, [.d .deep (.sl (.pair (.sl (.int .i64)) (.pair (.int .i64) (.int .i64)))) b]⟩, nn 2 ([]))
def xs03.un (r : R) : (List (List Int × Int × Int)) := ((leafR r 0).dat (.sl (.pair (.sl (.int .i64)) (.pair (.int .i64) (.int .i64)))))
noncomputable def xs03 (v0 : List (List Int × Int × Int)) : Option ((List (List Int × Int × Int))) := tOf xs03.mk (vlim E 78 (xs03.c v0))
def xs07.c (v0 : List (List Int × Int × Int)) : List Cell := vc (.d .fro (.sl (.pair (.sl (.int .i64)) (.pair (.int .i64) (.int .i64)))) v0) :: vc (.fn 79 []) :: []
def xs07.mk (b : Int) : R := (⟨.one, [iL b]⟩, nn 2 ([]))
def xs07.un (r : R) : Int := ((leafR r 0).dat (.int .i64))
noncomputable def xs07 (v0 : List (List Int × Int × Int)) : Option (Int) := tOf xs07.mk (vlim E 107 (xs07.c v0))
def impl_grouped_2.c (v0 : List Int) (v1 : Int) (v2 : Int) : List Cell := ac [.d .fro (.sl (.int .i64)) v0, iL v1, iL v2] :: []
def impl_grouped_2.mk (b : Bool) : R := (⟨.one, [bL b]⟩, nn 1 ([]))
def impl_grouped_2.un (r : R) : Bool := ((leafR r 0).dat .bool)
noncomputable def impl_grouped_2 (v0 : List Int) (v1 : Int) (v2 : Int) : Option (Bool) := tOf impl_grouped_2.mk (vlim E 79 (impl_grouped_2.c v0 v1 v2))
def laws_eqGroupS.c (v0 : List (List Int × Int × Int)) (v1 : List (List Int × Int × Int)) : List Cell := vc (.d .fro (.sl (.pair (.sl (.int .i64)) (.pair (.int .i64) (.int .i64)))) v0) :: vc (.d .fro (.sl (.pair (.sl (.int .i64)) (.pair (.int .i64) (.int .i64)))) v1) :: []
def laws_eqGroupS.mk (b : Bool) : R := (⟨.one, [bL b]⟩, nn 2 ([]))
def laws_eqGroupS.un (r : R) : Bool := ((leafR r 0).dat .bool)
noncomputable def laws_eqGroupS (v0 : List (List Int × Int × Int)) (v1 : List (List Int × Int × Int)) : Option (Bool) := tOf laws_eqGroupS.mk (vlim E 11 (laws_eqGroupS.c v0 v1))
def laws_eqGroup.c (v0 : List Int) (v1 : Int) (v2 : Int) (v3 : List Int) (v4 : Int) (v5 : Int) : List Cell := ac [.d .fro (.sl (.int .i64)) v0, iL v1, iL v2] :: ac [.d .fro (.sl (.int .i64)) v3, iL v4, iL v5] :: []
def laws_eqGroup.mk (b : Bool) : R := (⟨.one, [bL b]⟩, nn 2 ([]))
def laws_eqGroup.un (r : R) : Bool := ((leafR r 0).dat .bool)
noncomputable def laws_eqGroup (v0 : List Int) (v1 : Int) (v2 : Int) (v3 : List Int) (v4 : Int) (v5 : Int) : Option (Bool) := tOf laws_eqGroup.mk (vlim E 41 (laws_eqGroup.c v0 v1 v2 v3 v4 v5))
def laws_eqRow.c (v0 : List Int) (v1 : List Int) : List Cell := ac [.d .fro (.sl (.int .i64)) v0] :: ac [.d .fro (.sl (.int .i64)) v1] :: []
def laws_eqRow.mk (b : Bool) : R := (⟨.one, [bL b]⟩, nn 2 ([]))
def laws_eqRow.un (r : R) : Bool := ((leafR r 0).dat .bool)
noncomputable def laws_eqRow (v0 : List Int) (v1 : List Int) : Option (Bool) := tOf laws_eqRow.mk (vlim E 80 (laws_eqRow.c v0 v1))
def laws_eqIntS.c (v0 : List Int) (v1 : List Int) : List Cell := vc (.d .fro (.sl (.int .i64)) v0) :: vc (.d .fro (.sl (.int .i64)) v1) :: []
def laws_eqIntS.mk (b : Bool) : R := (⟨.one, [bL b]⟩, nn 2 ([]))
def laws_eqIntS.un (r : R) : Bool := ((leafR r 0).dat .bool)
noncomputable def laws_eqIntS (v0 : List Int) (v1 : List Int) : Option (Bool) := tOf laws_eqIntS.mk (vlim E 17 (laws_eqIntS.c v0 v1))
def xl0m.c (v0 : List (List Int × Int × Int)) (v1 : Int) : List Cell := ⟨(.val .one), [.d .deep (.sl (.pair (.sl (.int .i64)) (.pair (.int .i64) (.int .i64)))) v0], true, false, false, 0, 0⟩ :: vc (iL v1) :: []
def xl0m.mk (b : Int × (List (List Int × Int × Int))) : R := (⟨.one, [iL b.1]⟩, ⟨(.val .one), [.d .deep (.sl (.pair (.sl (.int .i64)) (.pair (.int .i64) (.int .i64)))) b.2], true, false, false, 0, 0⟩ :: nn 1 ([]))
def xl0m.un (r : R) : Int × (List (List Int × Int × Int)) := ((leafR r 0).dat (.int .i64), (leafF r 0 0).dat (.sl (.pair (.sl (.int .i64)) (.pair (.int .i64) (.int .i64)))))
noncomputable def xl0m (v0 : List (List Int × Int × Int)) (v1 : Int) : Option (Int × (List (List Int × Int × Int))) := tOf xl0m.mk (vlim E 12 (xl0m.c v0 v1))
def laws_markIntS_83f.c (v0 : List Int) (v1 : Int) : List Cell := ⟨(.val .one), [.d .deep (.sl (.int .i64)) v0], true, false, false, 0, 0⟩ :: vc (iL v1) :: []
def laws_markIntS_83f.mk (b : Int × (List Int)) : R := (⟨.one, [iL b.1]⟩, ⟨(.val .one), [.d .deep (.sl (.int .i64)) b.2], true, false, false, 0, 0⟩ :: nn 1 ([]))
def laws_markIntS_83f.un (r : R) : Int × (List Int) := ((leafR r 0).dat (.int .i64), (leafF r 0 0).dat (.sl (.int .i64)))
noncomputable def laws_markIntS_83f (v0 : List Int) (v1 : Int) : Option (Int × (List Int)) := tOf laws_markIntS_83f.mk (vlim E 18 (laws_markIntS_83f.c v0 v1))
def laws_heldGroupS.c (v0 : List (List Int × Int × Int)) (v1 : Int) : List Cell := vc (.d .fro (.sl (.pair (.sl (.int .i64)) (.pair (.int .i64) (.int .i64)))) v0) :: vc (iL v1) :: []
def laws_heldGroupS.mk (b : Int) : R := (⟨.one, [iL b]⟩, nn 2 ([]))
def laws_heldGroupS.un (r : R) : Int := ((leafR r 0).dat (.int .i64))
noncomputable def laws_heldGroupS (v0 : List (List Int × Int × Int)) (v1 : Int) : Option (Int) := tOf laws_heldGroupS.mk (vlim E 13 (laws_heldGroupS.c v0 v1))
def laws_heldIntS.c (v0 : List Int) (v1 : Int) : List Cell := vc (.d .fro (.sl (.int .i64)) v0) :: vc (iL v1) :: []
def laws_heldIntS.mk (b : Int) : R := (⟨.one, [iL b]⟩, nn 2 ([]))
def laws_heldIntS.un (r : R) : Int := ((leafR r 0).dat (.int .i64))
noncomputable def laws_heldIntS (v0 : List Int) (v1 : Int) : Option (Int) := tOf laws_heldIntS.mk (vlim E 42 (laws_heldIntS.c v0 v1))
def spec_l1Pick.c (v0 : List Int) (v1 : List Int) : List Cell := ac [.d .fro (.sl (.int .i64)) v0] :: vc (.d .fro (.sl (.int .i64)) v1) :: []
def spec_l1Pick.mk (b : (List Int)) : R := (⟨.agg, [.d .deep (.sl (.int .i64)) b]⟩, nn 2 ([]))
def spec_l1Pick.un (r : R) : (List Int) := ((leafR r 0).dat (.sl (.int .i64)))
noncomputable def spec_l1Pick (v0 : List Int) (v1 : List Int) : Option ((List Int)) := tOf spec_l1Pick.mk (vlim E 43 (spec_l1Pick.c v0 v1))
def impl_areColumns.c (v0 : List Int) (v1 : Int) : List Cell := vc (.d .fro (.sl (.int .i64)) v0) :: vc (iL v1) :: []
def impl_areColumns.mk (b : Bool) : R := (⟨.one, [bL b]⟩, nn 2 ([]))
def impl_areColumns.un (r : R) : Bool := ((leafR r 0).dat .bool)
noncomputable def impl_areColumns (v0 : List Int) (v1 : Int) : Option (Bool) := tOf impl_areColumns.mk (vlim E 44 (impl_areColumns.c v0 v1))
def xi0f.c (v0 : List Int) (v1 : Int) : List Cell := vc (.d .fro (.sl (.int .i64)) v0) :: vc (.fn 81 [.rp [iL v1] 0]) :: []
def xi0f.mk (b : Bool) : R := (⟨.one, [bL b]⟩, nn 2 ([]))
def xi0f.un (r : R) : Bool := ((leafR r 0).dat .bool)
noncomputable def xi0f (v0 : List Int) (v1 : Int) : Option (Bool) := tOf xi0f.mk (vlim E 45 (xi0f.c v0 v1))
def xs00.c (v0 : List Int) (v1 : Int) : List Cell := vc (.d .fro (.sl (.int .i64)) v0) :: vc (.fn 84 [.rp [.fn 81 [.rp [iL v1] 0]] 0]) :: []
def xs00.mk (b : Bool) : R := (⟨.one, [bL b]⟩, nn 2 ([]))
def xs00.un (r : R) : Bool := ((leafR r 0).dat .bool)
noncomputable def xs00 (v0 : List Int) (v1 : Int) : Option (Bool) := tOf xs00.mk (vlim E 83 (xs00.c v0 v1))
def xs02.c (v0 : List Int) (v1 : Int) : List Cell := vc (.d .fro (.sl (.int .i64)) v0) :: vc (.fn 84 [.rp [.fn 81 [.rp [iL v1] 0]] 0]) :: []
def xs02.mk (b : Int) : R := (⟨.one, [iL b]⟩, nn 2 ([]))
def xs02.un (r : R) : Int := ((leafR r 0).dat (.int .i64))
noncomputable def xs02 (v0 : List Int) (v1 : Int) : Option (Int) := tOf xs02.mk (vlim E 108 (xs02.c v0 v1))
def xi0d.c (v0 : Int) (v1 : Int) : List Cell := vc (iL v0) :: vc (.rp [.fn 81 [.rp [iL v1] 0]] 0) :: []
def xi0d.mk (b : Bool) : R := (⟨.one, [bL b]⟩, nn 2 ([]))
def xi0d.un (r : R) : Bool := ((leafR r 0).dat .bool)
noncomputable def xi0d (v0 : Int) (v1 : Int) : Option (Bool) := tOf xi0d.mk (vlim E 84 (xi0d.c v0 v1))
def impl_areColumns_1.c (v0 : Int) (v1 : Int) : List Cell := vc (iL v0) :: vc (.rp [iL v1] 0) :: []
def impl_areColumns_1.mk (b : Bool) : R := (⟨.one, [bL b]⟩, nn 2 ([]))
def impl_areColumns_1.un (r : R) : Bool := ((leafR r 0).dat .bool)
noncomputable def impl_areColumns_1 (v0 : Int) (v1 : Int) : Option (Bool) := tOf impl_areColumns_1.mk (vlim E 81 (impl_areColumns_1.c v0 v1))
def impl_isPlace.c (v0 : Int) (v1 : Int) : List Cell := vc (iL v0) :: vc (iL v1) :: []
def impl_isPlace.mk (b : Bool) : R := (⟨.one, [bL b]⟩, nn 2 ([]))
def impl_isPlace.un (r : R) : Bool := ((leafR r 0).dat .bool)
noncomputable def impl_isPlace (v0 : Int) (v1 : Int) : Option (Bool) := tOf impl_isPlace.mk (vlim E 82 (impl_isPlace.c v0 v1))
def impl_Row_picked.c (v0 : List Int) (v1 : List Int) : List Cell := ac [.d .fro (.sl (.int .i64)) v0] :: vc (.d .fro (.sl (.int .i64)) v1) :: []
def impl_Row_picked.mk (b : (List Int)) : R := (⟨.agg, [.d .deep (.sl (.int .i64)) b]⟩, nn 2 ([]))
def impl_Row_picked.un (r : R) : (List Int) := ((leafR r 0).dat (.sl (.int .i64)))
noncomputable def impl_Row_picked (v0 : List Int) (v1 : List Int) : Option ((List Int)) := tOf impl_Row_picked.mk (vlim E 47 (impl_Row_picked.c v0 v1))
def xl0i.c (v0 : Int) (v1 : List (List Int × Int)) (v2 : List Int) (v3 : Int) : List Cell := ac [iL v0, .d .fro (.sl (.pair (.sl (.int .i64)) (.int .i64))) v1] :: vc (.d .fro (.sl (.int .i64)) v2) :: vc (iL v3) :: []
def xl0i.mk (b : Bool) : R := (⟨.one, [bL b]⟩, nn 3 ([]))
def xl0i.un (r : R) : Bool := ((leafR r 0).dat .bool)
noncomputable def xl0i (v0 : Int) (v1 : List (List Int × Int)) (v2 : List Int) (v3 : Int) : Option (Bool) := tOf xl0i.mk (vlim E 5 (xl0i.c v0 v1 v2 v3))
def laws_szTable.c (v0 : Int) (v1 : List (List Int × Int)) (v2 : Int) : List Cell := ac [iL v0, .d .fro (.sl (.pair (.sl (.int .i64)) (.int .i64))) v1] :: vc (iL v2) :: []
def laws_szTable.mk (b : Int) : R := (⟨.one, [iL b]⟩, nn 2 ([]))
def laws_szTable.un (r : R) : Int := ((leafR r 0).dat (.int .i64))
noncomputable def laws_szTable (v0 : Int) (v1 : List (List Int × Int)) (v2 : Int) : Option (Int) := tOf laws_szTable.mk (vlim E 19 (laws_szTable.c v0 v1 v2))
def laws_szWeightedS.c (v0 : List (List Int × Int)) (v1 : Int) : List Cell := vc (.d .fro (.sl (.pair (.sl (.int .i64)) (.int .i64))) v0) :: vc (iL v1) :: []
def laws_szWeightedS.mk (b : Int) : R := (⟨.one, [iL b]⟩, nn 2 ([]))
def laws_szWeightedS.un (r : R) : Int := ((leafR r 0).dat (.int .i64))
noncomputable def laws_szWeightedS (v0 : List (List Int × Int)) (v1 : Int) : Option (Int) := tOf laws_szWeightedS.mk (vlim E 48 (laws_szWeightedS.c v0 v1))
def laws_szWeighted.c (v0 : List Int) (v1 : Int) (v2 : Int) : List Cell := ac [.d .fro (.sl (.int .i64)) v0, iL v1] :: vc (iL v2) :: []
def laws_szWeighted.mk (b : Int) : R := (⟨.one, [iL b]⟩, nn 2 ([]))
def laws_szWeighted.un (r : R) : Int := ((leafR r 0).dat (.int .i64))
noncomputable def laws_szWeighted (v0 : List Int) (v1 : Int) (v2 : Int) : Option (Int) := tOf laws_szWeighted.mk (vlim E 85 (laws_szWeighted.c v0 v1 v2))
def laws_toTable.c (v0 : Int) (v1 : List (List Int × Int)) : List Cell := ac [iL v0, .d .fro (.sl (.pair (.sl (.int .i64)) (.int .i64))) v1] :: []
def laws_toTable.mk (b : Int × (List (List Int × Int))) : R := (⟨.agg, [iL b.1, .d .deep (.sl (.pair (.sl (.int .i64)) (.int .i64))) b.2]⟩, nn 1 ([]))
def laws_toTable.un (r : R) : Int × (List (List Int × Int)) := ((leafR r 0).dat (.int .i64), (leafR r 1).dat (.sl (.pair (.sl (.int .i64)) (.int .i64))))
noncomputable def laws_toTable (v0 : Int) (v1 : List (List Int × Int)) : Option (Int × (List (List Int × Int))) := tOf laws_toTable.mk (vlim E 21 (laws_toTable.c v0 v1))
def laws_toWeightedS.c (v0 : List (List Int × Int)) : List Cell := vc (.d .fro (.sl (.pair (.sl (.int .i64)) (.int .i64))) v0) :: []
def laws_toWeightedS.mk (b : (List (List Int × Int))) : R := (⟨.one, [.d .deep (.sl (.pair (.sl (.int .i64)) (.int .i64))) b]⟩, nn 1 ([]))
def laws_toWeightedS.un (r : R) : (List (List Int × Int)) := ((leafR r 0).dat (.sl (.pair (.sl (.int .i64)) (.int .i64))))
noncomputable def laws_toWeightedS (v0 : List (List Int × Int)) : Option ((List (List Int × Int))) := tOf laws_toWeightedS.mk (vlim E 51 (laws_toWeightedS.c v0))
def laws_toWeighted.c (v0 : List Int) (v1 : Int) : List Cell := ac [.d .fro (.sl (.int .i64)) v0, iL v1] :: []
def laws_toWeighted.mk (b : (List Int) × Int) : R := (⟨.agg, [.d .deep (.sl (.int .i64)) b.1, iL b.2]⟩, nn 1 ([]))
def laws_toWeighted.un (r : R) : (List Int) × Int := ((leafR r 0).dat (.sl (.int .i64)), (leafR r 1).dat (.int .i64))
noncomputable def laws_toWeighted (v0 : List Int) (v1 : Int) : Option ((List Int) × Int) := tOf laws_toWeighted.mk (vlim E 88 (laws_toWeighted.c v0 v1))
def spec_GroupTable.c (v0 : Int) (v1 : List (List Int × Int)) (v2 : List Int) (v3 : Int) : List Cell := ac [iL v0, .d .fro (.sl (.pair (.sl (.int .i64)) (.int .i64))) v1] :: vc (.d .fro (.sl (.int .i64)) v2) :: vc (iL v3) :: []
def spec_GroupTable.mk (b : (List (List Int × Int × Int)) × Bool) : R := (⟨(.tup [none, none]), [.d .deep (.sl (.pair (.sl (.int .i64)) (.pair (.int .i64) (.int .i64)))) b.1, bL b.2]⟩, nn 3 ([]))
def spec_GroupTable.un (r : R) : (List (List Int × Int × Int)) × Bool := ((leafR r 0).dat (.sl (.pair (.sl (.int .i64)) (.pair (.int .i64) (.int .i64)))), (leafR r 1).dat .bool)
noncomputable def spec_GroupTable (v0 : Int) (v1 : List (List Int × Int)) (v2 : List Int) (v3 : Int) : Option ((List (List Int × Int × Int)) × Bool) := tOf spec_GroupTable.mk (vlim E 20 (spec_GroupTable.c v0 v1 v2 v3))
def spec_GoodTable.c (v0 : Int) (v1 : List (List Int × Int)) : List Cell := ac [iL v0, .d .fro (.sl (.pair (.sl (.int .i64)) (.int .i64))) v1] :: []
def spec_GoodTable.mk (b : Bool) : R := (⟨.one, [bL b]⟩, nn 1 ([]))
def spec_GoodTable.un (r : R) : Bool := ((leafR r 0).dat .bool)
noncomputable def spec_GoodTable (v0 : Int) (v1 : List (List Int × Int)) : Option (Bool) := tOf spec_GoodTable.mk (vlim E 49 (spec_GoodTable.c v0 v1))
def spec_l2Weight.c (v0 : Int) : List Cell := vc (iL v0) :: []
def spec_l2Weight.mk (b : Bool) : R := (⟨.one, [bL b]⟩, nn 1 ([]))
def spec_l2Weight.un (r : R) : Bool := ((leafR r 0).dat .bool)
noncomputable def spec_l2Weight (v0 : Int) : Option (Bool) := tOf spec_l2Weight.mk (vlim E 86 (spec_l2Weight.c v0))
def spec_l1Columns.c (v0 : List Int) (v1 : Int) : List Cell := vc (.d .fro (.sl (.int .i64)) v0) :: vc (iL v1) :: []
def spec_l1Columns.mk (b : Bool) : R := (⟨.one, [bL b]⟩, nn 2 ([]))
def spec_l1Columns.un (r : R) : Bool := ((leafR r 0).dat .bool)
noncomputable def spec_l1Columns (v0 : List Int) (v1 : Int) : Option (Bool) := tOf spec_l1Columns.mk (vlim E 50 (spec_l1Columns.c v0 v1))
def impl_GroupTable.c (v0 : Int) (v1 : List (List Int × Int)) (v2 : List Int) (v3 : Int) : List Cell := ac [iL v0, .d .fro (.sl (.pair (.sl (.int .i64)) (.int .i64))) v1] :: vc (.d .fro (.sl (.int .i64)) v2) :: vc (iL v3) :: []
def impl_GroupTable.mk (b : (List (List Int × Int × Int)) × Bool) : R := (⟨(.tup [none, none]), [.d .deep (.sl (.pair (.sl (.int .i64)) (.pair (.int .i64) (.int .i64)))) b.1, bL b.2]⟩, nn 3 ([]))
def impl_GroupTable.un (r : R) : (List (List Int × Int × Int)) × Bool := ((leafR r 0).dat (.sl (.pair (.sl (.int .i64)) (.pair (.int .i64) (.int .i64)))), (leafR r 1).dat .bool)
noncomputable def impl_GroupTable (v0 : Int) (v1 : List (List Int × Int)) (v2 : List Int) (v3 : Int) : Option ((List (List Int × Int × Int)) × Bool) := tOf impl_GroupTable.mk (vlim E 22 (impl_GroupTable.c v0 v1 v2 v3))
def impl_GoodTable.c (v0 : Int) (v1 : List (List Int × Int)) : List Cell := ac [iL v0, .d .fro (.sl (.pair (.sl (.int .i64)) (.int .i64))) v1] :: []
def impl_GoodTable.mk (b : Bool) : R := (⟨.one, [bL b]⟩, nn 1 ([]))
def impl_GoodTable.un (r : R) : Bool := ((leafR r 0).dat .bool)
noncomputable def impl_GoodTable (v0 : Int) (v1 : List (List Int × Int)) : Option (Bool) := tOf impl_GoodTable.mk (vlim E 52 (impl_GoodTable.c v0 v1))
def impl_isColumns.c (v0 : Int) : List Cell := vc (iL v0) :: []
def impl_isColumns.mk (b : Bool) : R := (⟨.one, [bL b]⟩, nn 1 ([]))
def impl_isColumns.un (r : R) : Bool := ((leafR r 0).dat .bool)
noncomputable def impl_isColumns (v0 : Int) : Option (Bool) := tOf impl_isColumns.mk (vlim E 89 (impl_isColumns.c v0))
def impl_isWeight.c (v0 : Int) : List Cell := vc (iL v0) :: []
def impl_isWeight.mk (b : Bool) : R := (⟨.one, [bL b]⟩, nn 1 ([]))
def impl_isWeight.un (r : R) : Bool := ((leafR r 0).dat .bool)
noncomputable def impl_isWeight (v0 : Int) : Option (Bool) := tOf impl_isWeight.mk (vlim E 90 (impl_isWeight.c v0))
def laws_eqTable.c (v0 : Int) (v1 : List (List Int × Int)) (v2 : Int) (v3 : List (List Int × Int)) : List Cell := ac [iL v0, .d .fro (.sl (.pair (.sl (.int .i64)) (.int .i64))) v1] :: ac [iL v2, .d .fro (.sl (.pair (.sl (.int .i64)) (.int .i64))) v3] :: []
def laws_eqTable.mk (b : Bool) : R := (⟨.one, [bL b]⟩, nn 2 ([]))
def laws_eqTable.un (r : R) : Bool := ((leafR r 0).dat .bool)
noncomputable def laws_eqTable (v0 : Int) (v1 : List (List Int × Int)) (v2 : Int) (v3 : List (List Int × Int)) : Option (Bool) := tOf laws_eqTable.mk (vlim E 23 (laws_eqTable.c v0 v1 v2 v3))
def laws_eqWeightedS.c (v0 : List (List Int × Int)) (v1 : List (List Int × Int)) : List Cell := vc (.d .fro (.sl (.pair (.sl (.int .i64)) (.int .i64))) v0) :: vc (.d .fro (.sl (.pair (.sl (.int .i64)) (.int .i64))) v1) :: []
def laws_eqWeightedS.mk (b : Bool) : R := (⟨.one, [bL b]⟩, nn 2 ([]))
def laws_eqWeightedS.un (r : R) : Bool := ((leafR r 0).dat .bool)
noncomputable def laws_eqWeightedS (v0 : List (List Int × Int)) (v1 : List (List Int × Int)) : Option (Bool) := tOf laws_eqWeightedS.mk (vlim E 54 (laws_eqWeightedS.c v0 v1))
def laws_eqWeighted.c (v0 : List Int) (v1 : Int) (v2 : List Int) (v3 : Int) : List Cell := ac [.d .fro (.sl (.int .i64)) v0, iL v1] :: ac [.d .fro (.sl (.int .i64)) v2, iL v3] :: []
def laws_eqWeighted.mk (b : Bool) : R := (⟨.one, [bL b]⟩, nn 2 ([]))
def laws_eqWeighted.un (r : R) : Bool := ((leafR r 0).dat .bool)
noncomputable def laws_eqWeighted (v0 : List Int) (v1 : Int) (v2 : List Int) (v3 : Int) : Option (Bool) := tOf laws_eqWeighted.mk (vlim E 91 (laws_eqWeighted.c v0 v1 v2 v3))
def laws_markTable_d7a.c (v0 : Int) (v1 : List (List Int × Int)) (v2 : Int) : List Cell := ⟨(.val .agg), [iL v0, .d .deep (.sl (.pair (.sl (.int .i64)) (.int .i64))) v1], true, false, false, 0, 0⟩ :: vc (iL v2) :: []
def laws_markTable_d7a.mk (b : Int × Int × (List (List Int × Int))) : R := (⟨.one, [iL b.1]⟩, ⟨(.val .agg), [iL b.2.1, .d .deep (.sl (.pair (.sl (.int .i64)) (.int .i64))) b.2.2], true, false, false, 0, 0⟩ :: nn 1 ([]))
def laws_markTable_d7a.un (r : R) : Int × Int × (List (List Int × Int)) := ((leafR r 0).dat (.int .i64), (leafF r 0 0).dat (.int .i64), (leafF r 0 1).dat (.sl (.pair (.sl (.int .i64)) (.int .i64))))
noncomputable def laws_markTable_d7a (v0 : Int) (v1 : List (List Int × Int)) (v2 : Int) : Option (Int × Int × (List (List Int × Int))) := tOf laws_markTable_d7a.mk (vlim E 24 (laws_markTable_d7a.c v0 v1 v2))
def xl0j.c (v0 : List (List Int × Int)) (v1 : Int) : List Cell := ⟨(.val .one), [.d .deep (.sl (.pair (.sl (.int .i64)) (.int .i64))) v0], true, false, false, 0, 0⟩ :: vc (iL v1) :: []
def xl0j.mk (b : Int × (List (List Int × Int))) : R := (⟨.one, [iL b.1]⟩, ⟨(.val .one), [.d .deep (.sl (.pair (.sl (.int .i64)) (.int .i64))) b.2], true, false, false, 0, 0⟩ :: nn 1 ([]))
def xl0j.un (r : R) : Int × (List (List Int × Int)) := ((leafR r 0).dat (.int .i64), (leafF r 0 0).dat (.sl (.pair (.sl (.int .i64)) (.int .i64))))
noncomputable def xl0j (v0 : List (List Int × Int)) (v1 : Int) : Option (Int × (List (List Int × Int))) := tOf xl0j.mk (vlim E 55 (xl0j.c v0 v1))
def tabT : List (Nat × List (List Cell × Tb)) := [
 (5, [(xl0i.c 0 [] [] 0, .one (Bool) xl0i.mk)]),
 (11, [(laws_eqGroupS.c [] [], .one (Bool) laws_eqGroupS.mk)]),
 (12, [(xl0m.c [] 0, .one (Int × (List (List Int × Int × Int))) xl0m.mk)]),
 (13, [(laws_heldGroupS.c [] 0, .one (Int) laws_heldGroupS.mk)]),
 (15, [(laws_toIntS.c [], .one ((List Int)) laws_toIntS.mk)]),
 (17, [(laws_eqIntS.c [] [], .one (Bool) laws_eqIntS.mk)]),
 (18, [(laws_markIntS_83f.c [] 0, .one (Int × (List Int)) laws_markIntS_83f.mk)]),
 (19, [(laws_szTable.c 0 [] 0, .one (Int) laws_szTable.mk)]),
 (20, [(spec_GroupTable.c 0 [] [] 0, .one ((List (List Int × Int × Int)) × Bool) spec_GroupTable.mk)]),
 (21, [(laws_toTable.c 0 [], .one (Int × (List (List Int × Int))) laws_toTable.mk)]),
 (22, [(impl_GroupTable.c 0 [] [] 0, .one ((List (List Int × Int × Int)) × Bool) impl_GroupTable.mk)]),
 (23, [(laws_eqTable.c 0 [] 0 [], .one (Bool) laws_eqTable.mk)]),
 (24, [(laws_markTable_d7a.c 0 [] 0, .one (Int × Int × (List (List Int × Int))) laws_markTable_d7a.mk)]),
 (34, [(spec_GoodGroups.c [], .one (Bool) spec_GoodGroups.mk)]),
 (35, [(spec_l5Put.c [] [] 0 0, .one ((List (List Int × Int × Int))) spec_l5Put.mk)]),
 (36, [(spec_l5Tell.c [], .one ((List (List Int × Int × Int)) × Bool) spec_l5Tell.mk)]),
 (38, [(impl_GoodGroups.c [], .one (Bool) impl_GoodGroups.mk)]),
 (39, [(impl_keyLength.c [], .one (Int) impl_keyLength.mk)]),
 (40, [(impl_grouped.c [], .one ((List (List Int × Int × Int)) × Bool) impl_grouped.mk)]),
 (41, [(laws_eqGroup.c [] 0 0 [] 0 0, .one (Bool) laws_eqGroup.mk)]),
 (42, [(laws_heldIntS.c [] 0, .one (Int) laws_heldIntS.mk)]),
 (43, [(spec_l1Pick.c [] [], .one ((List Int)) spec_l1Pick.mk)]),
 (44, [(impl_areColumns.c [] 0, .one (Bool) impl_areColumns.mk)]),
 (45, [(xi0h.c [], .one (Bool) xi0h.mk), (xi0f.c [] 0, .one (Bool) xi0f.mk)]),
 (47, [(impl_Row_picked.c [] [], .one ((List Int)) impl_Row_picked.mk)]),
 (48, [(laws_szWeightedS.c [] 0, .one (Int) laws_szWeightedS.mk)]),
 (49, [(spec_GoodTable.c 0 [], .one (Bool) spec_GoodTable.mk)]),
 (50, [(spec_l1Columns.c [] 0, .one (Bool) spec_l1Columns.mk)]),
 (51, [(laws_toWeightedS.c [], .one ((List (List Int × Int))) laws_toWeightedS.mk)]),
 (52, [(impl_GoodTable.c 0 [], .one (Bool) impl_GoodTable.mk)]),
 (53, [(impl_within.c 0 0 0, .one (Bool) impl_within.mk)]),
 (54, [(laws_eqWeightedS.c [] [], .one (Bool) laws_eqWeightedS.mk)]),
 (55, [(xl0j.c [] 0, .one (Int × (List (List Int × Int))) xl0j.mk)]),
 (60, [(impl_isSum.c 0, .one (Bool) impl_isSum.mk)]),
 (62, [(impl_isCell.c 0, .one (Bool) impl_isCell.mk)]),
 (66, [(laws_szRow.c [] 0, .one (Int) laws_szRow.mk)]),
 (67, [(spec_GoodRow.c [], .one (Bool) spec_GoodRow.mk)]),
 (68, [(spec_l5Sum.c 0, .one (Bool) spec_l5Sum.mk)]),
 (69, [(spec_l1Compare.c [] [], .one (Int) spec_l1Compare.mk)]),
 (70, [(spec_l2OwnRow.c [], .one ((List Int)) spec_l2OwnRow.mk)]),
 (71, [(laws_toRow.c [], .one ((List Int)) laws_toRow.mk)]),
 (72, [(impl_isRowOf.c [] 0, .one (Bool) impl_isRowOf.mk)]),
 (73, [(impl_compareRows.c [] [], .one (Int) impl_compareRows.mk)]),
 (74, [(xs0e.c [], .one ((List (List Int × Int × Int))) xs0e.mk)]),
 (75, [(xs01.c [], .one ((List (List Int × Int × Int))) xs01.mk)]),
 (76, [(impl_grouped_1.c [] 0 0 [] 0 0, .one (Int) impl_grouped_1.mk)]),
 (77, [(impl_Row_own.c [], .one ((List Int)) impl_Row_own.mk)]),
 (78, [(xs03.c [], .one ((List (List Int × Int × Int))) xs03.mk)]),
 (79, [(impl_grouped_2.c [] 0 0, .one (Bool) impl_grouped_2.mk)]),
 (80, [(laws_eqRow.c [] [], .one (Bool) laws_eqRow.mk)]),
 (81, [(impl_areColumns_1.c 0 0, .one (Bool) impl_areColumns_1.mk)]),
 (82, [(impl_isPlace.c 0 0, .one (Bool) impl_isPlace.mk)]),
 (83, [(xs04.c [], .one (Bool) xs04.mk), (xs00.c [] 0, .one (Bool) xs00.mk)]),
 (84, [(xi0g.c 0, .one (Bool) xi0g.mk), (xi0d.c 0 0, .one (Bool) xi0d.mk)]),
 (85, [(laws_szWeighted.c [] 0 0, .one (Int) laws_szWeighted.mk)]),
 (86, [(spec_l2Weight.c 0, .one (Bool) spec_l2Weight.mk)]),
 (87, [(spec_l1In.c 0 0 0, .one (Bool) spec_l1In.mk)]),
 (88, [(laws_toWeighted.c [] 0, .one ((List Int) × Int) laws_toWeighted.mk)]),
 (89, [(impl_isColumns.c 0, .one (Bool) impl_isColumns.mk)]),
 (90, [(impl_isWeight.c 0, .one (Bool) impl_isWeight.mk)]),
 (91, [(laws_eqWeighted.c [] 0 [] 0, .one (Bool) laws_eqWeighted.mk)]),
 (101, [(laws_szIntS.c [] 0, .one (Int) laws_szIntS.mk)]),
 (102, [(impl_GoodRow.c [], .one (Bool) impl_GoodRow.mk)]),
 (103, [(xs0k.c [] [], .one (Int) xs0k.mk)]),
 (104, [(xs0c.c 0, .one ((List (List Int × Int × Int))) xs0c.mk)]),
 (105, [(xs0b.c [] 0, .one ((List (List Int × Int × Int))) xs0b.mk)]),
 (106, [(xs0l.c [], .one ((List Int)) xs0l.mk)]),
 (107, [(xs07.c [], .one (Int) xs07.mk)]),
 (108, [(xs06.c [], .one (Int) xs06.mk), (xs02.c [] 0, .one (Int) xs02.mk)]),
 (115, [(cmp_Compare_int.c 0 0, .one (Int) cmp_Compare_int.mk)]),
 (116, [(xs05.c [] 0 0, .one ((List (List Int × Int × Int))) xs05.mk)]),
 (117, [(xs09.c [] 0 0 0, .one ((List (List Int × Int × Int))) xs09.mk)]),
 (121, [(cmp_isNaN_int.c 0, .one (Bool) cmp_isNaN_int.mk)]),
 (122, [(xs0a.c [] 0 0 0, .one ((List (List Int × Int × Int))) xs0a.mk)]),
 (123, [(xs08.c [] 0 0 0, .one ((List (List Int × Int × Int))) xs08.mk)])]
def tab : FuncId → List Cell → Tb := fun g cs => match assoc tabT g with | some l => pickT l cs | none => .no
end GoV

/- Equations of the program's functions (printed by wip/tools/emit.py). -/
namespace GoV
open Go Go.Proofs
set_option maxRecDepth 100000

noncomputable def laws_szRow.t {γ : Type} (ret : (Int) → Option γ) (v0 : List Int) (v1 : Int) : Option γ :=
 (laws_szIntS (v0) (v1)).bind fun (r0 : Int) =>
 bif decide (r0 < (0 : Int)) then
  ret ((-1 : Int))
 else
  ret (r0)
theorem laws_szRow.k (v0 : List Int) (v1 : Int) : topL E (callT E tab) 66 Try.f66 (laws_szRow.c v0 v1) = laws_szRow.t (fun b => some (laws_szRow.mk b)) v0 v1 := by kernel_rfl
theorem laws_szRow.eq (v0 : List Int) (v1 : Int) {b : Int} (h : laws_szRow.t some v0 v1 = some b) : laws_szRow v0 v1 = some b := tOf_intro laws_szRow.un (fun _ => by kernel_rfl) (vlim_fn (callT_le E tab) rfl rfl rfl ((laws_szRow.k v0 v1).trans ((by unfold laws_szRow.t; repeat' first | exact Sub.ret | exact Sub.none | exact Sub.loop | apply Sub.cond | (apply Sub.bind; intro _) : Sub laws_szRow.mk _ _) b h)))
noncomputable def laws_szIntS.t {γ : Type} (ret : (Int) → Option γ) (v0 : List Int) (v1 : Int) : Option γ :=
 bif decide (IntKind.i64.wrap (v1 - (↑v0.length : Int)) < (0 : Int)) then
  ret ((-1 : Int))
 else
  ret (IntKind.i64.wrap (v1 - (↑v0.length : Int)))
theorem laws_szIntS.k (v0 : List Int) (v1 : Int) : topL E (callT E tab) 101 Try.f101 (laws_szIntS.c v0 v1) = laws_szIntS.t (fun b => some (laws_szIntS.mk b)) v0 v1 := by kernel_rfl
theorem laws_szIntS.eq (v0 : List Int) (v1 : Int) {b : Int} (h : laws_szIntS.t some v0 v1 = some b) : laws_szIntS v0 v1 = some b := tOf_intro laws_szIntS.un (fun _ => by kernel_rfl) (vlim_fn (callT_le E tab) rfl rfl rfl ((laws_szIntS.k v0 v1).trans ((by unfold laws_szIntS.t; repeat' first | exact Sub.ret | exact Sub.none | exact Sub.loop | apply Sub.cond | (apply Sub.bind; intro _) : Sub laws_szIntS.mk _ _) b h)))
noncomputable def laws_toRow.t {γ : Type} (ret : ((List Int)) → Option γ) (v0 : List Int) : Option γ :=
 (laws_toIntS (v0)).bind fun (r0 : (List Int)) =>
 ret (r0)
theorem laws_toRow.k (v0 : List Int) : topL E (callT E tab) 71 Try.f71 (laws_toRow.c v0) = laws_toRow.t (fun b => some (laws_toRow.mk b)) v0 := by kernel_rfl
theorem laws_toRow.eq (v0 : List Int) {b : (List Int)} (h : laws_toRow.t some v0 = some b) : laws_toRow v0 = some b := tOf_intro laws_toRow.un (fun _ => by kernel_rfl) (vlim_fn (callT_le E tab) rfl rfl rfl ((laws_toRow.k v0).trans ((by unfold laws_toRow.t; repeat' first | exact Sub.ret | exact Sub.none | exact Sub.loop | apply Sub.cond | (apply Sub.bind; intro _) : Sub laws_toRow.mk _ _) b h)))
noncomputable def laws_toIntS.q3 (v0 : List Int) (v1 : List Int) (v2 : Int) : Option R := loopAtL E (callT E tab) 15 Try.f15 1 [.r, .r, .l, .r, .b] (vc (.d .fro (.sl (.int .i64)) v0) :: nn 2 (vc (.d .deep (.sl (.int .i64)) v1) :: vc (iL v2) :: nn 17 ([])))
noncomputable def laws_toIntS.l3 (v0 : List Int) (v1 : List Int) (v2 : Int) : Option ((List Int)) := tOf laws_toIntS.mk (laws_toIntS.q3 v0 v1 v2)
noncomputable def laws_toIntS.t {γ : Type} (ret : ((List Int)) → Option γ) (lp3 : (List Int) → (List Int) → Int → Option γ) (v0 : List Int) : Option γ :=
 bif decide ((↑v0.length : Int) = (↑v0.length : Int)) then
  bif decide ((↑v0.length : Int) ≤ (↑(4294967296 : Nat) : Int)) then
   lp3 (v0) (List.replicate (↑v0.length : Int).toNat (0 : Int)) ((0 : Int))
  else
   none
 else
  none
noncomputable def laws_toIntS.t3 {γ : Type} (ret : ((List Int)) → Option γ) (lp3 : (List Int) → (List Int) → Int → Option γ) (v0 : List Int) (v1 : List Int) (v2 : Int) : Option γ :=
 bif decide (v2 < (↑v0.length : Int)) then
  bif decide ((0 : Int) ≤ v2) then
   bif decide (v2.toNat < v0.length) then
    bif decide ((0 : Int) ≤ v2) then
     bif decide (v2.toNat < v1.length) then
      bif decide (v2.toNat < v1.length) then
       lp3 (v0) (v1.set v2.toNat (v0.getD v2.toNat (0 : Int))) (IntKind.i64.wrap (v2 + (1 : Int)))
      else
       none
     else
      none
    else
     none
   else
    none
  else
   none
 else
  ret (v1)
theorem laws_toIntS.k (v0 : List Int) : topL E (callT E tab) 15 Try.f15 (laws_toIntS.c v0) = laws_toIntS.t (fun b => some (laws_toIntS.mk b)) laws_toIntS.q3 v0 := by kernel_rfl
theorem laws_toIntS.k3 (v0 : List Int) (v1 : List Int) (v2 : Int) : roundL E (callT E tab) 15 Try.f15 1 [.r, .r, .l, .r, .b] (vc (.d .fro (.sl (.int .i64)) v0) :: nn 2 (vc (.d .deep (.sl (.int .i64)) v1) :: vc (iL v2) :: nn 17 ([]))) = laws_toIntS.t3 (fun b => some (laws_toIntS.mk b)) laws_toIntS.q3 v0 v1 v2 := by kernel_rfl
theorem laws_toIntS.eq (v0 : List Int) {b : (List Int)} (h : laws_toIntS.t some laws_toIntS.l3 v0 = some b) : laws_toIntS v0 = some b := tOf_intro laws_toIntS.un (fun _ => by kernel_rfl) (vlim_fn (callT_le E tab) rfl rfl rfl ((laws_toIntS.k v0).trans ((by unfold laws_toIntS.t; repeat' first | exact Sub.ret | exact Sub.none | exact Sub.loop | apply Sub.cond | (apply Sub.bind; intro _) : Sub laws_toIntS.mk _ _) b h)))
theorem laws_toIntS.eq3 (v0 : List Int) (v1 : List Int) (v2 : Int) {b : (List Int)} (h : laws_toIntS.t3 some laws_toIntS.l3 v0 v1 v2 = some b) : laws_toIntS.l3 v0 v1 v2 = some b := tOf_intro laws_toIntS.un (fun _ => by kernel_rfl) (loopAtL_step ((laws_toIntS.k3 v0 v1 v2).trans ((by unfold laws_toIntS.t3; repeat' first | exact Sub.ret | exact Sub.none | exact Sub.loop | apply Sub.cond | (apply Sub.bind; intro _) : Sub laws_toIntS.mk _ _) b h)))
noncomputable def spec_GoodGroups.q2 (v0 : List (List Int × Int × Int)) (v1 : List (List Int × Int × Int)) (v2 : Int) (v3 : Int) : Option R := loopAtL E (callT E tab) 34 Try.f34 1 [.r, .l, .r, .b] (vc (.d .fro (.sl (.pair (.sl (.int .i64)) (.pair (.int .i64) (.int .i64)))) v0) :: nn 4 (vc (.d .fro (.sl (.pair (.sl (.int .i64)) (.pair (.int .i64) (.int .i64)))) v1) :: vc (iL v2) :: vc (iL v3) :: nn 63 ([])))
noncomputable def spec_GoodGroups.l2 (v0 : List (List Int × Int × Int)) (v1 : List (List Int × Int × Int)) (v2 : Int) (v3 : Int) : Option (Bool) := tOf spec_GoodGroups.mk (spec_GoodGroups.q2 v0 v1 v2 v3)
noncomputable def spec_GoodGroups.t {γ : Type} (ret : (Bool) → Option γ) (lp2 : (List (List Int × Int × Int)) → (List (List Int × Int × Int)) → Int → Int → Option γ) (v0 : List (List Int × Int × Int)) : Option γ :=
 lp2 (v0) (v0) ((↑v0.length : Int)) ((0 : Int))
noncomputable def spec_GoodGroups.t2 {γ : Type} (ret : (Bool) → Option γ) (lp2 : (List (List Int × Int × Int)) → (List (List Int × Int × Int)) → Int → Int → Option γ) (v0 : List (List Int × Int × Int)) (v1 : List (List Int × Int × Int)) (v2 : Int) (v3 : Int) : Option γ :=
 bif decide (v3 < v2) then
  bif decide ((0 : Int) ≤ v3) then
   bif decide (v3.toNat < v1.length) then
    (spec_GoodRow ((v1.getD v3.toNat ([], (0 : Int), (0 : Int))).fst)).bind fun (r0 : Bool) =>
    bif !r0 then
     ret (Bool.false)
    else
     bif decide (Int.toNat (0 : Int) < v0.length) then
      bif (↑(v1.getD v3.toNat ([], (0 : Int), (0 : Int))).fst.length : Int) !=   (↑(v0.getD (Int.toNat (0 : Int)) ([], (0 : Int), (0 : Int))).fst.length : Int) then
       ret (Bool.false)
      else
       (spec_l5Sum ((v1.getD v3.toNat ([], (0 : Int), (0 : Int))).snd.fst)).bind fun (r1 : Bool) =>
       bif !r1 then
        ret (Bool.false)
       else
        (spec_l5Sum ((v1.getD v3.toNat ([], (0 : Int), (0 : Int))).snd.snd)).bind fun (r2 : Bool) =>
        bif !r2 then
         ret (Bool.false)
        else
         bif (v1.getD v3.toNat ([], (0 : Int), (0 : Int))).snd.fst == (0 : Int) then
          bif (v1.getD v3.toNat ([], (0 : Int), (0 : Int))).snd.snd == (0 : Int) then
           ret (Bool.false)
          else
           bif decide (v3 > (0 : Int)) then
            bif decide ((0 : Int) ≤ IntKind.i64.wrap (v3 - (1 : Int))) then
             bif decide ((IntKind.i64.wrap (v3 - (1 : Int))).toNat < v0.length) then
              (spec_l1Compare ((v0.getD (IntKind.i64.wrap (v3 - (1 : Int))).toNat ([], (0 : Int), (0 : Int))).fst) ((v1.getD v3.toNat ([], (0 : Int), (0 : Int))).fst)).bind fun (r3 : Int) =>
              bif decide (r3 ≥ (0 : Int)) then
               ret (Bool.false)
              else
               lp2 (v0) (v1) (v2) (IntKind.i64.wrap (v3 + (1 : Int)))
             else
              none
            else
             none
           else
            lp2 (v0) (v1) (v2) (IntKind.i64.wrap (v3 + (1 : Int)))
         else
          bif decide (v3 > (0 : Int)) then
           bif decide ((0 : Int) ≤ IntKind.i64.wrap (v3 - (1 : Int))) then
            bif decide ((IntKind.i64.wrap (v3 - (1 : Int))).toNat < v0.length) then
             (spec_l1Compare ((v0.getD (IntKind.i64.wrap (v3 - (1 : Int))).toNat ([], (0 : Int), (0 : Int))).fst) ((v1.getD v3.toNat ([], (0 : Int), (0 : Int))).fst)).bind fun (r4 : Int) =>
             bif decide (r4 ≥ (0 : Int)) then
              ret (Bool.false)
             else
              lp2 (v0) (v1) (v2) (IntKind.i64.wrap (v3 + (1 : Int)))
            else
             none
           else
            none
          else
           lp2 (v0) (v1) (v2) (IntKind.i64.wrap (v3 + (1 : Int)))
     else
      none
   else
    none
  else
   none
 else
  ret (decide ((↑v0.length : Int) ≤ (60 : Int)))
theorem spec_GoodGroups.k (v0 : List (List Int × Int × Int)) : topL E (callT E tab) 34 Try.f34 (spec_GoodGroups.c v0) = spec_GoodGroups.t (fun b => some (spec_GoodGroups.mk b)) spec_GoodGroups.q2 v0 := by kernel_rfl
theorem spec_GoodGroups.k2 (v0 : List (List Int × Int × Int)) (v1 : List (List Int × Int × Int)) (v2 : Int) (v3 : Int) : roundL E (callT E tab) 34 Try.f34 1 [.r, .l, .r, .b] (vc (.d .fro (.sl (.pair (.sl (.int .i64)) (.pair (.int .i64) (.int .i64)))) v0) :: nn 4 (vc (.d .fro (.sl (.pair (.sl (.int .i64)) (.pair (.int .i64) (.int .i64)))) v1) :: vc (iL v2) :: vc (iL v3) :: nn 63 ([]))) = spec_GoodGroups.t2 (fun b => some (spec_GoodGroups.mk b)) spec_GoodGroups.q2 v0 v1 v2 v3 := by kernel_rfl
theorem spec_GoodGroups.eq (v0 : List (List Int × Int × Int)) {b : Bool} (h : spec_GoodGroups.t some spec_GoodGroups.l2 v0 = some b) : spec_GoodGroups v0 = some b := tOf_intro spec_GoodGroups.un (fun _ => by kernel_rfl) (vlim_fn (callT_le E tab) rfl rfl rfl ((spec_GoodGroups.k v0).trans ((by unfold spec_GoodGroups.t; repeat' first | exact Sub.ret | exact Sub.none | exact Sub.loop | apply Sub.cond | (apply Sub.bind; intro _) : Sub spec_GoodGroups.mk _ _) b h)))
theorem spec_GoodGroups.eq2 (v0 : List (List Int × Int × Int)) (v1 : List (List Int × Int × Int)) (v2 : Int) (v3 : Int) {b : Bool} (h : spec_GoodGroups.t2 some spec_GoodGroups.l2 v0 v1 v2 v3 = some b) : spec_GoodGroups.l2 v0 v1 v2 v3 = some b := tOf_intro spec_GoodGroups.un (fun _ => by kernel_rfl) (loopAtL_step ((spec_GoodGroups.k2 v0 v1 v2 v3).trans ((by unfold spec_GoodGroups.t2; repeat' first | exact Sub.ret | exact Sub.none | exact Sub.loop | apply Sub.cond | (apply Sub.bind; intro _) : Sub spec_GoodGroups.mk _ _) b h)))
noncomputable def spec_GoodRow.q2 (v0 : List Int) (v1 : List Int) (v2 : Int) (v3 : Int) : Option R := loopAtL E (callT E tab) 67 Try.f67 1 [.r, .l, .r, .b] (nn 1 (⟨(.box false), [.d .fro (.sl (.int .i64)) v0], false, false, false, 0, 0⟩ :: nn 4 (vc (.d .fro (.sl (.int .i64)) v1) :: vc (iL v2) :: vc (iL v3) :: nn 11 ([]))))
noncomputable def spec_GoodRow.l2 (v0 : List Int) (v1 : List Int) (v2 : Int) (v3 : Int) : Option (Bool) := tOf spec_GoodRow.mk (spec_GoodRow.q2 v0 v1 v2 v3)
noncomputable def spec_GoodRow.t {γ : Type} (ret : (Bool) → Option γ) (lp2 : (List Int) → (List Int) → Int → Int → Option γ) (v0 : List Int) : Option γ :=
 lp2 (v0) (v0) ((↑v0.length : Int)) ((0 : Int))
noncomputable def spec_GoodRow.t2 {γ : Type} (ret : (Bool) → Option γ) (lp2 : (List Int) → (List Int) → Int → Int → Option γ) (v0 : List Int) (v1 : List Int) (v2 : Int) (v3 : Int) : Option γ :=
 bif decide (v3 < v2) then
  bif decide ((0 : Int) ≤ v3) then
   bif decide (v3.toNat < v1.length) then
    (spec_l1In (v1.getD v3.toNat (0 : Int)) ((-100000 : Int)) ((100000 : Int))).bind fun (r0 : Bool) =>
    bif !r0 then
     ret (Bool.false)
    else
     lp2 (v0) (v1) (v2) (IntKind.i64.wrap (v3 + (1 : Int)))
   else
    none
  else
   none
 else
  ret (decide ((↑v0.length : Int) ≤ (6 : Int)))
theorem spec_GoodRow.k (v0 : List Int) : topL E (callT E tab) 67 Try.f67 (spec_GoodRow.c v0) = spec_GoodRow.t (fun b => some (spec_GoodRow.mk b)) spec_GoodRow.q2 v0 := by kernel_rfl
theorem spec_GoodRow.k2 (v0 : List Int) (v1 : List Int) (v2 : Int) (v3 : Int) : roundL E (callT E tab) 67 Try.f67 1 [.r, .l, .r, .b] (nn 1 (⟨(.box false), [.d .fro (.sl (.int .i64)) v0], false, false, false, 0, 0⟩ :: nn 4 (vc (.d .fro (.sl (.int .i64)) v1) :: vc (iL v2) :: vc (iL v3) :: nn 11 ([])))) = spec_GoodRow.t2 (fun b => some (spec_GoodRow.mk b)) spec_GoodRow.q2 v0 v1 v2 v3 := by kernel_rfl
theorem spec_GoodRow.eq (v0 : List Int) {b : Bool} (h : spec_GoodRow.t some spec_GoodRow.l2 v0 = some b) : spec_GoodRow v0 = some b := tOf_intro spec_GoodRow.un (fun _ => by kernel_rfl) (vlim_fn (callT_le E tab) rfl rfl rfl ((spec_GoodRow.k v0).trans ((by unfold spec_GoodRow.t; repeat' first | exact Sub.ret | exact Sub.none | exact Sub.loop | apply Sub.cond | (apply Sub.bind; intro _) : Sub spec_GoodRow.mk _ _) b h)))
theorem spec_GoodRow.eq2 (v0 : List Int) (v1 : List Int) (v2 : Int) (v3 : Int) {b : Bool} (h : spec_GoodRow.t2 some spec_GoodRow.l2 v0 v1 v2 v3 = some b) : spec_GoodRow.l2 v0 v1 v2 v3 = some b := tOf_intro spec_GoodRow.un (fun _ => by kernel_rfl) (loopAtL_step ((spec_GoodRow.k2 v0 v1 v2 v3).trans ((by unfold spec_GoodRow.t2; repeat' first | exact Sub.ret | exact Sub.none | exact Sub.loop | apply Sub.cond | (apply Sub.bind; intro _) : Sub spec_GoodRow.mk _ _) b h)))
noncomputable def spec_l1In.t {γ : Type} (ret : (Bool) → Option γ) (v0 : Int) (v1 : Int) (v2 : Int) : Option γ :=
 bif decide (v0 ≥ v1) then
  ret (decide (v0 ≤ v2))
 else
  ret (Bool.false)
theorem spec_l1In.k (v0 : Int) (v1 : Int) (v2 : Int) : topL E (callT E tab) 87 Try.f87 (spec_l1In.c v0 v1 v2) = spec_l1In.t (fun b => some (spec_l1In.mk b)) v0 v1 v2 := by kernel_rfl
theorem spec_l1In.eq (v0 : Int) (v1 : Int) (v2 : Int) {b : Bool} (h : spec_l1In.t some v0 v1 v2 = some b) : spec_l1In v0 v1 v2 = some b := tOf_intro spec_l1In.un (fun _ => by kernel_rfl) (vlim_fn (callT_le E tab) rfl rfl rfl ((spec_l1In.k v0 v1 v2).trans ((by unfold spec_l1In.t; repeat' first | exact Sub.ret | exact Sub.none | exact Sub.loop | apply Sub.cond | (apply Sub.bind; intro _) : Sub spec_l1In.mk _ _) b h)))
noncomputable def spec_l5Sum.t {γ : Type} (ret : (Bool) → Option γ) (v0 : Int) : Option γ :=
 (spec_l1In (v0) ((-100000000000000 : Int)) ((100000000000000 : Int))).bind fun (r0 : Bool) =>
 ret (r0)
theorem spec_l5Sum.k (v0 : Int) : topL E (callT E tab) 68 Try.f68 (spec_l5Sum.c v0) = spec_l5Sum.t (fun b => some (spec_l5Sum.mk b)) v0 := by kernel_rfl
theorem spec_l5Sum.eq (v0 : Int) {b : Bool} (h : spec_l5Sum.t some v0 = some b) : spec_l5Sum v0 = some b := tOf_intro spec_l5Sum.un (fun _ => by kernel_rfl) (vlim_fn (callT_le E tab) rfl rfl rfl ((spec_l5Sum.k v0).trans ((by unfold spec_l5Sum.t; repeat' first | exact Sub.ret | exact Sub.none | exact Sub.loop | apply Sub.cond | (apply Sub.bind; intro _) : Sub spec_l5Sum.mk _ _) b h)))
noncomputable def spec_l1Compare.q2 (v0 : List Int) (v1 : List Int) (v2 : Int) : Option R := loopAtL E (callT E tab) 69 Try.f69 2 [.r, .l, .r, .b] (nn 2 (⟨(.box false), [.d .fro (.sl (.int .i64)) v0], false, false, false, 0, 0⟩ :: ⟨(.box false), [.d .fro (.sl (.int .i64)) v1], false, false, false, 0, 0⟩ :: nn 1 (vc (iL v2) :: nn 52 ([]))))
noncomputable def spec_l1Compare.l2 (v0 : List Int) (v1 : List Int) (v2 : Int) : Option (Int) := tOf spec_l1Compare.mk (spec_l1Compare.q2 v0 v1 v2)
noncomputable def spec_l1Compare.t {γ : Type} (ret : (Int) → Option γ) (lp2 : (List Int) → (List Int) → Int → Option γ) (v0 : List Int) (v1 : List Int) : Option γ :=
 lp2 (v0) (v1) ((0 : Int))
noncomputable def spec_l1Compare.t2 {γ : Type} (ret : (Int) → Option γ) (lp2 : (List Int) → (List Int) → Int → Option γ) (v0 : List Int) (v1 : List Int) (v2 : Int) : Option γ :=
 bif decide (v2 < (↑v0.length : Int)) then
  bif decide (v2 < (↑v1.length : Int)) then
   bif decide ((0 : Int) ≤ v2) then
    bif decide (v2.toNat < v0.length) then
     bif decide ((0 : Int) ≤ v2) then
      bif decide (v2.toNat < v1.length) then
       bif decide (v0.getD v2.toNat (0 : Int) < v1.getD v2.toNat (0 : Int)) then
        ret ((-1 : Int))
       else
        bif decide ((0 : Int) ≤ v2) then
         bif decide (v2.toNat < v0.length) then
          bif decide ((0 : Int) ≤ v2) then
           bif decide (v2.toNat < v1.length) then
            bif decide (v0.getD v2.toNat (0 : Int) > v1.getD v2.toNat (0 : Int)) then
             ret ((1 : Int))
            else
             lp2 (v0) (v1) (IntKind.i64.wrap (v2 + (1 : Int)))
           else
            none
          else
           none
         else
          none
        else
         none
      else
       none
     else
      none
    else
     none
   else
    none
  else
   bif decide ((↑v0.length : Int) < (↑v1.length : Int)) then
    ret ((-1 : Int))
   else
    bif decide ((↑v0.length : Int) > (↑v1.length : Int)) then
     ret ((1 : Int))
    else
     ret ((0 : Int))
 else
  bif decide ((↑v0.length : Int) < (↑v1.length : Int)) then
   ret ((-1 : Int))
  else
   bif decide ((↑v0.length : Int) > (↑v1.length : Int)) then
    ret ((1 : Int))
   else
    ret ((0 : Int))
theorem spec_l1Compare.k (v0 : List Int) (v1 : List Int) : topL E (callT E tab) 69 Try.f69 (spec_l1Compare.c v0 v1) = spec_l1Compare.t (fun b => some (spec_l1Compare.mk b)) spec_l1Compare.q2 v0 v1 := by kernel_rfl
theorem spec_l1Compare.k2 (v0 : List Int) (v1 : List Int) (v2 : Int) : roundL E (callT E tab) 69 Try.f69 2 [.r, .l, .r, .b] (nn 2 (⟨(.box false), [.d .fro (.sl (.int .i64)) v0], false, false, false, 0, 0⟩ :: ⟨(.box false), [.d .fro (.sl (.int .i64)) v1], false, false, false, 0, 0⟩ :: nn 1 (vc (iL v2) :: nn 52 ([])))) = spec_l1Compare.t2 (fun b => some (spec_l1Compare.mk b)) spec_l1Compare.q2 v0 v1 v2 := by kernel_rfl
theorem spec_l1Compare.eq (v0 : List Int) (v1 : List Int) {b : Int} (h : spec_l1Compare.t some spec_l1Compare.l2 v0 v1 = some b) : spec_l1Compare v0 v1 = some b := tOf_intro spec_l1Compare.un (fun _ => by kernel_rfl) (vlim_fn (callT_le E tab) rfl rfl rfl ((spec_l1Compare.k v0 v1).trans ((by unfold spec_l1Compare.t; repeat' first | exact Sub.ret | exact Sub.none | exact Sub.loop | apply Sub.cond | (apply Sub.bind; intro _) : Sub spec_l1Compare.mk _ _) b h)))
theorem spec_l1Compare.eq2 (v0 : List Int) (v1 : List Int) (v2 : Int) {b : Int} (h : spec_l1Compare.t2 some spec_l1Compare.l2 v0 v1 v2 = some b) : spec_l1Compare.l2 v0 v1 v2 = some b := tOf_intro spec_l1Compare.un (fun _ => by kernel_rfl) (loopAtL_step ((spec_l1Compare.k2 v0 v1 v2).trans ((by unfold spec_l1Compare.t2; repeat' first | exact Sub.ret | exact Sub.none | exact Sub.loop | apply Sub.cond | (apply Sub.bind; intro _) : Sub spec_l1Compare.mk _ _) b h)))
noncomputable def spec_l5Put.q2 (v0 : List (List Int × Int × Int)) (v1 : List Int) (v2 : Int) (v3 : Int) (v4 : Int) : Option R := loopAtL E (callT E tab) 35 Try.f35 2 [.r, .r, .l, .b] (vc (.d .fro (.sl (.pair (.sl (.int .i64)) (.pair (.int .i64) (.int .i64)))) v0) :: nn 2 (⟨(.box false), [.d .fro (.sl (.int .i64)) v1, iL v2, iL v3], false, false, false, 0, 0⟩ :: nn 1 (vc (iL v4) :: nn 79 ([]))))
noncomputable def spec_l5Put.l2 (v0 : List (List Int × Int × Int)) (v1 : List Int) (v2 : Int) (v3 : Int) (v4 : Int) : Option ((List (List Int × Int × Int))) := tOf spec_l5Put.mk (spec_l5Put.q2 v0 v1 v2 v3 v4)
noncomputable def spec_l5Put.t {γ : Type} (ret : ((List (List Int × Int × Int))) → Option γ) (lp2 : (List (List Int × Int × Int)) → (List Int) → Int → Int → Int → Option γ) (v0 : List (List Int × Int × Int)) (v1 : List Int) (v2 : Int) (v3 : Int) : Option γ :=
 lp2 (v0) (v1) (v2) (v3) ((0 : Int))
noncomputable def spec_l5Put.t2 {γ : Type} (ret : ((List (List Int × Int × Int))) → Option γ) (lp2 : (List (List Int × Int × Int)) → (List Int) → Int → Int → Int → Option γ) (v0 : List (List Int × Int × Int)) (v1 : List Int) (v2 : Int) (v3 : Int) (v4 : Int) : Option γ :=
 bif decide (v4 < (↑v0.length : Int)) then
  bif decide ((0 : Int) ≤ v4) then
   bif decide (v4.toNat < v0.length) then
    (spec_l1Compare ((v0.getD v4.toNat ([], (0 : Int), (0 : Int))).fst) (v1)).bind fun (r0 : Int) =>
    bif decide (r0 < (0 : Int)) then
     lp2 (v0) (v1) (v2) (v3) (IntKind.i64.wrap (v4 + (1 : Int)))
    else
     bif decide (Option.none.getD (0 : Int) ≤ v4) then
      bif decide (v4 ≤ (↑v0.length : Int)) then
       bif decide   ((List.take (v4 - Option.none.getD (0 : Int)).toNat (List.drop (Option.none.getD (0 : Int)).toNat v0)).length ≤     (4294967296 : Nat)) then
        (spec_l2OwnRow (v1)).bind fun (r1 : (List Int)) =>
        bif decide (v4 < (↑v0.length : Int)) then
         bif decide ((0 : Int) ≤ v4) then
          bif decide (v4.toNat < v0.length) then
           (spec_l1Compare ((v0.getD v4.toNat ([], (0 : Int), (0 : Int))).fst) (r1)).bind fun (r2 : Int) =>
           bif r2 == (0 : Int) then
            bif decide ((0 : Int) ≤ v4) then
             bif decide (v4.toNat < v0.length) then
              bif decide ((0 : Int) ≤ v4) then
               bif decide (v4.toNat < v0.length) then
                bif IntKind.i64.wrap (v2 + (v0.getD v4.toNat ([], (0 : Int), (0 : Int))).snd.fst) != (0 : Int) then
                 bif decide   ((List.take (v4 - Option.none.getD (0 : Int)).toNat (List.drop (Option.none.getD (0 : Int)).toNat v0)).length +       [(r1, IntKind.i64.wrap (v2 + (v0.getD v4.toNat ([], (0 : Int), (0 : Int))).snd.fst),             IntKind.i64.wrap (v3 + (v0.getD v4.toNat ([], (0 : Int), (0 : Int))).snd.snd))].length ≤     (4294967296 : Nat)) then
                  bif decide ((0 : Int) ≤ (Option.some (IntKind.i64.wrap (v4 + (1 : Int)))).getD (0 : Int)) then
                   bif decide ((Option.some (IntKind.i64.wrap (v4 + (1 : Int)))).getD (0 : Int) ≤ (↑v0.length : Int)) then
                    bif decide   ((List.take (v4 - Option.none.getD (0 : Int)).toNat (List.drop (Option.none.getD (0 : Int)).toNat v0) ++           [(r1, IntKind.i64.wrap (v2 + (v0.getD v4.toNat ([], (0 : Int), (0 : Int))).snd.fst),               IntKind.i64.wrap (v3 + (v0.getD v4.toNat ([], (0 : Int), (0 : Int))).snd.snd))]).length +       (List.drop ((Option.some (IntKind.i64.wrap (v4 + (1 : Int)))).getD (0 : Int)).toNat v0).length ≤     (4294967296 : Nat)) then
                     ret (List.take (v4 - Option.none.getD (0 : Int)).toNat (List.drop (Option.none.getD (0 : Int)).toNat v0) ++     [(r1, IntKind.i64.wrap (v2 + (v0.getD v4.toNat ([], (0 : Int), (0 : Int))).snd.fst),         IntKind.i64.wrap (v3 + (v0.getD v4.toNat ([], (0 : Int), (0 : Int))).snd.snd))] ++   List.drop ((Option.some (IntKind.i64.wrap (v4 + (1 : Int)))).getD (0 : Int)).toNat v0)
                    else
                     none
                   else
                    none
                  else
                   none
                 else
                  none
                else
                 bif IntKind.i64.wrap (v3 + (v0.getD v4.toNat ([], (0 : Int), (0 : Int))).snd.snd) != (0 : Int) then
                  bif decide   ((List.take (v4 - Option.none.getD (0 : Int)).toNat (List.drop (Option.none.getD (0 : Int)).toNat v0)).length +       [(r1, IntKind.i64.wrap (v2 + (v0.getD v4.toNat ([], (0 : Int), (0 : Int))).snd.fst),             IntKind.i64.wrap (v3 + (v0.getD v4.toNat ([], (0 : Int), (0 : Int))).snd.snd))].length ≤     (4294967296 : Nat)) then
                   bif decide ((0 : Int) ≤ (Option.some (IntKind.i64.wrap (v4 + (1 : Int)))).getD (0 : Int)) then
                    bif decide ((Option.some (IntKind.i64.wrap (v4 + (1 : Int)))).getD (0 : Int) ≤ (↑v0.length : Int)) then
                     bif decide   ((List.take (v4 - Option.none.getD (0 : Int)).toNat (List.drop (Option.none.getD (0 : Int)).toNat v0) ++           [(r1, IntKind.i64.wrap (v2 + (v0.getD v4.toNat ([], (0 : Int), (0 : Int))).snd.fst),               IntKind.i64.wrap (v3 + (v0.getD v4.toNat ([], (0 : Int), (0 : Int))).snd.snd))]).length +       (List.drop ((Option.some (IntKind.i64.wrap (v4 + (1 : Int)))).getD (0 : Int)).toNat v0).length ≤     (4294967296 : Nat)) then
                      ret (List.take (v4 - Option.none.getD (0 : Int)).toNat (List.drop (Option.none.getD (0 : Int)).toNat v0) ++     [(r1, IntKind.i64.wrap (v2 + (v0.getD v4.toNat ([], (0 : Int), (0 : Int))).snd.fst),         IntKind.i64.wrap (v3 + (v0.getD v4.toNat ([], (0 : Int), (0 : Int))).snd.snd))] ++   List.drop ((Option.some (IntKind.i64.wrap (v4 + (1 : Int)))).getD (0 : Int)).toNat v0)
                     else
                      none
                    else
                     none
                   else
                    none
                  else
                   none
                 else
                  bif decide ((0 : Int) ≤ (Option.some (IntKind.i64.wrap (v4 + (1 : Int)))).getD (0 : Int)) then
                   bif decide ((Option.some (IntKind.i64.wrap (v4 + (1 : Int)))).getD (0 : Int) ≤ (↑v0.length : Int)) then
                    bif decide   ((List.take (v4 - Option.none.getD (0 : Int)).toNat (List.drop (Option.none.getD (0 : Int)).toNat v0)).length +       (List.drop ((Option.some (IntKind.i64.wrap (v4 + (1 : Int)))).getD (0 : Int)).toNat v0).length ≤     (4294967296 : Nat)) then
                     ret (List.take (v4 - Option.none.getD (0 : Int)).toNat (List.drop (Option.none.getD (0 : Int)).toNat v0) ++   List.drop ((Option.some (IntKind.i64.wrap (v4 + (1 : Int)))).getD (0 : Int)).toNat v0)
                    else
                     none
                   else
                    none
                  else
                   none
               else
                none
              else
               none
             else
              none
            else
             none
           else
            bif v2 != (0 : Int) then
             bif decide   ((List.take (v4 - Option.none.getD (0 : Int)).toNat (List.drop (Option.none.getD (0 : Int)).toNat v0)).length +       [(r1, v2, v3)].length ≤     (4294967296 : Nat)) then
              bif decide ((0 : Int) ≤ (Option.some v4).getD (0 : Int)) then
               bif decide ((Option.some v4).getD (0 : Int) ≤ (↑v0.length : Int)) then
                bif decide   ((List.take (v4 - Option.none.getD (0 : Int)).toNat (List.drop (Option.none.getD (0 : Int)).toNat v0) ++           [(r1, v2, v3)]).length +       (List.drop ((Option.some v4).getD (0 : Int)).toNat v0).length ≤     (4294967296 : Nat)) then
                 ret (List.take (v4 - Option.none.getD (0 : Int)).toNat (List.drop (Option.none.getD (0 : Int)).toNat v0) ++ [(r1, v2, v3)] ++   List.drop ((Option.some v4).getD (0 : Int)).toNat v0)
                else
                 none
               else
                none
              else
               none
             else
              none
            else
             bif v3 != (0 : Int) then
              bif decide   ((List.take (v4 - Option.none.getD (0 : Int)).toNat (List.drop (Option.none.getD (0 : Int)).toNat v0)).length +       [(r1, v2, v3)].length ≤     (4294967296 : Nat)) then
               bif decide ((0 : Int) ≤ (Option.some v4).getD (0 : Int)) then
                bif decide ((Option.some v4).getD (0 : Int) ≤ (↑v0.length : Int)) then
                 bif decide   ((List.take (v4 - Option.none.getD (0 : Int)).toNat (List.drop (Option.none.getD (0 : Int)).toNat v0) ++           [(r1, v2, v3)]).length +       (List.drop ((Option.some v4).getD (0 : Int)).toNat v0).length ≤     (4294967296 : Nat)) then
                  ret (List.take (v4 - Option.none.getD (0 : Int)).toNat (List.drop (Option.none.getD (0 : Int)).toNat v0) ++ [(r1, v2, v3)] ++   List.drop ((Option.some v4).getD (0 : Int)).toNat v0)
                 else
                  none
                else
                 none
               else
                none
              else
               none
             else
              bif decide ((0 : Int) ≤ (Option.some v4).getD (0 : Int)) then
               bif decide ((Option.some v4).getD (0 : Int) ≤ (↑v0.length : Int)) then
                bif decide   ((List.take (v4 - Option.none.getD (0 : Int)).toNat (List.drop (Option.none.getD (0 : Int)).toNat v0)).length +       (List.drop ((Option.some v4).getD (0 : Int)).toNat v0).length ≤     (4294967296 : Nat)) then
                 ret (List.take (v4 - Option.none.getD (0 : Int)).toNat (List.drop (Option.none.getD (0 : Int)).toNat v0) ++   List.drop ((Option.some v4).getD (0 : Int)).toNat v0)
                else
                 none
               else
                none
              else
               none
          else
           none
         else
          none
        else
         bif v2 != (0 : Int) then
          bif decide   ((List.take (v4 - Option.none.getD (0 : Int)).toNat (List.drop (Option.none.getD (0 : Int)).toNat v0)).length +       [(r1, v2, v3)].length ≤     (4294967296 : Nat)) then
           bif decide ((0 : Int) ≤ (Option.some v4).getD (0 : Int)) then
            bif decide ((Option.some v4).getD (0 : Int) ≤ (↑v0.length : Int)) then
             bif decide   ((List.take (v4 - Option.none.getD (0 : Int)).toNat (List.drop (Option.none.getD (0 : Int)).toNat v0) ++           [(r1, v2, v3)]).length +       (List.drop ((Option.some v4).getD (0 : Int)).toNat v0).length ≤     (4294967296 : Nat)) then
              ret (List.take (v4 - Option.none.getD (0 : Int)).toNat (List.drop (Option.none.getD (0 : Int)).toNat v0) ++ [(r1, v2, v3)] ++   List.drop ((Option.some v4).getD (0 : Int)).toNat v0)
             else
              none
            else
             none
           else
            none
          else
           none
         else
          bif v3 != (0 : Int) then
           bif decide   ((List.take (v4 - Option.none.getD (0 : Int)).toNat (List.drop (Option.none.getD (0 : Int)).toNat v0)).length +       [(r1, v2, v3)].length ≤     (4294967296 : Nat)) then
            bif decide ((0 : Int) ≤ (Option.some v4).getD (0 : Int)) then
             bif decide ((Option.some v4).getD (0 : Int) ≤ (↑v0.length : Int)) then
              bif decide   ((List.take (v4 - Option.none.getD (0 : Int)).toNat (List.drop (Option.none.getD (0 : Int)).toNat v0) ++           [(r1, v2, v3)]).length +       (List.drop ((Option.some v4).getD (0 : Int)).toNat v0).length ≤     (4294967296 : Nat)) then
               ret (List.take (v4 - Option.none.getD (0 : Int)).toNat (List.drop (Option.none.getD (0 : Int)).toNat v0) ++ [(r1, v2, v3)] ++   List.drop ((Option.some v4).getD (0 : Int)).toNat v0)
              else
               none
             else
              none
            else
             none
           else
            none
          else
           bif decide ((0 : Int) ≤ (Option.some v4).getD (0 : Int)) then
            bif decide ((Option.some v4).getD (0 : Int) ≤ (↑v0.length : Int)) then
             bif decide   ((List.take (v4 - Option.none.getD (0 : Int)).toNat (List.drop (Option.none.getD (0 : Int)).toNat v0)).length +       (List.drop ((Option.some v4).getD (0 : Int)).toNat v0).length ≤     (4294967296 : Nat)) then
              ret (List.take (v4 - Option.none.getD (0 : Int)).toNat (List.drop (Option.none.getD (0 : Int)).toNat v0) ++   List.drop ((Option.some v4).getD (0 : Int)).toNat v0)
             else
              none
            else
             none
           else
            none
       else
        none
      else
       none
     else
      none
   else
    none
  else
   none
 else
  bif decide (Option.none.getD (0 : Int) ≤ v4) then
   bif decide (v4 ≤ (↑v0.length : Int)) then
    bif decide   ((List.take (v4 - Option.none.getD (0 : Int)).toNat (List.drop (Option.none.getD (0 : Int)).toNat v0)).length ≤     (4294967296 : Nat)) then
     (spec_l2OwnRow (v1)).bind fun (r3 : (List Int)) =>
     bif decide (v4 < (↑v0.length : Int)) then
      bif decide ((0 : Int) ≤ v4) then
       bif decide (v4.toNat < v0.length) then
        (spec_l1Compare ((v0.getD v4.toNat ([], (0 : Int), (0 : Int))).fst) (r3)).bind fun (r4 : Int) =>
        bif r4 == (0 : Int) then
         bif decide ((0 : Int) ≤ v4) then
          bif decide (v4.toNat < v0.length) then
           bif decide ((0 : Int) ≤ v4) then
            bif decide (v4.toNat < v0.length) then
             bif IntKind.i64.wrap (v2 + (v0.getD v4.toNat ([], (0 : Int), (0 : Int))).snd.fst) != (0 : Int) then
              bif decide   ((List.take (v4 - Option.none.getD (0 : Int)).toNat (List.drop (Option.none.getD (0 : Int)).toNat v0)).length +       [(r3, IntKind.i64.wrap (v2 + (v0.getD v4.toNat ([], (0 : Int), (0 : Int))).snd.fst),             IntKind.i64.wrap (v3 + (v0.getD v4.toNat ([], (0 : Int), (0 : Int))).snd.snd))].length ≤     (4294967296 : Nat)) then
               bif decide ((0 : Int) ≤ (Option.some (IntKind.i64.wrap (v4 + (1 : Int)))).getD (0 : Int)) then
                bif decide ((Option.some (IntKind.i64.wrap (v4 + (1 : Int)))).getD (0 : Int) ≤ (↑v0.length : Int)) then
                 bif decide   ((List.take (v4 - Option.none.getD (0 : Int)).toNat (List.drop (Option.none.getD (0 : Int)).toNat v0) ++           [(r3, IntKind.i64.wrap (v2 + (v0.getD v4.toNat ([], (0 : Int), (0 : Int))).snd.fst),               IntKind.i64.wrap (v3 + (v0.getD v4.toNat ([], (0 : Int), (0 : Int))).snd.snd))]).length +       (List.drop ((Option.some (IntKind.i64.wrap (v4 + (1 : Int)))).getD (0 : Int)).toNat v0).length ≤     (4294967296 : Nat)) then
                  ret (List.take (v4 - Option.none.getD (0 : Int)).toNat (List.drop (Option.none.getD (0 : Int)).toNat v0) ++     [(r3, IntKind.i64.wrap (v2 + (v0.getD v4.toNat ([], (0 : Int), (0 : Int))).snd.fst),         IntKind.i64.wrap (v3 + (v0.getD v4.toNat ([], (0 : Int), (0 : Int))).snd.snd))] ++   List.drop ((Option.some (IntKind.i64.wrap (v4 + (1 : Int)))).getD (0 : Int)).toNat v0)
                 else
                  none
                else
                 none
               else
                none
              else
               none
             else
              bif IntKind.i64.wrap (v3 + (v0.getD v4.toNat ([], (0 : Int), (0 : Int))).snd.snd) != (0 : Int) then
               bif decide   ((List.take (v4 - Option.none.getD (0 : Int)).toNat (List.drop (Option.none.getD (0 : Int)).toNat v0)).length +       [(r3, IntKind.i64.wrap (v2 + (v0.getD v4.toNat ([], (0 : Int), (0 : Int))).snd.fst),             IntKind.i64.wrap (v3 + (v0.getD v4.toNat ([], (0 : Int), (0 : Int))).snd.snd))].length ≤     (4294967296 : Nat)) then
                bif decide ((0 : Int) ≤ (Option.some (IntKind.i64.wrap (v4 + (1 : Int)))).getD (0 : Int)) then
                 bif decide ((Option.some (IntKind.i64.wrap (v4 + (1 : Int)))).getD (0 : Int) ≤ (↑v0.length : Int)) then
                  bif decide   ((List.take (v4 - Option.none.getD (0 : Int)).toNat (List.drop (Option.none.getD (0 : Int)).toNat v0) ++           [(r3, IntKind.i64.wrap (v2 + (v0.getD v4.toNat ([], (0 : Int), (0 : Int))).snd.fst),               IntKind.i64.wrap (v3 + (v0.getD v4.toNat ([], (0 : Int), (0 : Int))).snd.snd))]).length +       (List.drop ((Option.some (IntKind.i64.wrap (v4 + (1 : Int)))).getD (0 : Int)).toNat v0).length ≤     (4294967296 : Nat)) then
                   ret (List.take (v4 - Option.none.getD (0 : Int)).toNat (List.drop (Option.none.getD (0 : Int)).toNat v0) ++     [(r3, IntKind.i64.wrap (v2 + (v0.getD v4.toNat ([], (0 : Int), (0 : Int))).snd.fst),         IntKind.i64.wrap (v3 + (v0.getD v4.toNat ([], (0 : Int), (0 : Int))).snd.snd))] ++   List.drop ((Option.some (IntKind.i64.wrap (v4 + (1 : Int)))).getD (0 : Int)).toNat v0)
                  else
                   none
                 else
                  none
                else
                 none
               else
                none
              else
               bif decide ((0 : Int) ≤ (Option.some (IntKind.i64.wrap (v4 + (1 : Int)))).getD (0 : Int)) then
                bif decide ((Option.some (IntKind.i64.wrap (v4 + (1 : Int)))).getD (0 : Int) ≤ (↑v0.length : Int)) then
                 bif decide   ((List.take (v4 - Option.none.getD (0 : Int)).toNat (List.drop (Option.none.getD (0 : Int)).toNat v0)).length +       (List.drop ((Option.some (IntKind.i64.wrap (v4 + (1 : Int)))).getD (0 : Int)).toNat v0).length ≤     (4294967296 : Nat)) then
                  ret (List.take (v4 - Option.none.getD (0 : Int)).toNat (List.drop (Option.none.getD (0 : Int)).toNat v0) ++   List.drop ((Option.some (IntKind.i64.wrap (v4 + (1 : Int)))).getD (0 : Int)).toNat v0)
                 else
                  none
                else
                 none
               else
                none
            else
             none
           else
            none
          else
           none
         else
          none
        else
         bif v2 != (0 : Int) then
          bif decide   ((List.take (v4 - Option.none.getD (0 : Int)).toNat (List.drop (Option.none.getD (0 : Int)).toNat v0)).length +       [(r3, v2, v3)].length ≤     (4294967296 : Nat)) then
           bif decide ((0 : Int) ≤ (Option.some v4).getD (0 : Int)) then
            bif decide ((Option.some v4).getD (0 : Int) ≤ (↑v0.length : Int)) then
             bif decide   ((List.take (v4 - Option.none.getD (0 : Int)).toNat (List.drop (Option.none.getD (0 : Int)).toNat v0) ++           [(r3, v2, v3)]).length +       (List.drop ((Option.some v4).getD (0 : Int)).toNat v0).length ≤     (4294967296 : Nat)) then
              ret (List.take (v4 - Option.none.getD (0 : Int)).toNat (List.drop (Option.none.getD (0 : Int)).toNat v0) ++ [(r3, v2, v3)] ++   List.drop ((Option.some v4).getD (0 : Int)).toNat v0)
             else
              none
            else
             none
           else
            none
          else
           none
         else
          bif v3 != (0 : Int) then
           bif decide   ((List.take (v4 - Option.none.getD (0 : Int)).toNat (List.drop (Option.none.getD (0 : Int)).toNat v0)).length +       [(r3, v2, v3)].length ≤     (4294967296 : Nat)) then
            bif decide ((0 : Int) ≤ (Option.some v4).getD (0 : Int)) then
             bif decide ((Option.some v4).getD (0 : Int) ≤ (↑v0.length : Int)) then
              bif decide   ((List.take (v4 - Option.none.getD (0 : Int)).toNat (List.drop (Option.none.getD (0 : Int)).toNat v0) ++           [(r3, v2, v3)]).length +       (List.drop ((Option.some v4).getD (0 : Int)).toNat v0).length ≤     (4294967296 : Nat)) then
               ret (List.take (v4 - Option.none.getD (0 : Int)).toNat (List.drop (Option.none.getD (0 : Int)).toNat v0) ++ [(r3, v2, v3)] ++   List.drop ((Option.some v4).getD (0 : Int)).toNat v0)
              else
               none
             else
              none
            else
             none
           else
            none
          else
           bif decide ((0 : Int) ≤ (Option.some v4).getD (0 : Int)) then
            bif decide ((Option.some v4).getD (0 : Int) ≤ (↑v0.length : Int)) then
             bif decide   ((List.take (v4 - Option.none.getD (0 : Int)).toNat (List.drop (Option.none.getD (0 : Int)).toNat v0)).length +       (List.drop ((Option.some v4).getD (0 : Int)).toNat v0).length ≤     (4294967296 : Nat)) then
              ret (List.take (v4 - Option.none.getD (0 : Int)).toNat (List.drop (Option.none.getD (0 : Int)).toNat v0) ++   List.drop ((Option.some v4).getD (0 : Int)).toNat v0)
             else
              none
            else
             none
           else
            none
       else
        none
      else
       none
     else
      bif v2 != (0 : Int) then
       bif decide   ((List.take (v4 - Option.none.getD (0 : Int)).toNat (List.drop (Option.none.getD (0 : Int)).toNat v0)).length +       [(r3, v2, v3)].length ≤     (4294967296 : Nat)) then
        bif decide ((0 : Int) ≤ (Option.some v4).getD (0 : Int)) then
         bif decide ((Option.some v4).getD (0 : Int) ≤ (↑v0.length : Int)) then
          bif decide   ((List.take (v4 - Option.none.getD (0 : Int)).toNat (List.drop (Option.none.getD (0 : Int)).toNat v0) ++           [(r3, v2, v3)]).length +       (List.drop ((Option.some v4).getD (0 : Int)).toNat v0).length ≤     (4294967296 : Nat)) then
           ret (List.take (v4 - Option.none.getD (0 : Int)).toNat (List.drop (Option.none.getD (0 : Int)).toNat v0) ++ [(r3, v2, v3)] ++   List.drop ((Option.some v4).getD (0 : Int)).toNat v0)
          else
           none
         else
          none
        else
         none
       else
        none
      else
       bif v3 != (0 : Int) then
        bif decide   ((List.take (v4 - Option.none.getD (0 : Int)).toNat (List.drop (Option.none.getD (0 : Int)).toNat v0)).length +       [(r3, v2, v3)].length ≤     (4294967296 : Nat)) then
         bif decide ((0 : Int) ≤ (Option.some v4).getD (0 : Int)) then
          bif decide ((Option.some v4).getD (0 : Int) ≤ (↑v0.length : Int)) then
           bif decide   ((List.take (v4 - Option.none.getD (0 : Int)).toNat (List.drop (Option.none.getD (0 : Int)).toNat v0) ++           [(r3, v2, v3)]).length +       (List.drop ((Option.some v4).getD (0 : Int)).toNat v0).length ≤     (4294967296 : Nat)) then
            ret (List.take (v4 - Option.none.getD (0 : Int)).toNat (List.drop (Option.none.getD (0 : Int)).toNat v0) ++ [(r3, v2, v3)] ++   List.drop ((Option.some v4).getD (0 : Int)).toNat v0)
           else
            none
          else
           none
         else
          none
        else
         none
       else
        bif decide ((0 : Int) ≤ (Option.some v4).getD (0 : Int)) then
         bif decide ((Option.some v4).getD (0 : Int) ≤ (↑v0.length : Int)) then
          bif decide   ((List.take (v4 - Option.none.getD (0 : Int)).toNat (List.drop (Option.none.getD (0 : Int)).toNat v0)).length +       (List.drop ((Option.some v4).getD (0 : Int)).toNat v0).length ≤     (4294967296 : Nat)) then
           ret (List.take (v4 - Option.none.getD (0 : Int)).toNat (List.drop (Option.none.getD (0 : Int)).toNat v0) ++   List.drop ((Option.some v4).getD (0 : Int)).toNat v0)
          else
           none
         else
          none
        else
         none
    else
     none
   else
    none
  else
   none
theorem spec_l5Put.k (v0 : List (List Int × Int × Int)) (v1 : List Int) (v2 : Int) (v3 : Int) : topL E (callT E tab) 35 Try.f35 (spec_l5Put.c v0 v1 v2 v3) = spec_l5Put.t (fun b => some (spec_l5Put.mk b)) spec_l5Put.q2 v0 v1 v2 v3 := by kernel_rfl
theorem spec_l5Put.k2 (v0 : List (List Int × Int × Int)) (v1 : List Int) (v2 : Int) (v3 : Int) (v4 : Int) : roundL E (callT E tab) 35 Try.f35 2 [.r, .r, .l, .b] (vc (.d .fro (.sl (.pair (.sl (.int .i64)) (.pair (.int .i64) (.int .i64)))) v0) :: nn 2 (⟨(.box false), [.d .fro (.sl (.int .i64)) v1, iL v2, iL v3], false, false, false, 0, 0⟩ :: nn 1 (vc (iL v4) :: nn 79 ([])))) = spec_l5Put.t2 (fun b => some (spec_l5Put.mk b)) spec_l5Put.q2 v0 v1 v2 v3 v4 := by kernel_rfl
theorem spec_l5Put.eq (v0 : List (List Int × Int × Int)) (v1 : List Int) (v2 : Int) (v3 : Int) {b : (List (List Int × Int × Int))} (h : spec_l5Put.t some spec_l5Put.l2 v0 v1 v2 v3 = some b) : spec_l5Put v0 v1 v2 v3 = some b := tOf_intro spec_l5Put.un (fun _ => by kernel_rfl) (vlim_fn (callT_le E tab) rfl rfl rfl ((spec_l5Put.k v0 v1 v2 v3).trans ((by unfold spec_l5Put.t; repeat' first | exact Sub.ret | exact Sub.none | exact Sub.loop | apply Sub.cond | (apply Sub.bind; intro _) : Sub spec_l5Put.mk _ _) b h)))
theorem spec_l5Put.eq2 (v0 : List (List Int × Int × Int)) (v1 : List Int) (v2 : Int) (v3 : Int) (v4 : Int) {b : (List (List Int × Int × Int))} (h : spec_l5Put.t2 some spec_l5Put.l2 v0 v1 v2 v3 v4 = some b) : spec_l5Put.l2 v0 v1 v2 v3 v4 = some b := tOf_intro spec_l5Put.un (fun _ => by kernel_rfl) (loopAtL_step ((spec_l5Put.k2 v0 v1 v2 v3 v4).trans ((by unfold spec_l5Put.t2; repeat' first | exact Sub.ret | exact Sub.none | exact Sub.loop | apply Sub.cond | (apply Sub.bind; intro _) : Sub spec_l5Put.mk _ _) b h)))
noncomputable def spec_l2OwnRow.t {γ : Type} (ret : ((List Int)) → Option γ) (v0 : List Int) : Option γ :=
 bif decide (([] : List Int).length + v0.length ≤ (4294967296 : Nat)) then
  ret ([] ++ v0)
 else
  none
theorem spec_l2OwnRow.k (v0 : List Int) : topL E (callT E tab) 70 Try.f70 (spec_l2OwnRow.c v0) = spec_l2OwnRow.t (fun b => some (spec_l2OwnRow.mk b)) v0 := by kernel_rfl
theorem spec_l2OwnRow.eq (v0 : List Int) {b : (List Int)} (h : spec_l2OwnRow.t some v0 = some b) : spec_l2OwnRow v0 = some b := tOf_intro spec_l2OwnRow.un (fun _ => by kernel_rfl) (vlim_fn (callT_le E tab) rfl rfl rfl ((spec_l2OwnRow.k v0).trans ((by unfold spec_l2OwnRow.t; repeat' first | exact Sub.ret | exact Sub.none | exact Sub.loop | apply Sub.cond | (apply Sub.bind; intro _) : Sub spec_l2OwnRow.mk _ _) b h)))
noncomputable def spec_l5Tell.q5 (v0 : List (List Int × Int × Int)) (v1 : List (List Int × Int × Int)) (v2 : Int) (v3 : Int) : Option R := loopAtL E (callT E tab) 36 Try.f36 1 [.r, .r, .r, .l, .r, .b] (nn 4 (vc (.d .deep (.sl (.pair (.sl (.int .i64)) (.pair (.int .i64) (.int .i64)))) v0) :: nn 5 (vc (.d .fro (.sl (.pair (.sl (.int .i64)) (.pair (.int .i64) (.int .i64)))) v1) :: vc (iL v2) :: vc (iL v3) :: nn 16 ([]))))
noncomputable def spec_l5Tell.l5 (v0 : List (List Int × Int × Int)) (v1 : List (List Int × Int × Int)) (v2 : Int) (v3 : Int) : Option ((List (List Int × Int × Int)) × Bool) := tOf spec_l5Tell.mk (spec_l5Tell.q5 v0 v1 v2 v3)
noncomputable def spec_l5Tell.t {γ : Type} (ret : ((List (List Int × Int × Int)) × Bool) → Option γ) (lp5 : (List (List Int × Int × Int)) → (List (List Int × Int × Int)) → Int → Int → Option γ) (v0 : List (List Int × Int × Int)) : Option γ :=
 (spec_GoodGroups (v0)).bind fun (r0 : Bool) =>
 bif !r0 then
  ret ([], Bool.false)
 else
  lp5 ([]) (v0) ((↑v0.length : Int)) ((0 : Int))
noncomputable def spec_l5Tell.t5 {γ : Type} (ret : ((List (List Int × Int × Int)) × Bool) → Option γ) (lp5 : (List (List Int × Int × Int)) → (List (List Int × Int × Int)) → Int → Int → Option γ) (v0 : List (List Int × Int × Int)) (v1 : List (List Int × Int × Int)) (v2 : Int) (v3 : Int) : Option γ :=
 bif decide (v3 < v2) then
  bif decide ((0 : Int) ≤ v3) then
   bif decide (v3.toNat < v1.length) then
    (spec_l2OwnRow ((v1.getD v3.toNat ([], (0 : Int), (0 : Int))).fst)).bind fun (r1 : (List Int)) =>
    bif decide   (v0.length +       [(r1, (v1.getD v3.toNat ([], (0 : Int), (0 : Int))).snd.fst,             (v1.getD v3.toNat ([], (0 : Int), (0 : Int))).snd.snd)].length ≤     (4294967296 : Nat)) then
     lp5 (v0 ++   [(r1, (v1.getD v3.toNat ([], (0 : Int), (0 : Int))).snd.fst, (v1.getD v3.toNat ([], (0 : Int), (0 : Int))).snd.snd)]) (v1) (v2) (IntKind.i64.wrap (v3 + (1 : Int)))
    else
     none
   else
    none
  else
   none
 else
  ret (v0, Bool.true)
theorem spec_l5Tell.k (v0 : List (List Int × Int × Int)) : topL E (callT E tab) 36 Try.f36 (spec_l5Tell.c v0) = spec_l5Tell.t (fun b => some (spec_l5Tell.mk b)) spec_l5Tell.q5 v0 := by kernel_rfl
theorem spec_l5Tell.k5 (v0 : List (List Int × Int × Int)) (v1 : List (List Int × Int × Int)) (v2 : Int) (v3 : Int) : roundL E (callT E tab) 36 Try.f36 1 [.r, .r, .r, .l, .r, .b] (nn 4 (vc (.d .deep (.sl (.pair (.sl (.int .i64)) (.pair (.int .i64) (.int .i64)))) v0) :: nn 5 (vc (.d .fro (.sl (.pair (.sl (.int .i64)) (.pair (.int .i64) (.int .i64)))) v1) :: vc (iL v2) :: vc (iL v3) :: nn 16 ([])))) = spec_l5Tell.t5 (fun b => some (spec_l5Tell.mk b)) spec_l5Tell.q5 v0 v1 v2 v3 := by kernel_rfl
theorem spec_l5Tell.eq (v0 : List (List Int × Int × Int)) {b : (List (List Int × Int × Int)) × Bool} (h : spec_l5Tell.t some spec_l5Tell.l5 v0 = some b) : spec_l5Tell v0 = some b := tOf_intro spec_l5Tell.un (fun _ => by kernel_rfl) (vlim_fn (callT_le E tab) rfl rfl rfl ((spec_l5Tell.k v0).trans ((by unfold spec_l5Tell.t; repeat' first | exact Sub.ret | exact Sub.none | exact Sub.loop | apply Sub.cond | (apply Sub.bind; intro _) : Sub spec_l5Tell.mk _ _) b h)))
theorem spec_l5Tell.eq5 (v0 : List (List Int × Int × Int)) (v1 : List (List Int × Int × Int)) (v2 : Int) (v3 : Int) {b : (List (List Int × Int × Int)) × Bool} (h : spec_l5Tell.t5 some spec_l5Tell.l5 v0 v1 v2 v3 = some b) : spec_l5Tell.l5 v0 v1 v2 v3 = some b := tOf_intro spec_l5Tell.un (fun _ => by kernel_rfl) (loopAtL_step ((spec_l5Tell.k5 v0 v1 v2 v3).trans ((by unfold spec_l5Tell.t5; repeat' first | exact Sub.ret | exact Sub.none | exact Sub.loop | apply Sub.cond | (apply Sub.bind; intro _) : Sub spec_l5Tell.mk _ _) b h)))
noncomputable def impl_GoodGroups.q2 (v0 : List (List Int × Int × Int)) (v1 : List (List Int × Int × Int)) (v2 : Int) (v3 : Int) : Option R := loopAtL E (callT E tab) 38 Try.f38 1 [.r, .l, .r, .b] (vc (.d .fro (.sl (.pair (.sl (.int .i64)) (.pair (.int .i64) (.int .i64)))) v0) :: nn 4 (vc (.d .fro (.sl (.pair (.sl (.int .i64)) (.pair (.int .i64) (.int .i64)))) v1) :: vc (iL v2) :: vc (iL v3) :: nn 52 ([])))
noncomputable def impl_GoodGroups.l2 (v0 : List (List Int × Int × Int)) (v1 : List (List Int × Int × Int)) (v2 : Int) (v3 : Int) : Option (Bool) := tOf impl_GoodGroups.mk (impl_GoodGroups.q2 v0 v1 v2 v3)
noncomputable def impl_GoodGroups.t {γ : Type} (ret : (Bool) → Option γ) (lp2 : (List (List Int × Int × Int)) → (List (List Int × Int × Int)) → Int → Int → Option γ) (v0 : List (List Int × Int × Int)) : Option γ :=
 lp2 (v0) (v0) ((↑v0.length : Int)) ((0 : Int))
noncomputable def impl_GoodGroups.t2 {γ : Type} (ret : (Bool) → Option γ) (lp2 : (List (List Int × Int × Int)) → (List (List Int × Int × Int)) → Int → Int → Option γ) (v0 : List (List Int × Int × Int)) (v1 : List (List Int × Int × Int)) (v2 : Int) (v3 : Int) : Option γ :=
 bif decide (v3 < v2) then
  bif decide ((0 : Int) ≤ v3) then
   bif decide (v3.toNat < v1.length) then
    (impl_keyLength (v0)).bind fun (r0 : Int) =>
    (impl_isRowOf ((v1.getD v3.toNat ([], (0 : Int), (0 : Int))).fst) (r0)).bind fun (r1 : Bool) =>
    bif !r1 then
     ret (Bool.false)
    else
     (impl_isSum ((v1.getD v3.toNat ([], (0 : Int), (0 : Int))).snd.fst)).bind fun (r2 : Bool) =>
     bif !r2 then
      ret (Bool.false)
     else
      (impl_isSum ((v1.getD v3.toNat ([], (0 : Int), (0 : Int))).snd.snd)).bind fun (r3 : Bool) =>
      bif !r3 then
       ret (Bool.false)
      else
       bif (v1.getD v3.toNat ([], (0 : Int), (0 : Int))).snd.fst == (0 : Int) then
        bif (v1.getD v3.toNat ([], (0 : Int), (0 : Int))).snd.snd == (0 : Int) then
         ret (Bool.false)
        else
         bif decide (v3 > (0 : Int)) then
          bif decide ((0 : Int) ≤ IntKind.i64.wrap (v3 - (1 : Int))) then
           bif decide ((IntKind.i64.wrap (v3 - (1 : Int))).toNat < v0.length) then
            (impl_compareRows ((v0.getD (IntKind.i64.wrap (v3 - (1 : Int))).toNat ([], (0 : Int), (0 : Int))).fst) ((v1.getD v3.toNat ([], (0 : Int), (0 : Int))).fst)).bind fun (r4 : Int) =>
            bif decide (r4 ≥ (0 : Int)) then
             ret (Bool.false)
            else
             lp2 (v0) (v1) (v2) (IntKind.i64.wrap (v3 + (1 : Int)))
           else
            none
          else
           none
         else
          lp2 (v0) (v1) (v2) (IntKind.i64.wrap (v3 + (1 : Int)))
       else
        bif decide (v3 > (0 : Int)) then
         bif decide ((0 : Int) ≤ IntKind.i64.wrap (v3 - (1 : Int))) then
          bif decide ((IntKind.i64.wrap (v3 - (1 : Int))).toNat < v0.length) then
           (impl_compareRows ((v0.getD (IntKind.i64.wrap (v3 - (1 : Int))).toNat ([], (0 : Int), (0 : Int))).fst) ((v1.getD v3.toNat ([], (0 : Int), (0 : Int))).fst)).bind fun (r5 : Int) =>
           bif decide (r5 ≥ (0 : Int)) then
            ret (Bool.false)
           else
            lp2 (v0) (v1) (v2) (IntKind.i64.wrap (v3 + (1 : Int)))
          else
           none
         else
          none
        else
         lp2 (v0) (v1) (v2) (IntKind.i64.wrap (v3 + (1 : Int)))
   else
    none
  else
   none
 else
  ret (decide ((↑v0.length : Int) ≤ (60 : Int)))
theorem impl_GoodGroups.k (v0 : List (List Int × Int × Int)) : topL E (callT E tab) 38 Try.f38 (impl_GoodGroups.c v0) = impl_GoodGroups.t (fun b => some (impl_GoodGroups.mk b)) impl_GoodGroups.q2 v0 := by kernel_rfl
theorem impl_GoodGroups.k2 (v0 : List (List Int × Int × Int)) (v1 : List (List Int × Int × Int)) (v2 : Int) (v3 : Int) : roundL E (callT E tab) 38 Try.f38 1 [.r, .l, .r, .b] (vc (.d .fro (.sl (.pair (.sl (.int .i64)) (.pair (.int .i64) (.int .i64)))) v0) :: nn 4 (vc (.d .fro (.sl (.pair (.sl (.int .i64)) (.pair (.int .i64) (.int .i64)))) v1) :: vc (iL v2) :: vc (iL v3) :: nn 52 ([]))) = impl_GoodGroups.t2 (fun b => some (impl_GoodGroups.mk b)) impl_GoodGroups.q2 v0 v1 v2 v3 := by kernel_rfl
theorem impl_GoodGroups.eq (v0 : List (List Int × Int × Int)) {b : Bool} (h : impl_GoodGroups.t some impl_GoodGroups.l2 v0 = some b) : impl_GoodGroups v0 = some b := tOf_intro impl_GoodGroups.un (fun _ => by kernel_rfl) (vlim_fn (callT_le E tab) rfl rfl rfl ((impl_GoodGroups.k v0).trans ((by unfold impl_GoodGroups.t; repeat' first | exact Sub.ret | exact Sub.none | exact Sub.loop | apply Sub.cond | (apply Sub.bind; intro _) : Sub impl_GoodGroups.mk _ _) b h)))
theorem impl_GoodGroups.eq2 (v0 : List (List Int × Int × Int)) (v1 : List (List Int × Int × Int)) (v2 : Int) (v3 : Int) {b : Bool} (h : impl_GoodGroups.t2 some impl_GoodGroups.l2 v0 v1 v2 v3 = some b) : impl_GoodGroups.l2 v0 v1 v2 v3 = some b := tOf_intro impl_GoodGroups.un (fun _ => by kernel_rfl) (loopAtL_step ((impl_GoodGroups.k2 v0 v1 v2 v3).trans ((by unfold impl_GoodGroups.t2; repeat' first | exact Sub.ret | exact Sub.none | exact Sub.loop | apply Sub.cond | (apply Sub.bind; intro _) : Sub impl_GoodGroups.mk _ _) b h)))
noncomputable def impl_keyLength.t {γ : Type} (ret : (Int) → Option γ) (v0 : List (List Int × Int × Int)) : Option γ :=
 bif (↑v0.length : Int) == (0 : Int) then
  ret ((0 : Int))
 else
  bif decide (Int.toNat (0 : Int) < v0.length) then
   ret ((↑(v0.getD (Int.toNat (0 : Int)) ([], (0 : Int), (0 : Int))).fst.length : Int))
  else
   none
theorem impl_keyLength.k (v0 : List (List Int × Int × Int)) : topL E (callT E tab) 39 Try.f39 (impl_keyLength.c v0) = impl_keyLength.t (fun b => some (impl_keyLength.mk b)) v0 := by kernel_rfl
theorem impl_keyLength.eq (v0 : List (List Int × Int × Int)) {b : Int} (h : impl_keyLength.t some v0 = some b) : impl_keyLength v0 = some b := tOf_intro impl_keyLength.un (fun _ => by kernel_rfl) (vlim_fn (callT_le E tab) rfl rfl rfl ((impl_keyLength.k v0).trans ((by unfold impl_keyLength.t; repeat' first | exact Sub.ret | exact Sub.none | exact Sub.loop | apply Sub.cond | (apply Sub.bind; intro _) : Sub impl_keyLength.mk _ _) b h)))
noncomputable def impl_isRowOf.t {γ : Type} (ret : (Bool) → Option γ) (v0 : List Int) (v1 : Int) : Option γ :=
 (impl_GoodRow (v0)).bind fun (r0 : Bool) =>
 bif r0 then
  ret ((↑v0.length : Int) == v1)
 else
  ret (Bool.false)
theorem impl_isRowOf.k (v0 : List Int) (v1 : Int) : topL E (callT E tab) 72 Try.f72 (impl_isRowOf.c v0 v1) = impl_isRowOf.t (fun b => some (impl_isRowOf.mk b)) v0 v1 := by kernel_rfl
theorem impl_isRowOf.eq (v0 : List Int) (v1 : Int) {b : Bool} (h : impl_isRowOf.t some v0 v1 = some b) : impl_isRowOf v0 v1 = some b := tOf_intro impl_isRowOf.un (fun _ => by kernel_rfl) (vlim_fn (callT_le E tab) rfl rfl rfl ((impl_isRowOf.k v0 v1).trans ((by unfold impl_isRowOf.t; repeat' first | exact Sub.ret | exact Sub.none | exact Sub.loop | apply Sub.cond | (apply Sub.bind; intro _) : Sub impl_isRowOf.mk _ _) b h)))
noncomputable def impl_GoodRow.t {γ : Type} (ret : (Bool) → Option γ) (v0 : List Int) : Option γ :=
 bif decide ((↑v0.length : Int) ≤ (6 : Int)) then
  (xi0h (v0)).bind fun (r0 : Bool) =>
  ret (r0)
 else
  ret (Bool.false)
theorem impl_GoodRow.k (v0 : List Int) : topL E (callT E tab) 102 Try.f102 (impl_GoodRow.c v0) = impl_GoodRow.t (fun b => some (impl_GoodRow.mk b)) v0 := by kernel_rfl
theorem impl_GoodRow.eq (v0 : List Int) {b : Bool} (h : impl_GoodRow.t some v0 = some b) : impl_GoodRow v0 = some b := tOf_intro impl_GoodRow.un (fun _ => by kernel_rfl) (vlim_fn (callT_le E tab) rfl rfl rfl ((impl_GoodRow.k v0).trans ((by unfold impl_GoodRow.t; repeat' first | exact Sub.ret | exact Sub.none | exact Sub.loop | apply Sub.cond | (apply Sub.bind; intro _) : Sub impl_GoodRow.mk _ _) b h)))
noncomputable def xi0h.t {γ : Type} (ret : (Bool) → Option γ) (v0 : List Int) : Option γ :=
 (xs04 (v0)).bind fun (r0 : Bool) =>
 ret (!r0)
theorem xi0h.k (v0 : List Int) : topL E (callT E tab) 45 Try.f45 (xi0h.c v0) = xi0h.t (fun b => some (xi0h.mk b)) v0 := by kernel_rfl
theorem xi0h.eq (v0 : List Int) {b : Bool} (h : xi0h.t some v0 = some b) : xi0h v0 = some b := tOf_intro xi0h.un (fun _ => by kernel_rfl) (vlim_fn (callT_le E tab) rfl rfl rfl ((xi0h.k v0).trans ((by unfold xi0h.t; repeat' first | exact Sub.ret | exact Sub.none | exact Sub.loop | apply Sub.cond | (apply Sub.bind; intro _) : Sub xi0h.mk _ _) b h)))
noncomputable def xs04.t {γ : Type} (ret : (Bool) → Option γ) (v0 : List Int) : Option γ :=
 (xs06 (v0)).bind fun (r0 : Int) =>
 ret (decide (r0 ≥ (0 : Int)))
theorem xs04.k (v0 : List Int) : topL E (callT E tab) 83 Try.f83 (xs04.c v0) = xs04.t (fun b => some (xs04.mk b)) v0 := by kernel_rfl
theorem xs04.eq (v0 : List Int) {b : Bool} (h : xs04.t some v0 = some b) : xs04 v0 = some b := tOf_intro xs04.un (fun _ => by kernel_rfl) (vlim_fn (callT_le E tab) rfl rfl rfl ((xs04.k v0).trans ((by unfold xs04.t; repeat' first | exact Sub.ret | exact Sub.none | exact Sub.loop | apply Sub.cond | (apply Sub.bind; intro _) : Sub xs04.mk _ _) b h)))
noncomputable def xs06.q2 (v0 : List Int) (v1 : Int) (v2 : Int) : Option R := loopAtL E (callT E tab) 108 Try.f108 2 [.r, .l, .r, .b] (vc (.d .fro (.sl (.int .i64)) v0) :: vc (.fn 84 [.rp [.fn 62 []] 0]) :: nn 5 (vc (iL v1) :: vc (iL v2) :: nn 10 ([])))
noncomputable def xs06.l2 (v0 : List Int) (v1 : Int) (v2 : Int) : Option (Int) := tOf xs06.mk (xs06.q2 v0 v1 v2)
noncomputable def xs06.t {γ : Type} (ret : (Int) → Option γ) (lp2 : (List Int) → Int → Int → Option γ) (v0 : List Int) : Option γ :=
 lp2 (v0) ((↑v0.length : Int)) ((0 : Int))
noncomputable def xs06.t2 {γ : Type} (ret : (Int) → Option γ) (lp2 : (List Int) → Int → Int → Option γ) (v0 : List Int) (v1 : Int) (v2 : Int) : Option γ :=
 bif decide (v2 < v1) then
  bif decide ((0 : Int) ≤ v2) then
   bif decide (v2.toNat < v0.length) then
    (xi0g (v0.getD v2.toNat (0 : Int))).bind fun (r0 : Bool) =>
    bif r0 then
     ret (v2)
    else
     lp2 (v0) (v1) (IntKind.i64.wrap (v2 + (1 : Int)))
   else
    none
  else
   none
 else
  ret ((-1 : Int))
theorem xs06.k (v0 : List Int) : topL E (callT E tab) 108 Try.f108 (xs06.c v0) = xs06.t (fun b => some (xs06.mk b)) xs06.q2 v0 := by kernel_rfl
theorem xs06.k2 (v0 : List Int) (v1 : Int) (v2 : Int) : roundL E (callT E tab) 108 Try.f108 2 [.r, .l, .r, .b] (vc (.d .fro (.sl (.int .i64)) v0) :: vc (.fn 84 [.rp [.fn 62 []] 0]) :: nn 5 (vc (iL v1) :: vc (iL v2) :: nn 10 ([]))) = xs06.t2 (fun b => some (xs06.mk b)) xs06.q2 v0 v1 v2 := by kernel_rfl
theorem xs06.eq (v0 : List Int) {b : Int} (h : xs06.t some xs06.l2 v0 = some b) : xs06 v0 = some b := tOf_intro xs06.un (fun _ => by kernel_rfl) (vlim_fn (callT_le E tab) rfl rfl rfl ((xs06.k v0).trans ((by unfold xs06.t; repeat' first | exact Sub.ret | exact Sub.none | exact Sub.loop | apply Sub.cond | (apply Sub.bind; intro _) : Sub xs06.mk _ _) b h)))
theorem xs06.eq2 (v0 : List Int) (v1 : Int) (v2 : Int) {b : Int} (h : xs06.t2 some xs06.l2 v0 v1 v2 = some b) : xs06.l2 v0 v1 v2 = some b := tOf_intro xs06.un (fun _ => by kernel_rfl) (loopAtL_step ((xs06.k2 v0 v1 v2).trans ((by unfold xs06.t2; repeat' first | exact Sub.ret | exact Sub.none | exact Sub.loop | apply Sub.cond | (apply Sub.bind; intro _) : Sub xs06.mk _ _) b h)))
noncomputable def xi0g.t {γ : Type} (ret : (Bool) → Option γ) (v0 : Int) : Option γ :=
 (impl_isCell (v0)).bind fun (r0 : Bool) =>
 ret (!r0)
theorem xi0g.k (v0 : Int) : topL E (callT E tab) 84 Try.f84 (xi0g.c v0) = xi0g.t (fun b => some (xi0g.mk b)) v0 := by kernel_rfl
theorem xi0g.eq (v0 : Int) {b : Bool} (h : xi0g.t some v0 = some b) : xi0g v0 = some b := tOf_intro xi0g.un (fun _ => by kernel_rfl) (vlim_fn (callT_le E tab) rfl rfl rfl ((xi0g.k v0).trans ((by unfold xi0g.t; repeat' first | exact Sub.ret | exact Sub.none | exact Sub.loop | apply Sub.cond | (apply Sub.bind; intro _) : Sub xi0g.mk _ _) b h)))
end GoV

/- Equations of the program's functions (printed by wip/tools/emit.py). -/
namespace GoV
open Go Go.Proofs
set_option maxRecDepth 100000

noncomputable def impl_isCell.t {γ : Type} (ret : (Bool) → Option γ) (v0 : Int) : Option γ :=
 (impl_within (v0) ((-100000 : Int)) ((100000 : Int))).bind fun (r0 : Bool) =>
 ret (r0)
theorem impl_isCell.k (v0 : Int) : topL E (callT E tab) 62 Try.f62 (impl_isCell.c v0) = impl_isCell.t (fun b => some (impl_isCell.mk b)) v0 := by kernel_rfl
theorem impl_isCell.eq (v0 : Int) {b : Bool} (h : impl_isCell.t some v0 = some b) : impl_isCell v0 = some b := tOf_intro impl_isCell.un (fun _ => by kernel_rfl) (vlim_fn (callT_le E tab) rfl rfl rfl ((impl_isCell.k v0).trans ((by unfold impl_isCell.t; repeat' first | exact Sub.ret | exact Sub.none | exact Sub.loop | apply Sub.cond | (apply Sub.bind; intro _) : Sub impl_isCell.mk _ _) b h)))
noncomputable def impl_within.t {γ : Type} (ret : (Bool) → Option γ) (v0 : Int) (v1 : Int) (v2 : Int) : Option γ :=
 bif decide (v1 ≤ v0) then
  ret (decide (v0 ≤ v2))
 else
  ret (Bool.false)
theorem impl_within.k (v0 : Int) (v1 : Int) (v2 : Int) : topL E (callT E tab) 53 Try.f53 (impl_within.c v0 v1 v2) = impl_within.t (fun b => some (impl_within.mk b)) v0 v1 v2 := by kernel_rfl
theorem impl_within.eq (v0 : Int) (v1 : Int) (v2 : Int) {b : Bool} (h : impl_within.t some v0 v1 v2 = some b) : impl_within v0 v1 v2 = some b := tOf_intro impl_within.un (fun _ => by kernel_rfl) (vlim_fn (callT_le E tab) rfl rfl rfl ((impl_within.k v0 v1 v2).trans ((by unfold impl_within.t; repeat' first | exact Sub.ret | exact Sub.none | exact Sub.loop | apply Sub.cond | (apply Sub.bind; intro _) : Sub impl_within.mk _ _) b h)))
noncomputable def impl_isSum.t {γ : Type} (ret : (Bool) → Option γ) (v0 : Int) : Option γ :=
 (impl_within (v0) ((-100000000000000 : Int)) ((100000000000000 : Int))).bind fun (r0 : Bool) =>
 ret (r0)
theorem impl_isSum.k (v0 : Int) : topL E (callT E tab) 60 Try.f60 (impl_isSum.c v0) = impl_isSum.t (fun b => some (impl_isSum.mk b)) v0 := by kernel_rfl
theorem impl_isSum.eq (v0 : Int) {b : Bool} (h : impl_isSum.t some v0 = some b) : impl_isSum v0 = some b := tOf_intro impl_isSum.un (fun _ => by kernel_rfl) (vlim_fn (callT_le E tab) rfl rfl rfl ((impl_isSum.k v0).trans ((by unfold impl_isSum.t; repeat' first | exact Sub.ret | exact Sub.none | exact Sub.loop | apply Sub.cond | (apply Sub.bind; intro _) : Sub impl_isSum.mk _ _) b h)))
noncomputable def impl_compareRows.t {γ : Type} (ret : (Int) → Option γ) (v0 : List Int) (v1 : List Int) : Option γ :=
 (xs0k (v0) (v1)).bind fun (r0 : Int) =>
 ret (r0)
theorem impl_compareRows.k (v0 : List Int) (v1 : List Int) : topL E (callT E tab) 73 Try.f73 (impl_compareRows.c v0 v1) = impl_compareRows.t (fun b => some (impl_compareRows.mk b)) v0 v1 := by kernel_rfl
theorem impl_compareRows.eq (v0 : List Int) (v1 : List Int) {b : Int} (h : impl_compareRows.t some v0 v1 = some b) : impl_compareRows v0 v1 = some b := tOf_intro impl_compareRows.un (fun _ => by kernel_rfl) (vlim_fn (callT_le E tab) rfl rfl rfl ((impl_compareRows.k v0 v1).trans ((by unfold impl_compareRows.t; repeat' first | exact Sub.ret | exact Sub.none | exact Sub.loop | apply Sub.cond | (apply Sub.bind; intro _) : Sub impl_compareRows.mk _ _) b h)))
noncomputable def xs0k.q2 (v0 : List Int) (v1 : List Int) (v2 : List Int) (v3 : Int) (v4 : Int) : Option R := loopAtL E (callT E tab) 103 Try.f103 2 [.r, .l, .r, .b] (vc (.d .fro (.sl (.int .i64)) v0) :: vc (.d .fro (.sl (.int .i64)) v1) :: nn 7 (vc (.d .fro (.sl (.int .i64)) v2) :: vc (iL v3) :: vc (iL v4) :: nn 24 ([])))
noncomputable def xs0k.l2 (v0 : List Int) (v1 : List Int) (v2 : List Int) (v3 : Int) (v4 : Int) : Option (Int) := tOf xs0k.mk (xs0k.q2 v0 v1 v2 v3 v4)
noncomputable def xs0k.t {γ : Type} (ret : (Int) → Option γ) (lp2 : (List Int) → (List Int) → (List Int) → Int → Int → Option γ) (v0 : List Int) (v1 : List Int) : Option γ :=
 lp2 (v0) (v1) (v0) ((↑v0.length : Int)) ((0 : Int))
noncomputable def xs0k.t2 {γ : Type} (ret : (Int) → Option γ) (lp2 : (List Int) → (List Int) → (List Int) → Int → Int → Option γ) (v0 : List Int) (v1 : List Int) (v2 : List Int) (v3 : Int) (v4 : Int) : Option γ :=
 bif decide (v4 < v3) then
  bif decide ((0 : Int) ≤ v4) then
   bif decide (v4.toNat < v2.length) then
    bif decide (v4 ≥ (↑v1.length : Int)) then
     ret ((1 : Int))
    else
     bif decide ((0 : Int) ≤ v4) then
      bif decide (v4.toNat < v1.length) then
       (cmp_Compare_int (v2.getD v4.toNat (0 : Int)) (v1.getD v4.toNat (0 : Int))).bind fun (r0 : Int) =>
       bif r0 != (0 : Int) then
        ret (r0)
       else
        lp2 (v0) (v1) (v2) (v3) (IntKind.i64.wrap (v4 + (1 : Int)))
      else
       none
     else
      none
   else
    none
  else
   none
 else
  bif decide ((↑v0.length : Int) < (↑v1.length : Int)) then
   ret ((-1 : Int))
  else
   ret ((0 : Int))
theorem xs0k.k (v0 : List Int) (v1 : List Int) : topL E (callT E tab) 103 Try.f103 (xs0k.c v0 v1) = xs0k.t (fun b => some (xs0k.mk b)) xs0k.q2 v0 v1 := by kernel_rfl
theorem xs0k.k2 (v0 : List Int) (v1 : List Int) (v2 : List Int) (v3 : Int) (v4 : Int) : roundL E (callT E tab) 103 Try.f103 2 [.r, .l, .r, .b] (vc (.d .fro (.sl (.int .i64)) v0) :: vc (.d .fro (.sl (.int .i64)) v1) :: nn 7 (vc (.d .fro (.sl (.int .i64)) v2) :: vc (iL v3) :: vc (iL v4) :: nn 24 ([]))) = xs0k.t2 (fun b => some (xs0k.mk b)) xs0k.q2 v0 v1 v2 v3 v4 := by kernel_rfl
theorem xs0k.eq (v0 : List Int) (v1 : List Int) {b : Int} (h : xs0k.t some xs0k.l2 v0 v1 = some b) : xs0k v0 v1 = some b := tOf_intro xs0k.un (fun _ => by kernel_rfl) (vlim_fn (callT_le E tab) rfl rfl rfl ((xs0k.k v0 v1).trans ((by unfold xs0k.t; repeat' first | exact Sub.ret | exact Sub.none | exact Sub.loop | apply Sub.cond | (apply Sub.bind; intro _) : Sub xs0k.mk _ _) b h)))
theorem xs0k.eq2 (v0 : List Int) (v1 : List Int) (v2 : List Int) (v3 : Int) (v4 : Int) {b : Int} (h : xs0k.t2 some xs0k.l2 v0 v1 v2 v3 v4 = some b) : xs0k.l2 v0 v1 v2 v3 v4 = some b := tOf_intro xs0k.un (fun _ => by kernel_rfl) (loopAtL_step ((xs0k.k2 v0 v1 v2 v3 v4).trans ((by unfold xs0k.t2; repeat' first | exact Sub.ret | exact Sub.none | exact Sub.loop | apply Sub.cond | (apply Sub.bind; intro _) : Sub xs0k.mk _ _) b h)))
noncomputable def cmp_Compare_int.t {γ : Type} (ret : (Int) → Option γ) (v0 : Int) (v1 : Int) : Option γ :=
 (cmp_isNaN_int (v0)).bind fun (r0 : Bool) =>
 (cmp_isNaN_int (v1)).bind fun (r1 : Bool) =>
 bif r0 then
  bif r1 then
   ret ((0 : Int))
  else
   ret ((-1 : Int))
 else
  bif r1 then
   ret ((1 : Int))
  else
   bif decide (v0 < v1) then
    ret ((-1 : Int))
   else
    bif decide (v0 > v1) then
     ret ((1 : Int))
    else
     ret ((0 : Int))
theorem cmp_Compare_int.k (v0 : Int) (v1 : Int) : topL E (callT E tab) 115 Try.f115 (cmp_Compare_int.c v0 v1) = cmp_Compare_int.t (fun b => some (cmp_Compare_int.mk b)) v0 v1 := by kernel_rfl
theorem cmp_Compare_int.eq (v0 : Int) (v1 : Int) {b : Int} (h : cmp_Compare_int.t some v0 v1 = some b) : cmp_Compare_int v0 v1 = some b := tOf_intro cmp_Compare_int.un (fun _ => by kernel_rfl) (vlim_fn (callT_le E tab) rfl rfl rfl ((cmp_Compare_int.k v0 v1).trans ((by unfold cmp_Compare_int.t; repeat' first | exact Sub.ret | exact Sub.none | exact Sub.loop | apply Sub.cond | (apply Sub.bind; intro _) : Sub cmp_Compare_int.mk _ _) b h)))
noncomputable def cmp_isNaN_int.t {γ : Type} (ret : (Bool) → Option γ) (v0 : Int) : Option γ :=
 ret (v0 != v0)
theorem cmp_isNaN_int.k (v0 : Int) : topL E (callT E tab) 121 Try.f121 (cmp_isNaN_int.c v0) = cmp_isNaN_int.t (fun b => some (cmp_isNaN_int.mk b)) v0 := by kernel_rfl
theorem cmp_isNaN_int.eq (v0 : Int) {b : Bool} (h : cmp_isNaN_int.t some v0 = some b) : cmp_isNaN_int v0 = some b := tOf_intro cmp_isNaN_int.un (fun _ => by kernel_rfl) (vlim_fn (callT_le E tab) rfl rfl rfl ((cmp_isNaN_int.k v0).trans ((by unfold cmp_isNaN_int.t; repeat' first | exact Sub.ret | exact Sub.none | exact Sub.loop | apply Sub.cond | (apply Sub.bind; intro _) : Sub cmp_isNaN_int.mk _ _) b h)))
noncomputable def impl_grouped.q5 (v0 : List (List Int × Int × Int)) (v1 : List (List Int × Int × Int)) (v2 : Int) (v3 : Int) : Option R := loopAtL E (callT E tab) 40 Try.f40 1 [.r, .r, .r, .r, .l, .r, .b] (nn 4 (vc (.d .sha (.sl (.pair (.sl (.int .i64)) (.pair (.int .i64) (.int .i64)))) v0) :: vc (.d .deep (.sl (.pair (.sl (.int .i64)) (.pair (.int .i64) (.int .i64)))) v1) :: nn 7 (vc (.lent ⟨4, 0, none⟩ none) :: vc (iL v2) :: vc (iL v3) :: nn 54 ([]))))
noncomputable def impl_grouped.l5 (v0 : List (List Int × Int × Int)) (v1 : List (List Int × Int × Int)) (v2 : Int) (v3 : Int) : Option ((List (List Int × Int × Int)) × Bool) := tOf impl_grouped.mk (impl_grouped.q5 v0 v1 v2 v3)
noncomputable def impl_grouped.t {γ : Type} (ret : ((List (List Int × Int × Int)) × Bool) → Option γ) (lp5 : (List (List Int × Int × Int)) → (List (List Int × Int × Int)) → Int → Int → Option γ) (v0 : List (List (List Int × Int × Int))) : Option γ :=
 (xs0e (v0)).bind fun (r0 : (List (List Int × Int × Int))) =>
 (xs01 (r0)).bind fun (r1 : (List (List Int × Int × Int))) =>
 lp5 (r1) ([]) ((↑r1.length : Int)) ((0 : Int))
noncomputable def impl_grouped.t5 {γ : Type} (ret : ((List (List Int × Int × Int)) × Bool) → Option γ) (lp5 : (List (List Int × Int × Int)) → (List (List Int × Int × Int)) → Int → Int → Option γ) (v0 : List (List Int × Int × Int)) (v1 : List (List Int × Int × Int)) (v2 : Int) (v3 : Int) : Option γ :=
 bif decide (v3 < v2) then
  bif decide ((0 : Int) ≤ v3) then
   bif decide (v3.toNat < v0.length) then
    bif decide (v3.toNat < v0.length) then
     bif decide (IntKind.i64.wrap ((↑v1.length : Int) - (1 : Int)) ≥ (0 : Int)) then
      bif decide ((0 : Int) ≤ IntKind.i64.wrap ((↑v1.length : Int) - (1 : Int))) then
       bif decide ((IntKind.i64.wrap ((↑v1.length : Int) - (1 : Int))).toNat < v1.length) then
        bif decide ((IntKind.i64.wrap ((↑v1.length : Int) - (1 : Int))).toNat < v1.length) then
         bif decide ((IntKind.i64.wrap ((↑v1.length : Int) - (1 : Int))).toNat < v1.length) then
          (impl_compareRows ((v1.getD (IntKind.i64.wrap ((↑v1.length : Int) - (1 : Int))).toNat ([], (0 : Int), (0 : Int))).fst) ((v0.getD v3.toNat ([], (0 : Int), (0 : Int))).fst)).bind fun (r2 : Int) =>
          bif r2 == (0 : Int) then
           bif decide ((0 : Int) ≤ IntKind.i64.wrap ((↑v1.length : Int) - (1 : Int))) then
            bif decide ((IntKind.i64.wrap ((↑v1.length : Int) - (1 : Int))).toNat < v1.length) then
             bif decide ((IntKind.i64.wrap ((↑v1.length : Int) - (1 : Int))).toNat < v1.length) then
              bif decide ((0 : Int) ≤ IntKind.i64.wrap ((↑v1.length : Int) - (1 : Int))) then
               bif decide ((IntKind.i64.wrap ((↑v1.length : Int) - (1 : Int))).toNat < v1.length) then
                bif decide ((IntKind.i64.wrap ((↑v1.length : Int) - (1 : Int))).toNat < v1.length) then
                 bif decide ((0 : Int) ≤ IntKind.i64.wrap ((↑v1.length : Int) - (1 : Int))) then
                  bif decide   ((IntKind.i64.wrap ((↑v1.length : Int) - (1 : Int))).toNat <     (v1.set (IntKind.i64.wrap ((↑v1.length : Int) - (1 : Int))).toNat         ((v1.getD (IntKind.i64.wrap ((↑v1.length : Int) - (1 : Int))).toNat ([], (0 : Int), (0 : Int))).fst,           IntKind.i64.wrap             ((v1.getD (IntKind.i64.wrap ((↑v1.length : Int) - (1 : Int))).toNat ([], (0 : Int), (0 : Int))).snd.fst +               (v0.getD v3.toNat ([], (0 : Int), (0 : Int))).snd.fst),           (v1.getD (IntKind.i64.wrap ((↑v1.length : Int) - (1 : Int))).toNat                 ([], (0 : Int), (0 : Int))).snd.snd)).length) then
                   bif decide   ((IntKind.i64.wrap ((↑v1.length : Int) - (1 : Int))).toNat <     (v1.set (IntKind.i64.wrap ((↑v1.length : Int) - (1 : Int))).toNat         ((v1.getD (IntKind.i64.wrap ((↑v1.length : Int) - (1 : Int))).toNat ([], (0 : Int), (0 : Int))).fst,           IntKind.i64.wrap             ((v1.getD (IntKind.i64.wrap ((↑v1.length : Int) - (1 : Int))).toNat ([], (0 : Int), (0 : Int))).snd.fst +               (v0.getD v3.toNat ([], (0 : Int), (0 : Int))).snd.fst),           (v1.getD (IntKind.i64.wrap ((↑v1.length : Int) - (1 : Int))).toNat                 ([], (0 : Int), (0 : Int))).snd.snd)).length) then
                    bif decide ((0 : Int) ≤ IntKind.i64.wrap ((↑v1.length : Int) - (1 : Int))) then
                     bif decide   ((IntKind.i64.wrap ((↑v1.length : Int) - (1 : Int))).toNat <     (v1.set (IntKind.i64.wrap ((↑v1.length : Int) - (1 : Int))).toNat         ((v1.getD (IntKind.i64.wrap ((↑v1.length : Int) - (1 : Int))).toNat ([], (0 : Int), (0 : Int))).fst,           IntKind.i64.wrap             ((v1.getD (IntKind.i64.wrap ((↑v1.length : Int) - (1 : Int))).toNat ([], (0 : Int), (0 : Int))).snd.fst +               (v0.getD v3.toNat ([], (0 : Int), (0 : Int))).snd.fst),           (v1.getD (IntKind.i64.wrap ((↑v1.length : Int) - (1 : Int))).toNat                 ([], (0 : Int), (0 : Int))).snd.snd)).length) then
                      bif decide   ((IntKind.i64.wrap ((↑v1.length : Int) - (1 : Int))).toNat <     (v1.set (IntKind.i64.wrap ((↑v1.length : Int) - (1 : Int))).toNat         ((v1.getD (IntKind.i64.wrap ((↑v1.length : Int) - (1 : Int))).toNat ([], (0 : Int), (0 : Int))).fst,           IntKind.i64.wrap             ((v1.getD (IntKind.i64.wrap ((↑v1.length : Int) - (1 : Int))).toNat ([], (0 : Int), (0 : Int))).snd.fst +               (v0.getD v3.toNat ([], (0 : Int), (0 : Int))).snd.fst),           (v1.getD (IntKind.i64.wrap ((↑v1.length : Int) - (1 : Int))).toNat                 ([], (0 : Int), (0 : Int))).snd.snd)).length) then
                       lp5 (v0) ((v1.set (IntKind.i64.wrap ((↑v1.length : Int) - (1 : Int))).toNat       ((v1.getD (IntKind.i64.wrap ((↑v1.length : Int) - (1 : Int))).toNat ([], (0 : Int), (0 : Int))).fst,         IntKind.i64.wrap           ((v1.getD (IntKind.i64.wrap ((↑v1.length : Int) - (1 : Int))).toNat ([], (0 : Int), (0 : Int))).snd.fst +             (v0.getD v3.toNat ([], (0 : Int), (0 : Int))).snd.fst),         (v1.getD (IntKind.i64.wrap ((↑v1.length : Int) - (1 : Int))).toNat ([], (0 : Int), (0 : Int))).snd.snd)).set   (IntKind.i64.wrap ((↑v1.length : Int) - (1 : Int))).toNat   (((v1.set (IntKind.i64.wrap ((↑v1.length : Int) - (1 : Int))).toNat             ((v1.getD (IntKind.i64.wrap ((↑v1.length : Int) - (1 : Int))).toNat ([], (0 : Int), (0 : Int))).fst,               IntKind.i64.wrap                 ((v1.getD (IntKind.i64.wrap ((↑v1.length : Int) - (1 : Int))).toNat                         ([], (0 : Int), (0 : Int))).snd.fst +                   (v0.getD v3.toNat ([], (0 : Int), (0 : Int))).snd.fst),               (v1.getD (IntKind.i64.wrap ((↑v1.length : Int) - (1 : Int))).toNat                     ([], (0 : Int), (0 : Int))).snd.snd)).getD         (IntKind.i64.wrap ((↑v1.length : Int) - (1 : Int))).toNat ([], (0 : Int), (0 : Int))).fst,     ((v1.set (IntKind.i64.wrap ((↑v1.length : Int) - (1 : Int))).toNat               ((v1.getD (IntKind.i64.wrap ((↑v1.length : Int) - (1 : Int))).toNat ([], (0 : Int), (0 : Int))).fst,                 IntKind.i64.wrap                   ((v1.getD (IntKind.i64.wrap ((↑v1.length : Int) - (1 : Int))).toNat                           ([], (0 : Int), (0 : Int))).snd.fst +                     (v0.getD v3.toNat ([], (0 : Int), (0 : Int))).snd.fst),                 (v1.getD (IntKind.i64.wrap ((↑v1.length : Int) - (1 : Int))).toNat                       ([], (0 : Int), (0 : Int))).snd.snd)).getD           (IntKind.i64.wrap ((↑v1.length : Int) - (1 : Int))).toNat ([], (0 : Int), (0 : Int))).snd.fst,     IntKind.i64.wrap       (((v1.set (IntKind.i64.wrap ((↑v1.length : Int) - (1 : Int))).toNat                   ((v1.getD (IntKind.i64.wrap ((↑v1.length : Int) - (1 : Int))).toNat                         ([], (0 : Int), (0 : Int))).fst,                     IntKind.i64.wrap                       ((v1.getD (IntKind.i64.wrap ((↑v1.length : Int) - (1 : Int))).toNat                               ([], (0 : Int), (0 : Int))).snd.fst +                         (v0.getD v3.toNat ([], (0 : Int), (0 : Int))).snd.fst),                     (v1.getD (IntKind.i64.wrap ((↑v1.length : Int) - (1 : Int))).toNat                           ([], (0 : Int), (0 : Int))).snd.snd)).getD               (IntKind.i64.wrap ((↑v1.length : Int) - (1 : Int))).toNat ([], (0 : Int), (0 : Int))).snd.snd +         (v0.getD v3.toNat ([], (0 : Int), (0 : Int))).snd.snd))) (v2) (IntKind.i64.wrap (v3 + (1 : Int)))
                      else
                       none
                     else
                      none
                    else
                     none
                   else
                    none
                  else
                   none
                 else
                  none
                else
                 none
               else
                none
              else
               none
             else
              none
            else
             none
           else
            none
          else
           (impl_Row_own ((v0.getD v3.toNat ([], (0 : Int), (0 : Int))).fst)).bind fun (r3 : (List Int)) =>
           bif decide   (v1.length +       [(r3, (v0.getD v3.toNat ([], (0 : Int), (0 : Int))).snd.fst,             (v0.getD v3.toNat ([], (0 : Int), (0 : Int))).snd.snd)].length ≤     (4294967296 : Nat)) then
            lp5 (v0) (v1 ++   [(r3, (v0.getD v3.toNat ([], (0 : Int), (0 : Int))).snd.fst, (v0.getD v3.toNat ([], (0 : Int), (0 : Int))).snd.snd)]) (v2) (IntKind.i64.wrap (v3 + (1 : Int)))
           else
            none
         else
          none
        else
         none
       else
        none
      else
       none
     else
      (impl_Row_own ((v0.getD v3.toNat ([], (0 : Int), (0 : Int))).fst)).bind fun (r4 : (List Int)) =>
      bif decide   (v1.length +       [(r4, (v0.getD v3.toNat ([], (0 : Int), (0 : Int))).snd.fst,             (v0.getD v3.toNat ([], (0 : Int), (0 : Int))).snd.snd)].length ≤     (4294967296 : Nat)) then
       lp5 (v0) (v1 ++   [(r4, (v0.getD v3.toNat ([], (0 : Int), (0 : Int))).snd.fst, (v0.getD v3.toNat ([], (0 : Int), (0 : Int))).snd.snd)]) (v2) (IntKind.i64.wrap (v3 + (1 : Int)))
      else
       none
    else
     none
   else
    none
  else
   none
 else
  (xs03 (v1)).bind fun (r5 : (List (List Int × Int × Int))) =>
  (impl_GoodGroups (r5)).bind fun (r6 : Bool) =>
  bif !r6 then
   ret ([], Bool.false)
  else
   ret (r5, Bool.true)
theorem impl_grouped.k (v0 : List (List (List Int × Int × Int))) : topL E (callT E tab) 40 Try.f40 (impl_grouped.c v0) = impl_grouped.t (fun b => some (impl_grouped.mk b)) impl_grouped.q5 v0 := by kernel_rfl
theorem impl_grouped.k5 (v0 : List (List Int × Int × Int)) (v1 : List (List Int × Int × Int)) (v2 : Int) (v3 : Int) : roundL E (callT E tab) 40 Try.f40 1 [.r, .r, .r, .r, .l, .r, .b] (nn 4 (vc (.d .sha (.sl (.pair (.sl (.int .i64)) (.pair (.int .i64) (.int .i64)))) v0) :: vc (.d .deep (.sl (.pair (.sl (.int .i64)) (.pair (.int .i64) (.int .i64)))) v1) :: nn 7 (vc (.lent ⟨4, 0, none⟩ none) :: vc (iL v2) :: vc (iL v3) :: nn 54 ([])))) = impl_grouped.t5 (fun b => some (impl_grouped.mk b)) impl_grouped.q5 v0 v1 v2 v3 := by kernel_rfl
theorem impl_grouped.eq (v0 : List (List (List Int × Int × Int))) {b : (List (List Int × Int × Int)) × Bool} (h : impl_grouped.t some impl_grouped.l5 v0 = some b) : impl_grouped v0 = some b := tOf_intro impl_grouped.un (fun _ => by kernel_rfl) (vlim_fn (callT_le E tab) rfl rfl rfl ((impl_grouped.k v0).trans ((by unfold impl_grouped.t; repeat' first | exact Sub.ret | exact Sub.none | exact Sub.loop | apply Sub.cond | (apply Sub.bind; intro _) : Sub impl_grouped.mk _ _) b h)))
theorem impl_grouped.eq5 (v0 : List (List Int × Int × Int)) (v1 : List (List Int × Int × Int)) (v2 : Int) (v3 : Int) {b : (List (List Int × Int × Int)) × Bool} (h : impl_grouped.t5 some impl_grouped.l5 v0 v1 v2 v3 = some b) : impl_grouped.l5 v0 v1 v2 v3 = some b := tOf_intro impl_grouped.un (fun _ => by kernel_rfl) (loopAtL_step ((impl_grouped.k5 v0 v1 v2 v3).trans ((by unfold impl_grouped.t5; repeat' first | exact Sub.ret | exact Sub.none | exact Sub.loop | apply Sub.cond | (apply Sub.bind; intro _) : Sub impl_grouped.mk _ _) b h)))
noncomputable def xs0e.q11 (v0 : List (List Int × Int × Int)) (v1 : List (List (List Int × Int × Int))) (v2 : Int) (v3 : Int) : Option R := loopAtL E (callT E tab) 74 Try.f74 1 [.r, .r, .r, .r, .l, .r, .b] (nn 6 (vc (.d .sha (.sl (.pair (.sl (.int .i64)) (.pair (.int .i64) (.int .i64)))) v0) :: nn 18 (vc (.d .fro (.sl (.sl (.pair (.sl (.int .i64)) (.pair (.int .i64) (.int .i64))))) v1) :: vc (iL v2) :: vc (iL v3) :: nn 8 ([]))))
noncomputable def xs0e.l11 (v0 : List (List Int × Int × Int)) (v1 : List (List (List Int × Int × Int))) (v2 : Int) (v3 : Int) : Option ((List (List Int × Int × Int))) := tOf xs0e.mk (xs0e.q11 v0 v1 v2 v3)
noncomputable def xs0e.q3 (v0 : List (List (List Int × Int × Int))) (v1 : Int) (v2 : List (List (List Int × Int × Int))) (v3 : Int) (v4 : Int) : Option R := loopAtL E (callT E tab) 74 Try.f74 1 [.r, .r, .l, .r, .b] (vc (.d .fro (.sl (.sl (.pair (.sl (.int .i64)) (.pair (.int .i64) (.int .i64))))) v0) :: nn 2 (vc (iL v1) :: nn 5 (vc (.d .fro (.sl (.sl (.pair (.sl (.int .i64)) (.pair (.int .i64) (.int .i64))))) v2) :: vc (iL v3) :: vc (iL v4) :: nn 24 ([]))))
noncomputable def xs0e.l3 (v0 : List (List (List Int × Int × Int))) (v1 : Int) (v2 : List (List (List Int × Int × Int))) (v3 : Int) (v4 : Int) : Option ((List (List Int × Int × Int))) := tOf xs0e.mk (xs0e.q3 v0 v1 v2 v3 v4)
noncomputable def xs0e.t {γ : Type} (ret : ((List (List Int × Int × Int))) → Option γ) (lp11 : (List (List Int × Int × Int)) → (List (List (List Int × Int × Int))) → Int → Int → Option γ) (lp3 : (List (List (List Int × Int × Int))) → Int → (List (List (List Int × Int × Int))) → Int → Int → Option γ) (v0 : List (List (List Int × Int × Int))) : Option γ :=
 lp3 (v0) ((0 : Int)) (v0) ((↑v0.length : Int)) ((0 : Int))
noncomputable def xs0e.t11 {γ : Type} (ret : ((List (List Int × Int × Int))) → Option γ) (lp11 : (List (List Int × Int × Int)) → (List (List (List Int × Int × Int))) → Int → Int → Option γ) (lp3 : (List (List (List Int × Int × Int))) → Int → (List (List (List Int × Int × Int))) → Int → Int → Option γ) (v0 : List (List Int × Int × Int)) (v1 : List (List (List Int × Int × Int))) (v2 : Int) (v3 : Int) : Option γ :=
 bif decide (v3 < v2) then
  bif decide ((0 : Int) ≤ v3) then
   bif decide (v3.toNat < v1.length) then
    bif decide (v0.length + (v1.getD v3.toNat []).length ≤ (4294967296 : Nat)) then
     lp11 (v0 ++ v1.getD v3.toNat []) (v1) (v2) (IntKind.i64.wrap (v3 + (1 : Int)))
    else
     none
   else
    none
  else
   none
 else
  ret (v0)
noncomputable def xs0e.t3 {γ : Type} (ret : ((List (List Int × Int × Int))) → Option γ) (lp11 : (List (List Int × Int × Int)) → (List (List (List Int × Int × Int))) → Int → Int → Option γ) (lp3 : (List (List (List Int × Int × Int))) → Int → (List (List (List Int × Int × Int))) → Int → Int → Option γ) (v0 : List (List (List Int × Int × Int))) (v1 : Int) (v2 : List (List (List Int × Int × Int))) (v3 : Int) (v4 : Int) : Option γ :=
 bif decide (v4 < v3) then
  bif decide ((0 : Int) ≤ v4) then
   bif decide (v4.toNat < v2.length) then
    bif decide (IntKind.i64.wrap (v1 + (↑(v2.getD v4.toNat []).length : Int)) < (0 : Int)) then
     none
    else
     lp3 (v0) (IntKind.i64.wrap (v1 + (↑(v2.getD v4.toNat []).length : Int))) (v2) (v3) (IntKind.i64.wrap (v4 + (1 : Int)))
   else
    none
  else
   none
 else
  (xs0c (v1)).bind fun (r0 : (List (List Int × Int × Int))) =>
  lp11 (r0) (v0) ((↑v0.length : Int)) ((0 : Int))
theorem xs0e.k (v0 : List (List (List Int × Int × Int))) : topL E (callT E tab) 74 Try.f74 (xs0e.c v0) = xs0e.t (fun b => some (xs0e.mk b)) xs0e.q11 xs0e.q3 v0 := by kernel_rfl
theorem xs0e.k11 (v0 : List (List Int × Int × Int)) (v1 : List (List (List Int × Int × Int))) (v2 : Int) (v3 : Int) : roundL E (callT E tab) 74 Try.f74 1 [.r, .r, .r, .r, .l, .r, .b] (nn 6 (vc (.d .sha (.sl (.pair (.sl (.int .i64)) (.pair (.int .i64) (.int .i64)))) v0) :: nn 18 (vc (.d .fro (.sl (.sl (.pair (.sl (.int .i64)) (.pair (.int .i64) (.int .i64))))) v1) :: vc (iL v2) :: vc (iL v3) :: nn 8 ([])))) = xs0e.t11 (fun b => some (xs0e.mk b)) xs0e.q11 xs0e.q3 v0 v1 v2 v3 := by kernel_rfl
theorem xs0e.k3 (v0 : List (List (List Int × Int × Int))) (v1 : Int) (v2 : List (List (List Int × Int × Int))) (v3 : Int) (v4 : Int) : roundL E (callT E tab) 74 Try.f74 1 [.r, .r, .l, .r, .b] (vc (.d .fro (.sl (.sl (.pair (.sl (.int .i64)) (.pair (.int .i64) (.int .i64))))) v0) :: nn 2 (vc (iL v1) :: nn 5 (vc (.d .fro (.sl (.sl (.pair (.sl (.int .i64)) (.pair (.int .i64) (.int .i64))))) v2) :: vc (iL v3) :: vc (iL v4) :: nn 24 ([])))) = xs0e.t3 (fun b => some (xs0e.mk b)) xs0e.q11 xs0e.q3 v0 v1 v2 v3 v4 := by kernel_rfl
theorem xs0e.eq (v0 : List (List (List Int × Int × Int))) {b : (List (List Int × Int × Int))} (h : xs0e.t some xs0e.l11 xs0e.l3 v0 = some b) : xs0e v0 = some b := tOf_intro xs0e.un (fun _ => by kernel_rfl) (vlim_fn (callT_le E tab) rfl rfl rfl ((xs0e.k v0).trans ((by unfold xs0e.t; repeat' first | exact Sub.ret | exact Sub.none | exact Sub.loop | apply Sub.cond | (apply Sub.bind; intro _) : Sub xs0e.mk _ _) b h)))
theorem xs0e.eq11 (v0 : List (List Int × Int × Int)) (v1 : List (List (List Int × Int × Int))) (v2 : Int) (v3 : Int) {b : (List (List Int × Int × Int))} (h : xs0e.t11 some xs0e.l11 xs0e.l3 v0 v1 v2 v3 = some b) : xs0e.l11 v0 v1 v2 v3 = some b := tOf_intro xs0e.un (fun _ => by kernel_rfl) (loopAtL_step ((xs0e.k11 v0 v1 v2 v3).trans ((by unfold xs0e.t11; repeat' first | exact Sub.ret | exact Sub.none | exact Sub.loop | apply Sub.cond | (apply Sub.bind; intro _) : Sub xs0e.mk _ _) b h)))
theorem xs0e.eq3 (v0 : List (List (List Int × Int × Int))) (v1 : Int) (v2 : List (List (List Int × Int × Int))) (v3 : Int) (v4 : Int) {b : (List (List Int × Int × Int))} (h : xs0e.t3 some xs0e.l11 xs0e.l3 v0 v1 v2 v3 v4 = some b) : xs0e.l3 v0 v1 v2 v3 v4 = some b := tOf_intro xs0e.un (fun _ => by kernel_rfl) (loopAtL_step ((xs0e.k3 v0 v1 v2 v3 v4).trans ((by unfold xs0e.t3; repeat' first | exact Sub.ret | exact Sub.none | exact Sub.loop | apply Sub.cond | (apply Sub.bind; intro _) : Sub xs0e.mk _ _) b h)))
noncomputable def xs0c.t {γ : Type} (ret : ((List (List Int × Int × Int))) → Option γ) (v0 : Int) : Option γ :=
 bif decide (v0 < (0 : Int)) then
  none
 else
  bif decide (IntKind.i64.wrap (v0 - IntKind.i64.wrap ((0 : Int) - (0 : Int))) > (0 : Int)) then
   bif decide ((1 : Int) ≤ IntKind.i64.wrap (v0 - IntKind.i64.wrap ((0 : Int) - (0 : Int)))) then
    bif decide (IntKind.i64.wrap (v0 - IntKind.i64.wrap ((0 : Int) - (0 : Int))) ≤ (↑(4294967296 : Nat) : Int)) then
     ret (List.take ((0 : Int) - Option.none.getD (0 : Int)).toNat   (List.drop (Option.none.getD (0 : Int)).toNat     (List.replicate (IntKind.i64.wrap (v0 - IntKind.i64.wrap ((0 : Int) - (0 : Int)))).toNat       ([], (0 : Int), (0 : Int)))))
    else
     none
   else
    none
  else
   ret ([])
theorem xs0c.k (v0 : Int) : topL E (callT E tab) 104 Try.f104 (xs0c.c v0) = xs0c.t (fun b => some (xs0c.mk b)) v0 := by kernel_rfl
theorem xs0c.eq (v0 : Int) {b : (List (List Int × Int × Int))} (h : xs0c.t some v0 = some b) : xs0c v0 = some b := tOf_intro xs0c.un (fun _ => by kernel_rfl) (vlim_fn (callT_le E tab) rfl rfl rfl ((xs0c.k v0).trans ((by unfold xs0c.t; repeat' first | exact Sub.ret | exact Sub.none | exact Sub.loop | apply Sub.cond | (apply Sub.bind; intro _) : Sub xs0c.mk _ _) b h)))
noncomputable def xs01.t {γ : Type} (ret : ((List (List Int × Int × Int))) → Option γ) (v0 : List (List Int × Int × Int)) : Option γ :=
 (xs0b (v0) ((↑v0.length : Int))).bind fun (r0 : (List (List Int × Int × Int))) =>
 ret (r0)
theorem xs01.k (v0 : List (List Int × Int × Int)) : topL E (callT E tab) 75 Try.f75 (xs01.c v0) = xs01.t (fun b => some (xs01.mk b)) v0 := by kernel_rfl
theorem xs01.eq (v0 : List (List Int × Int × Int)) {b : (List (List Int × Int × Int))} (h : xs01.t some v0 = some b) : xs01 v0 = some b := tOf_intro xs01.un (fun _ => by kernel_rfl) (vlim_fn (callT_le E tab) rfl rfl rfl ((xs01.k v0).trans ((by unfold xs01.t; repeat' first | exact Sub.ret | exact Sub.none | exact Sub.loop | apply Sub.cond | (apply Sub.bind; intro _) : Sub xs01.mk _ _) b h)))
noncomputable def xs0b.q9 (v0 : List (List Int × Int × Int)) (v1 : Int) (v2 : Int) (v3 : Int) (v4 : Int) : Option R := loopAtL E (callT E tab) 105 Try.f105 3 [.r, .r, .r, .r, .b, .o, .r, .b, .r, .l, .b] (⟨(.val .one), [.d .sha (.sl (.pair (.sl (.int .i64)) (.pair (.int .i64) (.int .i64)))) v0], true, false, false, 0, 0⟩ :: vc (iL v1) :: vc (.fn 76 []) :: nn 3 (vc (iL v2) :: vc (iL v3) :: vc (iL v4) :: nn 54 ([])))
noncomputable def xs0b.l9 (v0 : List (List Int × Int × Int)) (v1 : Int) (v2 : Int) (v3 : Int) (v4 : Int) : Option ((List (List Int × Int × Int))) := tOf xs0b.mk (xs0b.q9 v0 v1 v2 v3 v4)
noncomputable def xs0b.q7 (v0 : List (List Int × Int × Int)) (v1 : Int) (v2 : Int) : Option R := loopAtL E (callT E tab) 105 Try.f105 3 [.r, .r, .r, .r, .b] (⟨(.val .one), [.d .sha (.sl (.pair (.sl (.int .i64)) (.pair (.int .i64) (.int .i64)))) v0], true, false, false, 0, 0⟩ :: vc (iL v1) :: vc (.fn 76 []) :: nn 3 (vc (iL v2) :: nn 56 ([])))
noncomputable def xs0b.l7 (v0 : List (List Int × Int × Int)) (v1 : Int) (v2 : Int) : Option ((List (List Int × Int × Int))) := tOf xs0b.mk (xs0b.q7 v0 v1 v2)
noncomputable def xs0b.q2 (v0 : List (List Int × Int × Int)) (v1 : Int) (v2 : Int) (v3 : Int) (v4 : Int) : Option R := loopAtL E (callT E tab) 105 Try.f105 3 [.r, .r, .l, .b] (⟨(.val .one), [.d .sha (.sl (.pair (.sl (.int .i64)) (.pair (.int .i64) (.int .i64)))) v0], true, false, false, 0, 0⟩ :: vc (iL v1) :: vc (.fn 76 []) :: nn 3 (vc (iL v2) :: vc (iL v3) :: vc (iL v4) :: nn 54 ([])))
noncomputable def xs0b.l2 (v0 : List (List Int × Int × Int)) (v1 : Int) (v2 : Int) (v3 : Int) (v4 : Int) : Option ((List (List Int × Int × Int))) := tOf xs0b.mk (xs0b.q2 v0 v1 v2 v3 v4)
noncomputable def xs0b.t {γ : Type} (ret : ((List (List Int × Int × Int))) → Option γ) (lp9 : (List (List Int × Int × Int)) → Int → Int → Int → Int → Option γ) (lp7 : (List (List Int × Int × Int)) → Int → Int → Option γ) (lp2 : (List (List Int × Int × Int)) → Int → Int → Int → Int → Option γ) (v0 : List (List Int × Int × Int)) (v1 : Int) : Option γ :=
 lp2 (v0) (v1) ((20 : Int)) ((0 : Int)) ((20 : Int))
noncomputable def xs0b.t9 {γ : Type} (ret : ((List (List Int × Int × Int))) → Option γ) (lp9 : (List (List Int × Int × Int)) → Int → Int → Int → Int → Option γ) (lp7 : (List (List Int × Int × Int)) → Int → Int → Option γ) (lp2 : (List (List Int × Int × Int)) → Int → Int → Int → Int → Option γ) (v0 : List (List Int × Int × Int)) (v1 : Int) (v2 : Int) (v3 : Int) (v4 : Int) : Option γ :=
 bif decide (v4 ≤ v1) then
  (xs09 (v0) (v3) (IntKind.i64.wrap (v3 + v2)) (v4)).bind fun (r2 : (List (List Int × Int × Int))) =>
  lp9 (r2) (v1) (v2) (v4) (IntKind.i64.wrap (v4 + IntKind.i64.wrap ((2 : Int) * v2)))
 else
  bif decide (IntKind.i64.wrap (v3 + v2) < v1) then
   (xs09 (v0) (v3) (IntKind.i64.wrap (v3 + v2)) (v1)).bind fun (r3 : (List (List Int × Int × Int))) =>
   lp7 (r3) (v1) (IntKind.i64.wrap (v2 * (2 : Int)))
  else
   lp7 (v0) (v1) (IntKind.i64.wrap (v2 * (2 : Int)))
noncomputable def xs0b.t7 {γ : Type} (ret : ((List (List Int × Int × Int))) → Option γ) (lp9 : (List (List Int × Int × Int)) → Int → Int → Int → Int → Option γ) (lp7 : (List (List Int × Int × Int)) → Int → Int → Option γ) (lp2 : (List (List Int × Int × Int)) → Int → Int → Int → Int → Option γ) (v0 : List (List Int × Int × Int)) (v1 : Int) (v2 : Int) : Option γ :=
 bif decide (v2 < v1) then
  lp9 (v0) (v1) (v2) ((0 : Int)) (IntKind.i64.wrap ((2 : Int) * v2))
 else
  ret (v0)
noncomputable def xs0b.t2 {γ : Type} (ret : ((List (List Int × Int × Int))) → Option γ) (lp9 : (List (List Int × Int × Int)) → Int → Int → Int → Int → Option γ) (lp7 : (List (List Int × Int × Int)) → Int → Int → Option γ) (lp2 : (List (List Int × Int × Int)) → Int → Int → Int → Int → Option γ) (v0 : List (List Int × Int × Int)) (v1 : Int) (v2 : Int) (v3 : Int) (v4 : Int) : Option γ :=
 bif decide (v4 ≤ v1) then
  (xs05 (v0) (v3) (v4)).bind fun (r0 : (List (List Int × Int × Int))) =>
  lp2 (r0) (v1) (v2) (v4) (IntKind.i64.wrap (v4 + v2))
 else
  (xs05 (v0) (v3) (v1)).bind fun (r1 : (List (List Int × Int × Int))) =>
  lp7 (r1) (v1) (v2)
theorem xs0b.k (v0 : List (List Int × Int × Int)) (v1 : Int) : topL E (callT E tab) 105 Try.f105 (xs0b.c v0 v1) = xs0b.t (fun b => some (xs0b.mk b)) xs0b.q9 xs0b.q7 xs0b.q2 v0 v1 := by kernel_rfl
theorem xs0b.k9 (v0 : List (List Int × Int × Int)) (v1 : Int) (v2 : Int) (v3 : Int) (v4 : Int) : roundL E (callT E tab) 105 Try.f105 3 [.r, .r, .r, .r, .b, .o, .r, .b, .r, .l, .b] (⟨(.val .one), [.d .sha (.sl (.pair (.sl (.int .i64)) (.pair (.int .i64) (.int .i64)))) v0], true, false, false, 0, 0⟩ :: vc (iL v1) :: vc (.fn 76 []) :: nn 3 (vc (iL v2) :: vc (iL v3) :: vc (iL v4) :: nn 54 ([]))) = xs0b.t9 (fun b => some (xs0b.mk b)) xs0b.q9 xs0b.q7 xs0b.q2 v0 v1 v2 v3 v4 := by kernel_rfl
theorem xs0b.k7 (v0 : List (List Int × Int × Int)) (v1 : Int) (v2 : Int) : roundL E (callT E tab) 105 Try.f105 3 [.r, .r, .r, .r, .b] (⟨(.val .one), [.d .sha (.sl (.pair (.sl (.int .i64)) (.pair (.int .i64) (.int .i64)))) v0], true, false, false, 0, 0⟩ :: vc (iL v1) :: vc (.fn 76 []) :: nn 3 (vc (iL v2) :: nn 56 ([]))) = xs0b.t7 (fun b => some (xs0b.mk b)) xs0b.q9 xs0b.q7 xs0b.q2 v0 v1 v2 := by kernel_rfl
theorem xs0b.k2 (v0 : List (List Int × Int × Int)) (v1 : Int) (v2 : Int) (v3 : Int) (v4 : Int) : roundL E (callT E tab) 105 Try.f105 3 [.r, .r, .l, .b] (⟨(.val .one), [.d .sha (.sl (.pair (.sl (.int .i64)) (.pair (.int .i64) (.int .i64)))) v0], true, false, false, 0, 0⟩ :: vc (iL v1) :: vc (.fn 76 []) :: nn 3 (vc (iL v2) :: vc (iL v3) :: vc (iL v4) :: nn 54 ([]))) = xs0b.t2 (fun b => some (xs0b.mk b)) xs0b.q9 xs0b.q7 xs0b.q2 v0 v1 v2 v3 v4 := by kernel_rfl
theorem xs0b.eq (v0 : List (List Int × Int × Int)) (v1 : Int) {b : (List (List Int × Int × Int))} (h : xs0b.t some xs0b.l9 xs0b.l7 xs0b.l2 v0 v1 = some b) : xs0b v0 v1 = some b := tOf_intro xs0b.un (fun _ => by kernel_rfl) (vlim_fn (callT_le E tab) rfl rfl rfl ((xs0b.k v0 v1).trans ((by unfold xs0b.t; repeat' first | exact Sub.ret | exact Sub.none | exact Sub.loop | apply Sub.cond | (apply Sub.bind; intro _) : Sub xs0b.mk _ _) b h)))
theorem xs0b.eq9 (v0 : List (List Int × Int × Int)) (v1 : Int) (v2 : Int) (v3 : Int) (v4 : Int) {b : (List (List Int × Int × Int))} (h : xs0b.t9 some xs0b.l9 xs0b.l7 xs0b.l2 v0 v1 v2 v3 v4 = some b) : xs0b.l9 v0 v1 v2 v3 v4 = some b := tOf_intro xs0b.un (fun _ => by kernel_rfl) (loopAtL_step ((xs0b.k9 v0 v1 v2 v3 v4).trans ((by unfold xs0b.t9; repeat' first | exact Sub.ret | exact Sub.none | exact Sub.loop | apply Sub.cond | (apply Sub.bind; intro _) : Sub xs0b.mk _ _) b h)))
theorem xs0b.eq7 (v0 : List (List Int × Int × Int)) (v1 : Int) (v2 : Int) {b : (List (List Int × Int × Int))} (h : xs0b.t7 some xs0b.l9 xs0b.l7 xs0b.l2 v0 v1 v2 = some b) : xs0b.l7 v0 v1 v2 = some b := tOf_intro xs0b.un (fun _ => by kernel_rfl) (loopAtL_step ((xs0b.k7 v0 v1 v2).trans ((by unfold xs0b.t7; repeat' first | exact Sub.ret | exact Sub.none | exact Sub.loop | apply Sub.cond | (apply Sub.bind; intro _) : Sub xs0b.mk _ _) b h)))
theorem xs0b.eq2 (v0 : List (List Int × Int × Int)) (v1 : Int) (v2 : Int) (v3 : Int) (v4 : Int) {b : (List (List Int × Int × Int))} (h : xs0b.t2 some xs0b.l9 xs0b.l7 xs0b.l2 v0 v1 v2 v3 v4 = some b) : xs0b.l2 v0 v1 v2 v3 v4 = some b := tOf_intro xs0b.un (fun _ => by kernel_rfl) (loopAtL_step ((xs0b.k2 v0 v1 v2 v3 v4).trans ((by unfold xs0b.t2; repeat' first | exact Sub.ret | exact Sub.none | exact Sub.loop | apply Sub.cond | (apply Sub.bind; intro _) : Sub xs0b.mk _ _) b h)))
noncomputable def xs05.q4 (v0 : List (List Int × Int × Int)) (v1 : Int) (v2 : Int) (v3 : Int) (v4 : Int) : Option R := loopAtL E (callT E tab) 116 Try.f116 4 [.r, .b, .o, .r, .l, .b, .r, .b] (⟨(.val .one), [.d .sha (.sl (.pair (.sl (.int .i64)) (.pair (.int .i64) (.int .i64)))) v0], true, false, false, 0, 0⟩ :: vc (iL v1) :: vc (iL v2) :: vc (.fn 76 []) :: nn 4 (vc (iL v3) :: vc (iL v4) :: nn 43 ([])))
noncomputable def xs05.l4 (v0 : List (List Int × Int × Int)) (v1 : Int) (v2 : Int) (v3 : Int) (v4 : Int) : Option ((List (List Int × Int × Int))) := tOf xs05.mk (xs05.q4 v0 v1 v2 v3 v4)
noncomputable def xs05.q1 (v0 : List (List Int × Int × Int)) (v1 : Int) (v2 : Int) (v3 : Int) : Option R := loopAtL E (callT E tab) 116 Try.f116 4 [.r, .b] (⟨(.val .one), [.d .sha (.sl (.pair (.sl (.int .i64)) (.pair (.int .i64) (.int .i64)))) v0], true, false, false, 0, 0⟩ :: vc (iL v1) :: vc (iL v2) :: vc (.fn 76 []) :: nn 4 (vc (iL v3) :: nn 44 ([])))
noncomputable def xs05.l1 (v0 : List (List Int × Int × Int)) (v1 : Int) (v2 : Int) (v3 : Int) : Option ((List (List Int × Int × Int))) := tOf xs05.mk (xs05.q1 v0 v1 v2 v3)
noncomputable def xs05.t {γ : Type} (ret : ((List (List Int × Int × Int))) → Option γ) (lp4 : (List (List Int × Int × Int)) → Int → Int → Int → Int → Option γ) (lp1 : (List (List Int × Int × Int)) → Int → Int → Int → Option γ) (v0 : List (List Int × Int × Int)) (v1 : Int) (v2 : Int) : Option γ :=
 lp1 (v0) (v1) (v2) (IntKind.i64.wrap (v1 + (1 : Int)))
noncomputable def xs05.t4 {γ : Type} (ret : ((List (List Int × Int × Int))) → Option γ) (lp4 : (List (List Int × Int × Int)) → Int → Int → Int → Int → Option γ) (lp1 : (List (List Int × Int × Int)) → Int → Int → Int → Option γ) (v0 : List (List Int × Int × Int)) (v1 : Int) (v2 : Int) (v3 : Int) (v4 : Int) : Option γ :=
 bif decide (v4 > v1) then
  bif decide ((0 : Int) ≤ v4) then
   bif decide (v4.toNat < v0.length) then
    bif decide (v4.toNat < v0.length) then
     bif decide ((0 : Int) ≤ IntKind.i64.wrap (v4 - (1 : Int))) then
      bif decide ((IntKind.i64.wrap (v4 - (1 : Int))).toNat < v0.length) then
       bif decide ((IntKind.i64.wrap (v4 - (1 : Int))).toNat < v0.length) then
        (impl_grouped_1 ((v0.getD v4.toNat ([], (0 : Int), (0 : Int))).fst) ((v0.getD v4.toNat ([], (0 : Int), (0 : Int))).snd.fst) ((v0.getD v4.toNat ([], (0 : Int), (0 : Int))).snd.snd) ((v0.getD (IntKind.i64.wrap (v4 - (1 : Int))).toNat ([], (0 : Int), (0 : Int))).fst) ((v0.getD (IntKind.i64.wrap (v4 - (1 : Int))).toNat ([], (0 : Int), (0 : Int))).snd.fst) ((v0.getD (IntKind.i64.wrap (v4 - (1 : Int))).toNat ([], (0 : Int), (0 : Int))).snd.snd)).bind fun (r0 : Int) =>
        bif decide (r0 < (0 : Int)) then
         bif decide ((0 : Int) ≤ IntKind.i64.wrap (v4 - (1 : Int))) then
          bif decide ((IntKind.i64.wrap (v4 - (1 : Int))).toNat < v0.length) then
           bif decide ((IntKind.i64.wrap (v4 - (1 : Int))).toNat < v0.length) then
            bif decide ((0 : Int) ≤ v4) then
             bif decide (v4.toNat < v0.length) then
              bif decide (v4.toNat < v0.length) then
               bif decide ((0 : Int) ≤ v4) then
                bif decide (v4.toNat < v0.length) then
                 bif decide (v4.toNat < v0.length) then
                  bif decide ((0 : Int) ≤ IntKind.i64.wrap (v4 - (1 : Int))) then
                   bif decide   ((IntKind.i64.wrap (v4 - (1 : Int))).toNat <     (v0.set v4.toNat         ((v0.getD (IntKind.i64.wrap (v4 - (1 : Int))).toNat ([], (0 : Int), (0 : Int))).fst,           (v0.getD (IntKind.i64.wrap (v4 - (1 : Int))).toNat ([], (0 : Int), (0 : Int))).snd.fst,           (v0.getD (IntKind.i64.wrap (v4 - (1 : Int))).toNat ([], (0 : Int), (0 : Int))).snd.snd)).length) then
                    bif decide   ((IntKind.i64.wrap (v4 - (1 : Int))).toNat <     (v0.set v4.toNat         ((v0.getD (IntKind.i64.wrap (v4 - (1 : Int))).toNat ([], (0 : Int), (0 : Int))).fst,           (v0.getD (IntKind.i64.wrap (v4 - (1 : Int))).toNat ([], (0 : Int), (0 : Int))).snd.fst,           (v0.getD (IntKind.i64.wrap (v4 - (1 : Int))).toNat ([], (0 : Int), (0 : Int))).snd.snd)).length) then
                     lp4 ((v0.set v4.toNat       ((v0.getD (IntKind.i64.wrap (v4 - (1 : Int))).toNat ([], (0 : Int), (0 : Int))).fst,         (v0.getD (IntKind.i64.wrap (v4 - (1 : Int))).toNat ([], (0 : Int), (0 : Int))).snd.fst,         (v0.getD (IntKind.i64.wrap (v4 - (1 : Int))).toNat ([], (0 : Int), (0 : Int))).snd.snd)).set   (IntKind.i64.wrap (v4 - (1 : Int))).toNat   ((v0.getD v4.toNat ([], (0 : Int), (0 : Int))).fst, (v0.getD v4.toNat ([], (0 : Int), (0 : Int))).snd.fst,     (v0.getD v4.toNat ([], (0 : Int), (0 : Int))).snd.snd)) (v1) (v2) (v3) (IntKind.i64.wrap (v4 - (1 : Int)))
                    else
                     none
                   else
                    none
                  else
                   none
                 else
                  none
                else
                 none
               else
                none
              else
               none
             else
              none
            else
             none
           else
            none
          else
           none
         else
          none
        else
         lp1 (v0) (v1) (v2) (IntKind.i64.wrap (v3 + (1 : Int)))
       else
        none
      else
       none
     else
      none
    else
     none
   else
    none
  else
   none
 else
  lp1 (v0) (v1) (v2) (IntKind.i64.wrap (v3 + (1 : Int)))
noncomputable def xs05.t1 {γ : Type} (ret : ((List (List Int × Int × Int))) → Option γ) (lp4 : (List (List Int × Int × Int)) → Int → Int → Int → Int → Option γ) (lp1 : (List (List Int × Int × Int)) → Int → Int → Int → Option γ) (v0 : List (List Int × Int × Int)) (v1 : Int) (v2 : Int) (v3 : Int) : Option γ :=
 bif decide (v3 < v2) then
  lp4 (v0) (v1) (v2) (v3) (v3)
 else
  ret (v0)
theorem xs05.k (v0 : List (List Int × Int × Int)) (v1 : Int) (v2 : Int) : topL E (callT E tab) 116 Try.f116 (xs05.c v0 v1 v2) = xs05.t (fun b => some (xs05.mk b)) xs05.q4 xs05.q1 v0 v1 v2 := by kernel_rfl
theorem xs05.k4 (v0 : List (List Int × Int × Int)) (v1 : Int) (v2 : Int) (v3 : Int) (v4 : Int) : roundL E (callT E tab) 116 Try.f116 4 [.r, .b, .o, .r, .l, .b, .r, .b] (⟨(.val .one), [.d .sha (.sl (.pair (.sl (.int .i64)) (.pair (.int .i64) (.int .i64)))) v0], true, false, false, 0, 0⟩ :: vc (iL v1) :: vc (iL v2) :: vc (.fn 76 []) :: nn 4 (vc (iL v3) :: vc (iL v4) :: nn 43 ([]))) = xs05.t4 (fun b => some (xs05.mk b)) xs05.q4 xs05.q1 v0 v1 v2 v3 v4 := by kernel_rfl
theorem xs05.k1 (v0 : List (List Int × Int × Int)) (v1 : Int) (v2 : Int) (v3 : Int) : roundL E (callT E tab) 116 Try.f116 4 [.r, .b] (⟨(.val .one), [.d .sha (.sl (.pair (.sl (.int .i64)) (.pair (.int .i64) (.int .i64)))) v0], true, false, false, 0, 0⟩ :: vc (iL v1) :: vc (iL v2) :: vc (.fn 76 []) :: nn 4 (vc (iL v3) :: nn 44 ([]))) = xs05.t1 (fun b => some (xs05.mk b)) xs05.q4 xs05.q1 v0 v1 v2 v3 := by kernel_rfl
theorem xs05.eq (v0 : List (List Int × Int × Int)) (v1 : Int) (v2 : Int) {b : (List (List Int × Int × Int))} (h : xs05.t some xs05.l4 xs05.l1 v0 v1 v2 = some b) : xs05 v0 v1 v2 = some b := tOf_intro xs05.un (fun _ => by kernel_rfl) (vlim_fn (callT_le E tab) rfl rfl rfl ((xs05.k v0 v1 v2).trans ((by unfold xs05.t; repeat' first | exact Sub.ret | exact Sub.none | exact Sub.loop | apply Sub.cond | (apply Sub.bind; intro _) : Sub xs05.mk _ _) b h)))
theorem xs05.eq4 (v0 : List (List Int × Int × Int)) (v1 : Int) (v2 : Int) (v3 : Int) (v4 : Int) {b : (List (List Int × Int × Int))} (h : xs05.t4 some xs05.l4 xs05.l1 v0 v1 v2 v3 v4 = some b) : xs05.l4 v0 v1 v2 v3 v4 = some b := tOf_intro xs05.un (fun _ => by kernel_rfl) (loopAtL_step ((xs05.k4 v0 v1 v2 v3 v4).trans ((by unfold xs05.t4; repeat' first | exact Sub.ret | exact Sub.none | exact Sub.loop | apply Sub.cond | (apply Sub.bind; intro _) : Sub xs05.mk _ _) b h)))
theorem xs05.eq1 (v0 : List (List Int × Int × Int)) (v1 : Int) (v2 : Int) (v3 : Int) {b : (List (List Int × Int × Int))} (h : xs05.t1 some xs05.l4 xs05.l1 v0 v1 v2 v3 = some b) : xs05.l1 v0 v1 v2 v3 = some b := tOf_intro xs05.un (fun _ => by kernel_rfl) (loopAtL_step ((xs05.k1 v0 v1 v2 v3).trans ((by unfold xs05.t1; repeat' first | exact Sub.ret | exact Sub.none | exact Sub.loop | apply Sub.cond | (apply Sub.bind; intro _) : Sub xs05.mk _ _) b h)))
noncomputable def impl_grouped_1.t {γ : Type} (ret : (Int) → Option γ) (v0 : List Int) (v1 : Int) (v2 : Int) (v3 : List Int) (v4 : Int) (v5 : Int) : Option γ :=
 (impl_compareRows (v0) (v3)).bind fun (r0 : Int) =>
 ret (r0)
theorem impl_grouped_1.k (v0 : List Int) (v1 : Int) (v2 : Int) (v3 : List Int) (v4 : Int) (v5 : Int) : topL E (callT E tab) 76 Try.f76 (impl_grouped_1.c v0 v1 v2 v3 v4 v5) = impl_grouped_1.t (fun b => some (impl_grouped_1.mk b)) v0 v1 v2 v3 v4 v5 := by kernel_rfl
theorem impl_grouped_1.eq (v0 : List Int) (v1 : Int) (v2 : Int) (v3 : List Int) (v4 : Int) (v5 : Int) {b : Int} (h : impl_grouped_1.t some v0 v1 v2 v3 v4 v5 = some b) : impl_grouped_1 v0 v1 v2 v3 v4 v5 = some b := tOf_intro impl_grouped_1.un (fun _ => by kernel_rfl) (vlim_fn (callT_le E tab) rfl rfl rfl ((impl_grouped_1.k v0 v1 v2 v3 v4 v5).trans ((by unfold impl_grouped_1.t; repeat' first | exact Sub.ret | exact Sub.none | exact Sub.loop | apply Sub.cond | (apply Sub.bind; intro _) : Sub impl_grouped_1.mk _ _) b h)))
noncomputable def xs09.q9 (v0 : List (List Int × Int × Int)) (v1 : Int) (v2 : Int) : Option R := loopAtL E (callT E tab) 117 Try.f117 5 [.l, .r, .l, .r, .r, .r, .l, .r, .b] (⟨(.val .one), [.d .sha (.sl (.pair (.sl (.int .i64)) (.pair (.int .i64) (.int .i64)))) v0], true, false, false, 0, 0⟩ :: nn 9 (vc (iL v1) :: nn 2 (vc (iL v2) :: nn 206 ([]))))
noncomputable def xs09.l9 (v0 : List (List Int × Int × Int)) (v1 : Int) (v2 : Int) : Option ((List (List Int × Int × Int))) := tOf xs09.mk (xs09.q9 v0 v1 v2)
noncomputable def xs09.q3 (v0 : List (List Int × Int × Int)) (v1 : Int) (v2 : Int) (v3 : Int) : Option R := loopAtL E (callT E tab) 117 Try.f117 5 [.l, .r, .l, .r, .r, .l, .b] (⟨(.val .one), [.d .sha (.sl (.pair (.sl (.int .i64)) (.pair (.int .i64) (.int .i64)))) v0], true, false, false, 0, 0⟩ :: vc (iL v1) :: nn 2 (vc (.fn 76 []) :: nn 5 (vc (iL v2) :: vc (iL v3) :: nn 208 ([]))))
noncomputable def xs09.l3 (v0 : List (List Int × Int × Int)) (v1 : Int) (v2 : Int) (v3 : Int) : Option ((List (List Int × Int × Int))) := tOf xs09.mk (xs09.q3 v0 v1 v2 v3)
noncomputable def xs09.q21 (v0 : List (List Int × Int × Int)) (v1 : Int) (v2 : Int) : Option R := loopAtL E (callT E tab) 117 Try.f117 5 [.r, .l, .r, .l, .r, .r, .r, .l, .r, .b] (⟨(.val .one), [.d .sha (.sl (.pair (.sl (.int .i64)) (.pair (.int .i64) (.int .i64)))) v0], true, false, false, 0, 0⟩ :: nn 13 (vc (iL v1) :: nn 2 (vc (iL v2) :: nn 202 ([]))))
noncomputable def xs09.l21 (v0 : List (List Int × Int × Int)) (v1 : Int) (v2 : Int) : Option ((List (List Int × Int × Int))) := tOf xs09.mk (xs09.q21 v0 v1 v2)
noncomputable def xs09.q15 (v0 : List (List Int × Int × Int)) (v1 : Int) (v2 : Int) (v3 : Int) : Option R := loopAtL E (callT E tab) 117 Try.f117 5 [.r, .l, .r, .l, .r, .r, .l, .b] (⟨(.val .one), [.d .sha (.sl (.pair (.sl (.int .i64)) (.pair (.int .i64) (.int .i64)))) v0], true, false, false, 0, 0⟩ :: nn 1 (vc (iL v1) :: nn 1 (vc (.fn 76 []) :: nn 9 (vc (iL v2) :: vc (iL v3) :: nn 204 ([])))))
noncomputable def xs09.l15 (v0 : List (List Int × Int × Int)) (v1 : Int) (v2 : Int) (v3 : Int) : Option ((List (List Int × Int × Int))) := tOf xs09.mk (xs09.q15 v0 v1 v2 v3)
noncomputable def xs09.q33 (v0 : List (List Int × Int × Int)) (v1 : Int) (v2 : Int) (v3 : Int) (v4 : Int) (v5 : Int) (v6 : Int) (v7 : Int) (v8 : Int) : Option R := loopAtL E (callT E tab) 117 Try.f117 5 [.r, .r, .r, .r, .r, .r, .r, .l, .b] (⟨(.val .one), [.d .sha (.sl (.pair (.sl (.int .i64)) (.pair (.int .i64) (.int .i64)))) v0], true, false, false, 0, 0⟩ :: vc (iL v1) :: vc (iL v2) :: vc (iL v3) :: vc (.fn 76 []) :: nn 13 (vc (iL v4) :: vc (iL v5) :: vc (iL v6) :: vc (iL v7) :: vc (iL v8) :: nn 197 ([])))
noncomputable def xs09.l33 (v0 : List (List Int × Int × Int)) (v1 : Int) (v2 : Int) (v3 : Int) (v4 : Int) (v5 : Int) (v6 : Int) (v7 : Int) (v8 : Int) : Option ((List (List Int × Int × Int))) := tOf xs09.mk (xs09.q33 v0 v1 v2 v3 v4 v5 v6 v7 v8)
noncomputable def xs09.t {γ : Type} (ret : ((List (List Int × Int × Int))) → Option γ) (lp9 : (List (List Int × Int × Int)) → Int → Int → Option γ) (lp3 : (List (List Int × Int × Int)) → Int → Int → Int → Option γ) (lp21 : (List (List Int × Int × Int)) → Int → Int → Option γ) (lp15 : (List (List Int × Int × Int)) → Int → Int → Int → Option γ) (lp33 : (List (List Int × Int × Int)) → Int → Int → Int → Int → Int → Int → Int → Int → Option γ) (v0 : List (List Int × Int × Int)) (v1 : Int) (v2 : Int) (v3 : Int) : Option γ :=
 bif IntKind.i64.wrap (v2 - v1) == (1 : Int) then
  lp3 (v0) (v1) (v2) (v3)
 else
  bif IntKind.i64.wrap (v3 - v2) == (1 : Int) then
   lp15 (v0) (v2) (v1) (v2)
  else
   bif decide   (v2 >     IntKind.i64.wrap       ((IntKind.u64.wrap (IntKind.i64.wrap (v1 + v3))).fdiv         ((2 : Int) ^ Min.min (Int.toNat (1 : Int)) IntKind.u64.bits))) then
    lp33 (v0) (v1) (v2) (v3) (IntKind.i64.wrap   ((IntKind.u64.wrap (IntKind.i64.wrap (v1 + v3))).fdiv     ((2 : Int) ^ Min.min (Int.toNat (1 : Int)) IntKind.u64.bits))) (IntKind.i64.wrap   (IntKind.i64.wrap       ((IntKind.u64.wrap (IntKind.i64.wrap (v1 + v3))).fdiv         ((2 : Int) ^ Min.min (Int.toNat (1 : Int)) IntKind.u64.bits)) +     v2)) (IntKind.i64.wrap   (IntKind.i64.wrap       (IntKind.i64.wrap           ((IntKind.u64.wrap (IntKind.i64.wrap (v1 + v3))).fdiv             ((2 : Int) ^ Min.min (Int.toNat (1 : Int)) IntKind.u64.bits)) +         v2) -     v3)) (IntKind.i64.wrap   ((IntKind.u64.wrap (IntKind.i64.wrap (v1 + v3))).fdiv     ((2 : Int) ^ Min.min (Int.toNat (1 : Int)) IntKind.u64.bits))) (IntKind.i64.wrap   (IntKind.i64.wrap       (IntKind.i64.wrap           ((IntKind.u64.wrap (IntKind.i64.wrap (v1 + v3))).fdiv             ((2 : Int) ^ Min.min (Int.toNat (1 : Int)) IntKind.u64.bits)) +         v2) -     (1 : Int)))
   else
    lp33 (v0) (v1) (v2) (v3) (IntKind.i64.wrap   ((IntKind.u64.wrap (IntKind.i64.wrap (v1 + v3))).fdiv     ((2 : Int) ^ Min.min (Int.toNat (1 : Int)) IntKind.u64.bits))) (IntKind.i64.wrap   (IntKind.i64.wrap       ((IntKind.u64.wrap (IntKind.i64.wrap (v1 + v3))).fdiv         ((2 : Int) ^ Min.min (Int.toNat (1 : Int)) IntKind.u64.bits)) +     v2)) (v1) (v2) (IntKind.i64.wrap   (IntKind.i64.wrap       (IntKind.i64.wrap           ((IntKind.u64.wrap (IntKind.i64.wrap (v1 + v3))).fdiv             ((2 : Int) ^ Min.min (Int.toNat (1 : Int)) IntKind.u64.bits)) +         v2) -     (1 : Int)))
noncomputable def xs09.t9 {γ : Type} (ret : ((List (List Int × Int × Int))) → Option γ) (lp9 : (List (List Int × Int × Int)) → Int → Int → Option γ) (lp3 : (List (List Int × Int × Int)) → Int → Int → Int → Option γ) (lp21 : (List (List Int × Int × Int)) → Int → Int → Option γ) (lp15 : (List (List Int × Int × Int)) → Int → Int → Int → Option γ) (lp33 : (List (List Int × Int × Int)) → Int → Int → Int → Int → Int → Int → Int → Int → Option γ) (v0 : List (List Int × Int × Int)) (v1 : Int) (v2 : Int) : Option γ :=
 bif decide (v2 < IntKind.i64.wrap (v1 - (1 : Int))) then
  bif decide ((0 : Int) ≤ IntKind.i64.wrap (v2 + (1 : Int))) then
   bif decide ((IntKind.i64.wrap (v2 + (1 : Int))).toNat < v0.length) then
    bif decide ((IntKind.i64.wrap (v2 + (1 : Int))).toNat < v0.length) then
     bif decide ((0 : Int) ≤ v2) then
      bif decide (v2.toNat < v0.length) then
       bif decide (v2.toNat < v0.length) then
        bif decide ((0 : Int) ≤ v2) then
         bif decide (v2.toNat < v0.length) then
          bif decide (v2.toNat < v0.length) then
           bif decide ((0 : Int) ≤ IntKind.i64.wrap (v2 + (1 : Int))) then
            bif decide   ((IntKind.i64.wrap (v2 + (1 : Int))).toNat <     (v0.set v2.toNat         ((v0.getD (IntKind.i64.wrap (v2 + (1 : Int))).toNat ([], (0 : Int), (0 : Int))).fst,           (v0.getD (IntKind.i64.wrap (v2 + (1 : Int))).toNat ([], (0 : Int), (0 : Int))).snd.fst,           (v0.getD (IntKind.i64.wrap (v2 + (1 : Int))).toNat ([], (0 : Int), (0 : Int))).snd.snd)).length) then
             bif decide   ((IntKind.i64.wrap (v2 + (1 : Int))).toNat <     (v0.set v2.toNat         ((v0.getD (IntKind.i64.wrap (v2 + (1 : Int))).toNat ([], (0 : Int), (0 : Int))).fst,           (v0.getD (IntKind.i64.wrap (v2 + (1 : Int))).toNat ([], (0 : Int), (0 : Int))).snd.fst,           (v0.getD (IntKind.i64.wrap (v2 + (1 : Int))).toNat ([], (0 : Int), (0 : Int))).snd.snd)).length) then
              lp9 ((v0.set v2.toNat       ((v0.getD (IntKind.i64.wrap (v2 + (1 : Int))).toNat ([], (0 : Int), (0 : Int))).fst,         (v0.getD (IntKind.i64.wrap (v2 + (1 : Int))).toNat ([], (0 : Int), (0 : Int))).snd.fst,         (v0.getD (IntKind.i64.wrap (v2 + (1 : Int))).toNat ([], (0 : Int), (0 : Int))).snd.snd)).set   (IntKind.i64.wrap (v2 + (1 : Int))).toNat   ((v0.getD v2.toNat ([], (0 : Int), (0 : Int))).fst, (v0.getD v2.toNat ([], (0 : Int), (0 : Int))).snd.fst,     (v0.getD v2.toNat ([], (0 : Int), (0 : Int))).snd.snd)) (v1) (IntKind.i64.wrap (v2 + (1 : Int)))
             else
              none
            else
             none
           else
            none
          else
           none
         else
          none
        else
         none
       else
        none
      else
       none
     else
      none
    else
     none
   else
    none
  else
   none
 else
  ret (v0)
noncomputable def xs09.t3 {γ : Type} (ret : ((List (List Int × Int × Int))) → Option γ) (lp9 : (List (List Int × Int × Int)) → Int → Int → Option γ) (lp3 : (List (List Int × Int × Int)) → Int → Int → Int → Option γ) (lp21 : (List (List Int × Int × Int)) → Int → Int → Option γ) (lp15 : (List (List Int × Int × Int)) → Int → Int → Int → Option γ) (lp33 : (List (List Int × Int × Int)) → Int → Int → Int → Int → Int → Int → Int → Int → Option γ) (v0 : List (List Int × Int × Int)) (v1 : Int) (v2 : Int) (v3 : Int) : Option γ :=
 bif decide (v2 < v3) then
  bif decide   ((0 : Int) ≤     IntKind.i64.wrap       ((IntKind.u64.wrap (IntKind.i64.wrap (v2 + v3))).fdiv         ((2 : Int) ^ Min.min (Int.toNat (1 : Int)) IntKind.u64.bits))) then
   bif decide   ((IntKind.i64.wrap         ((IntKind.u64.wrap (IntKind.i64.wrap (v2 + v3))).fdiv           ((2 : Int) ^ Min.min (Int.toNat (1 : Int)) IntKind.u64.bits))).toNat <     v0.length) then
    bif decide   ((IntKind.i64.wrap         ((IntKind.u64.wrap (IntKind.i64.wrap (v2 + v3))).fdiv           ((2 : Int) ^ Min.min (Int.toNat (1 : Int)) IntKind.u64.bits))).toNat <     v0.length) then
     bif decide ((0 : Int) ≤ v1) then
      bif decide (v1.toNat < v0.length) then
       bif decide (v1.toNat < v0.length) then
        (impl_grouped_1 ((v0.getD     (IntKind.i64.wrap         ((IntKind.u64.wrap (IntKind.i64.wrap (v2 + v3))).fdiv           ((2 : Int) ^ Min.min (Int.toNat (1 : Int)) IntKind.u64.bits))).toNat     ([], (0 : Int), (0 : Int))).fst) ((v0.getD       (IntKind.i64.wrap           ((IntKind.u64.wrap (IntKind.i64.wrap (v2 + v3))).fdiv             ((2 : Int) ^ Min.min (Int.toNat (1 : Int)) IntKind.u64.bits))).toNat       ([], (0 : Int), (0 : Int))).snd.fst) ((v0.getD       (IntKind.i64.wrap           ((IntKind.u64.wrap (IntKind.i64.wrap (v2 + v3))).fdiv             ((2 : Int) ^ Min.min (Int.toNat (1 : Int)) IntKind.u64.bits))).toNat       ([], (0 : Int), (0 : Int))).snd.snd) ((v0.getD v1.toNat ([], (0 : Int), (0 : Int))).fst) ((v0.getD v1.toNat ([], (0 : Int), (0 : Int))).snd.fst) ((v0.getD v1.toNat ([], (0 : Int), (0 : Int))).snd.snd)).bind fun (r0 : Int) =>
        bif decide (r0 < (0 : Int)) then
         lp3 (v0) (v1) (IntKind.i64.wrap   (IntKind.i64.wrap       ((IntKind.u64.wrap (IntKind.i64.wrap (v2 + v3))).fdiv         ((2 : Int) ^ Min.min (Int.toNat (1 : Int)) IntKind.u64.bits)) +     (1 : Int))) (v3)
        else
         lp3 (v0) (v1) (v2) (IntKind.i64.wrap   ((IntKind.u64.wrap (IntKind.i64.wrap (v2 + v3))).fdiv     ((2 : Int) ^ Min.min (Int.toNat (1 : Int)) IntKind.u64.bits)))
       else
        none
      else
       none
     else
      none
    else
     none
   else
    none
  else
   none
 else
  lp9 (v0) (v2) (v1)
noncomputable def xs09.t21 {γ : Type} (ret : ((List (List Int × Int × Int))) → Option γ) (lp9 : (List (List Int × Int × Int)) → Int → Int → Option γ) (lp3 : (List (List Int × Int × Int)) → Int → Int → Int → Option γ) (lp21 : (List (List Int × Int × Int)) → Int → Int → Option γ) (lp15 : (List (List Int × Int × Int)) → Int → Int → Int → Option γ) (lp33 : (List (List Int × Int × Int)) → Int → Int → Int → Int → Int → Int → Int → Int → Option γ) (v0 : List (List Int × Int × Int)) (v1 : Int) (v2 : Int) : Option γ :=
 bif decide (v2 > v1) then
  bif decide ((0 : Int) ≤ IntKind.i64.wrap (v2 - (1 : Int))) then
   bif decide ((IntKind.i64.wrap (v2 - (1 : Int))).toNat < v0.length) then
    bif decide ((IntKind.i64.wrap (v2 - (1 : Int))).toNat < v0.length) then
     bif decide ((0 : Int) ≤ v2) then
      bif decide (v2.toNat < v0.length) then
       bif decide (v2.toNat < v0.length) then
        bif decide ((0 : Int) ≤ v2) then
         bif decide (v2.toNat < v0.length) then
          bif decide (v2.toNat < v0.length) then
           bif decide ((0 : Int) ≤ IntKind.i64.wrap (v2 - (1 : Int))) then
            bif decide   ((IntKind.i64.wrap (v2 - (1 : Int))).toNat <     (v0.set v2.toNat         ((v0.getD (IntKind.i64.wrap (v2 - (1 : Int))).toNat ([], (0 : Int), (0 : Int))).fst,           (v0.getD (IntKind.i64.wrap (v2 - (1 : Int))).toNat ([], (0 : Int), (0 : Int))).snd.fst,           (v0.getD (IntKind.i64.wrap (v2 - (1 : Int))).toNat ([], (0 : Int), (0 : Int))).snd.snd)).length) then
             bif decide   ((IntKind.i64.wrap (v2 - (1 : Int))).toNat <     (v0.set v2.toNat         ((v0.getD (IntKind.i64.wrap (v2 - (1 : Int))).toNat ([], (0 : Int), (0 : Int))).fst,           (v0.getD (IntKind.i64.wrap (v2 - (1 : Int))).toNat ([], (0 : Int), (0 : Int))).snd.fst,           (v0.getD (IntKind.i64.wrap (v2 - (1 : Int))).toNat ([], (0 : Int), (0 : Int))).snd.snd)).length) then
              lp21 ((v0.set v2.toNat       ((v0.getD (IntKind.i64.wrap (v2 - (1 : Int))).toNat ([], (0 : Int), (0 : Int))).fst,         (v0.getD (IntKind.i64.wrap (v2 - (1 : Int))).toNat ([], (0 : Int), (0 : Int))).snd.fst,         (v0.getD (IntKind.i64.wrap (v2 - (1 : Int))).toNat ([], (0 : Int), (0 : Int))).snd.snd)).set   (IntKind.i64.wrap (v2 - (1 : Int))).toNat   ((v0.getD v2.toNat ([], (0 : Int), (0 : Int))).fst, (v0.getD v2.toNat ([], (0 : Int), (0 : Int))).snd.fst,     (v0.getD v2.toNat ([], (0 : Int), (0 : Int))).snd.snd)) (v1) (IntKind.i64.wrap (v2 - (1 : Int)))
             else
              none
            else
             none
           else
            none
          else
           none
         else
          none
        else
         none
       else
        none
      else
       none
     else
      none
    else
     none
   else
    none
  else
   none
 else
  ret (v0)
noncomputable def xs09.t15 {γ : Type} (ret : ((List (List Int × Int × Int))) → Option γ) (lp9 : (List (List Int × Int × Int)) → Int → Int → Option γ) (lp3 : (List (List Int × Int × Int)) → Int → Int → Int → Option γ) (lp21 : (List (List Int × Int × Int)) → Int → Int → Option γ) (lp15 : (List (List Int × Int × Int)) → Int → Int → Int → Option γ) (lp33 : (List (List Int × Int × Int)) → Int → Int → Int → Int → Int → Int → Int → Int → Option γ) (v0 : List (List Int × Int × Int)) (v1 : Int) (v2 : Int) (v3 : Int) : Option γ :=
 bif decide (v2 < v3) then
  bif decide ((0 : Int) ≤ v1) then
   bif decide (v1.toNat < v0.length) then
    bif decide (v1.toNat < v0.length) then
     bif decide   ((0 : Int) ≤     IntKind.i64.wrap       ((IntKind.u64.wrap (IntKind.i64.wrap (v2 + v3))).fdiv         ((2 : Int) ^ Min.min (Int.toNat (1 : Int)) IntKind.u64.bits))) then
      bif decide   ((IntKind.i64.wrap         ((IntKind.u64.wrap (IntKind.i64.wrap (v2 + v3))).fdiv           ((2 : Int) ^ Min.min (Int.toNat (1 : Int)) IntKind.u64.bits))).toNat <     v0.length) then
       bif decide   ((IntKind.i64.wrap         ((IntKind.u64.wrap (IntKind.i64.wrap (v2 + v3))).fdiv           ((2 : Int) ^ Min.min (Int.toNat (1 : Int)) IntKind.u64.bits))).toNat <     v0.length) then
        (impl_grouped_1 ((v0.getD v1.toNat ([], (0 : Int), (0 : Int))).fst) ((v0.getD v1.toNat ([], (0 : Int), (0 : Int))).snd.fst) ((v0.getD v1.toNat ([], (0 : Int), (0 : Int))).snd.snd) ((v0.getD     (IntKind.i64.wrap         ((IntKind.u64.wrap (IntKind.i64.wrap (v2 + v3))).fdiv           ((2 : Int) ^ Min.min (Int.toNat (1 : Int)) IntKind.u64.bits))).toNat     ([], (0 : Int), (0 : Int))).fst) ((v0.getD       (IntKind.i64.wrap           ((IntKind.u64.wrap (IntKind.i64.wrap (v2 + v3))).fdiv             ((2 : Int) ^ Min.min (Int.toNat (1 : Int)) IntKind.u64.bits))).toNat       ([], (0 : Int), (0 : Int))).snd.fst) ((v0.getD       (IntKind.i64.wrap           ((IntKind.u64.wrap (IntKind.i64.wrap (v2 + v3))).fdiv             ((2 : Int) ^ Min.min (Int.toNat (1 : Int)) IntKind.u64.bits))).toNat       ([], (0 : Int), (0 : Int))).snd.snd)).bind fun (r1 : Int) =>
        bif !decide (r1 < (0 : Int)) then
         lp15 (v0) (v1) (IntKind.i64.wrap   (IntKind.i64.wrap       ((IntKind.u64.wrap (IntKind.i64.wrap (v2 + v3))).fdiv         ((2 : Int) ^ Min.min (Int.toNat (1 : Int)) IntKind.u64.bits)) +     (1 : Int))) (v3)
        else
         lp15 (v0) (v1) (v2) (IntKind.i64.wrap   ((IntKind.u64.wrap (IntKind.i64.wrap (v2 + v3))).fdiv     ((2 : Int) ^ Min.min (Int.toNat (1 : Int)) IntKind.u64.bits)))
       else
        none
      else
       none
     else
      none
    else
     none
   else
    none
  else
   none
 else
  lp21 (v0) (v2) (v1)
noncomputable def xs09.t33 {γ : Type} (ret : ((List (List Int × Int × Int))) → Option γ) (lp9 : (List (List Int × Int × Int)) → Int → Int → Option γ) (lp3 : (List (List Int × Int × Int)) → Int → Int → Int → Option γ) (lp21 : (List (List Int × Int × Int)) → Int → Int → Option γ) (lp15 : (List (List Int × Int × Int)) → Int → Int → Int → Option γ) (lp33 : (List (List Int × Int × Int)) → Int → Int → Int → Int → Int → Int → Int → Int → Option γ) (v0 : List (List Int × Int × Int)) (v1 : Int) (v2 : Int) (v3 : Int) (v4 : Int) (v5 : Int) (v6 : Int) (v7 : Int) (v8 : Int) : Option γ :=
 bif decide (v6 < v7) then
  bif decide   ((0 : Int) ≤     IntKind.i64.wrap       (v8 -         IntKind.i64.wrap           ((IntKind.u64.wrap (IntKind.i64.wrap (v6 + v7))).fdiv             ((2 : Int) ^ Min.min (Int.toNat (1 : Int)) IntKind.u64.bits)))) then
   bif decide   ((IntKind.i64.wrap         (v8 -           IntKind.i64.wrap             ((IntKind.u64.wrap (IntKind.i64.wrap (v6 + v7))).fdiv               ((2 : Int) ^ Min.min (Int.toNat (1 : Int)) IntKind.u64.bits)))).toNat <     v0.length) then
    bif decide   ((IntKind.i64.wrap         (v8 -           IntKind.i64.wrap             ((IntKind.u64.wrap (IntKind.i64.wrap (v6 + v7))).fdiv               ((2 : Int) ^ Min.min (Int.toNat (1 : Int)) IntKind.u64.bits)))).toNat <     v0.length) then
     bif decide   ((0 : Int) ≤     IntKind.i64.wrap       ((IntKind.u64.wrap (IntKind.i64.wrap (v6 + v7))).fdiv         ((2 : Int) ^ Min.min (Int.toNat (1 : Int)) IntKind.u64.bits))) then
      bif decide   ((IntKind.i64.wrap         ((IntKind.u64.wrap (IntKind.i64.wrap (v6 + v7))).fdiv           ((2 : Int) ^ Min.min (Int.toNat (1 : Int)) IntKind.u64.bits))).toNat <     v0.length) then
       bif decide   ((IntKind.i64.wrap         ((IntKind.u64.wrap (IntKind.i64.wrap (v6 + v7))).fdiv           ((2 : Int) ^ Min.min (Int.toNat (1 : Int)) IntKind.u64.bits))).toNat <     v0.length) then
        (impl_grouped_1 ((v0.getD     (IntKind.i64.wrap         (v8 -           IntKind.i64.wrap             ((IntKind.u64.wrap (IntKind.i64.wrap (v6 + v7))).fdiv               ((2 : Int) ^ Min.min (Int.toNat (1 : Int)) IntKind.u64.bits)))).toNat     ([], (0 : Int), (0 : Int))).fst) ((v0.getD       (IntKind.i64.wrap           (v8 -             IntKind.i64.wrap               ((IntKind.u64.wrap (IntKind.i64.wrap (v6 + v7))).fdiv                 ((2 : Int) ^ Min.min (Int.toNat (1 : Int)) IntKind.u64.bits)))).toNat       ([], (0 : Int), (0 : Int))).snd.fst) ((v0.getD       (IntKind.i64.wrap           (v8 -             IntKind.i64.wrap               ((IntKind.u64.wrap (IntKind.i64.wrap (v6 + v7))).fdiv                 ((2 : Int) ^ Min.min (Int.toNat (1 : Int)) IntKind.u64.bits)))).toNat       ([], (0 : Int), (0 : Int))).snd.snd) ((v0.getD     (IntKind.i64.wrap         ((IntKind.u64.wrap (IntKind.i64.wrap (v6 + v7))).fdiv           ((2 : Int) ^ Min.min (Int.toNat (1 : Int)) IntKind.u64.bits))).toNat     ([], (0 : Int), (0 : Int))).fst) ((v0.getD       (IntKind.i64.wrap           ((IntKind.u64.wrap (IntKind.i64.wrap (v6 + v7))).fdiv             ((2 : Int) ^ Min.min (Int.toNat (1 : Int)) IntKind.u64.bits))).toNat       ([], (0 : Int), (0 : Int))).snd.fst) ((v0.getD       (IntKind.i64.wrap           ((IntKind.u64.wrap (IntKind.i64.wrap (v6 + v7))).fdiv             ((2 : Int) ^ Min.min (Int.toNat (1 : Int)) IntKind.u64.bits))).toNat       ([], (0 : Int), (0 : Int))).snd.snd)).bind fun (r2 : Int) =>
        bif !decide (r2 < (0 : Int)) then
         lp33 (v0) (v1) (v2) (v3) (v4) (v5) (IntKind.i64.wrap   (IntKind.i64.wrap       ((IntKind.u64.wrap (IntKind.i64.wrap (v6 + v7))).fdiv         ((2 : Int) ^ Min.min (Int.toNat (1 : Int)) IntKind.u64.bits)) +     (1 : Int))) (v7) (v8)
        else
         lp33 (v0) (v1) (v2) (v3) (v4) (v5) (v6) (IntKind.i64.wrap   ((IntKind.u64.wrap (IntKind.i64.wrap (v6 + v7))).fdiv     ((2 : Int) ^ Min.min (Int.toNat (1 : Int)) IntKind.u64.bits))) (v8)
       else
        none
      else
       none
     else
      none
    else
     none
   else
    none
  else
   none
 else
  bif decide (v6 < v2) then
   bif decide (v2 < IntKind.i64.wrap (v5 - v6)) then
    (xs0a (v0) (v6) (v2) (IntKind.i64.wrap (v5 - v6))).bind fun (r3 : (List (List Int × Int × Int))) =>
    bif decide (v1 < v6) then
     bif decide (v6 < v4) then
      (xs09 (r3) (v1) (v6) (v4)).bind fun (r4 : (List (List Int × Int × Int))) =>
      bif decide (v4 < IntKind.i64.wrap (v5 - v6)) then
       bif decide (IntKind.i64.wrap (v5 - v6) < v3) then
        (xs09 (r4) (v4) (IntKind.i64.wrap (v5 - v6)) (v3)).bind fun (r5 : (List (List Int × Int × Int))) =>
        ret (r5)
       else
        ret (r4)
      else
       ret (r4)
     else
      bif decide (v4 < IntKind.i64.wrap (v5 - v6)) then
       bif decide (IntKind.i64.wrap (v5 - v6) < v3) then
        (xs09 (r3) (v4) (IntKind.i64.wrap (v5 - v6)) (v3)).bind fun (r6 : (List (List Int × Int × Int))) =>
        ret (r6)
       else
        ret (r3)
      else
       ret (r3)
    else
     bif decide (v4 < IntKind.i64.wrap (v5 - v6)) then
      bif decide (IntKind.i64.wrap (v5 - v6) < v3) then
       (xs09 (r3) (v4) (IntKind.i64.wrap (v5 - v6)) (v3)).bind fun (r7 : (List (List Int × Int × Int))) =>
       ret (r7)
      else
       ret (r3)
     else
      ret (r3)
   else
    bif decide (v1 < v6) then
     bif decide (v6 < v4) then
      (xs09 (v0) (v1) (v6) (v4)).bind fun (r8 : (List (List Int × Int × Int))) =>
      bif decide (v4 < IntKind.i64.wrap (v5 - v6)) then
       bif decide (IntKind.i64.wrap (v5 - v6) < v3) then
        (xs09 (r8) (v4) (IntKind.i64.wrap (v5 - v6)) (v3)).bind fun (r9 : (List (List Int × Int × Int))) =>
        ret (r9)
       else
        ret (r8)
      else
       ret (r8)
     else
      bif decide (v4 < IntKind.i64.wrap (v5 - v6)) then
       bif decide (IntKind.i64.wrap (v5 - v6) < v3) then
        (xs09 (v0) (v4) (IntKind.i64.wrap (v5 - v6)) (v3)).bind fun (r10 : (List (List Int × Int × Int))) =>
        ret (r10)
       else
        ret (v0)
      else
       ret (v0)
    else
     bif decide (v4 < IntKind.i64.wrap (v5 - v6)) then
      bif decide (IntKind.i64.wrap (v5 - v6) < v3) then
       (xs09 (v0) (v4) (IntKind.i64.wrap (v5 - v6)) (v3)).bind fun (r11 : (List (List Int × Int × Int))) =>
       ret (r11)
      else
       ret (v0)
     else
      ret (v0)
  else
   bif decide (v1 < v6) then
    bif decide (v6 < v4) then
     (xs09 (v0) (v1) (v6) (v4)).bind fun (r12 : (List (List Int × Int × Int))) =>
     bif decide (v4 < IntKind.i64.wrap (v5 - v6)) then
      bif decide (IntKind.i64.wrap (v5 - v6) < v3) then
       (xs09 (r12) (v4) (IntKind.i64.wrap (v5 - v6)) (v3)).bind fun (r13 : (List (List Int × Int × Int))) =>
       ret (r13)
      else
       ret (r12)
     else
      ret (r12)
    else
     bif decide (v4 < IntKind.i64.wrap (v5 - v6)) then
      bif decide (IntKind.i64.wrap (v5 - v6) < v3) then
       (xs09 (v0) (v4) (IntKind.i64.wrap (v5 - v6)) (v3)).bind fun (r14 : (List (List Int × Int × Int))) =>
       ret (r14)
      else
       ret (v0)
     else
      ret (v0)
   else
    bif decide (v4 < IntKind.i64.wrap (v5 - v6)) then
     bif decide (IntKind.i64.wrap (v5 - v6) < v3) then
      (xs09 (v0) (v4) (IntKind.i64.wrap (v5 - v6)) (v3)).bind fun (r15 : (List (List Int × Int × Int))) =>
      ret (r15)
     else
      ret (v0)
    else
     ret (v0)
theorem xs09.k (v0 : List (List Int × Int × Int)) (v1 : Int) (v2 : Int) (v3 : Int) : topL E (callT E tab) 117 Try.f117 (xs09.c v0 v1 v2 v3) = xs09.t (fun b => some (xs09.mk b)) xs09.q9 xs09.q3 xs09.q21 xs09.q15 xs09.q33 v0 v1 v2 v3 := by kernel_rfl
theorem xs09.k9 (v0 : List (List Int × Int × Int)) (v1 : Int) (v2 : Int) : roundL E (callT E tab) 117 Try.f117 5 [.l, .r, .l, .r, .r, .r, .l, .r, .b] (⟨(.val .one), [.d .sha (.sl (.pair (.sl (.int .i64)) (.pair (.int .i64) (.int .i64)))) v0], true, false, false, 0, 0⟩ :: nn 9 (vc (iL v1) :: nn 2 (vc (iL v2) :: nn 206 ([])))) = xs09.t9 (fun b => some (xs09.mk b)) xs09.q9 xs09.q3 xs09.q21 xs09.q15 xs09.q33 v0 v1 v2 := by kernel_rfl
theorem xs09.k3 (v0 : List (List Int × Int × Int)) (v1 : Int) (v2 : Int) (v3 : Int) : roundL E (callT E tab) 117 Try.f117 5 [.l, .r, .l, .r, .r, .l, .b] (⟨(.val .one), [.d .sha (.sl (.pair (.sl (.int .i64)) (.pair (.int .i64) (.int .i64)))) v0], true, false, false, 0, 0⟩ :: vc (iL v1) :: nn 2 (vc (.fn 76 []) :: nn 5 (vc (iL v2) :: vc (iL v3) :: nn 208 ([])))) = xs09.t3 (fun b => some (xs09.mk b)) xs09.q9 xs09.q3 xs09.q21 xs09.q15 xs09.q33 v0 v1 v2 v3 := by kernel_rfl
theorem xs09.k21 (v0 : List (List Int × Int × Int)) (v1 : Int) (v2 : Int) : roundL E (callT E tab) 117 Try.f117 5 [.r, .l, .r, .l, .r, .r, .r, .l, .r, .b] (⟨(.val .one), [.d .sha (.sl (.pair (.sl (.int .i64)) (.pair (.int .i64) (.int .i64)))) v0], true, false, false, 0, 0⟩ :: nn 13 (vc (iL v1) :: nn 2 (vc (iL v2) :: nn 202 ([])))) = xs09.t21 (fun b => some (xs09.mk b)) xs09.q9 xs09.q3 xs09.q21 xs09.q15 xs09.q33 v0 v1 v2 := by kernel_rfl
theorem xs09.k15 (v0 : List (List Int × Int × Int)) (v1 : Int) (v2 : Int) (v3 : Int) : roundL E (callT E tab) 117 Try.f117 5 [.r, .l, .r, .l, .r, .r, .l, .b] (⟨(.val .one), [.d .sha (.sl (.pair (.sl (.int .i64)) (.pair (.int .i64) (.int .i64)))) v0], true, false, false, 0, 0⟩ :: nn 1 (vc (iL v1) :: nn 1 (vc (.fn 76 []) :: nn 9 (vc (iL v2) :: vc (iL v3) :: nn 204 ([]))))) = xs09.t15 (fun b => some (xs09.mk b)) xs09.q9 xs09.q3 xs09.q21 xs09.q15 xs09.q33 v0 v1 v2 v3 := by kernel_rfl
theorem xs09.k33 (v0 : List (List Int × Int × Int)) (v1 : Int) (v2 : Int) (v3 : Int) (v4 : Int) (v5 : Int) (v6 : Int) (v7 : Int) (v8 : Int) : roundL E (callT E tab) 117 Try.f117 5 [.r, .r, .r, .r, .r, .r, .r, .l, .b] (⟨(.val .one), [.d .sha (.sl (.pair (.sl (.int .i64)) (.pair (.int .i64) (.int .i64)))) v0], true, false, false, 0, 0⟩ :: vc (iL v1) :: vc (iL v2) :: vc (iL v3) :: vc (.fn 76 []) :: nn 13 (vc (iL v4) :: vc (iL v5) :: vc (iL v6) :: vc (iL v7) :: vc (iL v8) :: nn 197 ([]))) = xs09.t33 (fun b => some (xs09.mk b)) xs09.q9 xs09.q3 xs09.q21 xs09.q15 xs09.q33 v0 v1 v2 v3 v4 v5 v6 v7 v8 := by kernel_rfl
theorem xs09.eq (v0 : List (List Int × Int × Int)) (v1 : Int) (v2 : Int) (v3 : Int) {b : (List (List Int × Int × Int))} (h : xs09.t some xs09.l9 xs09.l3 xs09.l21 xs09.l15 xs09.l33 v0 v1 v2 v3 = some b) : xs09 v0 v1 v2 v3 = some b := tOf_intro xs09.un (fun _ => by kernel_rfl) (vlim_fn (callT_le E tab) rfl rfl rfl ((xs09.k v0 v1 v2 v3).trans ((by unfold xs09.t; repeat' first | exact Sub.ret | exact Sub.none | exact Sub.loop | apply Sub.cond | (apply Sub.bind; intro _) : Sub xs09.mk _ _) b h)))
theorem xs09.eq9 (v0 : List (List Int × Int × Int)) (v1 : Int) (v2 : Int) {b : (List (List Int × Int × Int))} (h : xs09.t9 some xs09.l9 xs09.l3 xs09.l21 xs09.l15 xs09.l33 v0 v1 v2 = some b) : xs09.l9 v0 v1 v2 = some b := tOf_intro xs09.un (fun _ => by kernel_rfl) (loopAtL_step ((xs09.k9 v0 v1 v2).trans ((by unfold xs09.t9; repeat' first | exact Sub.ret | exact Sub.none | exact Sub.loop | apply Sub.cond | (apply Sub.bind; intro _) : Sub xs09.mk _ _) b h)))
theorem xs09.eq3 (v0 : List (List Int × Int × Int)) (v1 : Int) (v2 : Int) (v3 : Int) {b : (List (List Int × Int × Int))} (h : xs09.t3 some xs09.l9 xs09.l3 xs09.l21 xs09.l15 xs09.l33 v0 v1 v2 v3 = some b) : xs09.l3 v0 v1 v2 v3 = some b := tOf_intro xs09.un (fun _ => by kernel_rfl) (loopAtL_step ((xs09.k3 v0 v1 v2 v3).trans ((by unfold xs09.t3; repeat' first | exact Sub.ret | exact Sub.none | exact Sub.loop | apply Sub.cond | (apply Sub.bind; intro _) : Sub xs09.mk _ _) b h)))
theorem xs09.eq21 (v0 : List (List Int × Int × Int)) (v1 : Int) (v2 : Int) {b : (List (List Int × Int × Int))} (h : xs09.t21 some xs09.l9 xs09.l3 xs09.l21 xs09.l15 xs09.l33 v0 v1 v2 = some b) : xs09.l21 v0 v1 v2 = some b := tOf_intro xs09.un (fun _ => by kernel_rfl) (loopAtL_step ((xs09.k21 v0 v1 v2).trans ((by unfold xs09.t21; repeat' first | exact Sub.ret | exact Sub.none | exact Sub.loop | apply Sub.cond | (apply Sub.bind; intro _) : Sub xs09.mk _ _) b h)))
theorem xs09.eq15 (v0 : List (List Int × Int × Int)) (v1 : Int) (v2 : Int) (v3 : Int) {b : (List (List Int × Int × Int))} (h : xs09.t15 some xs09.l9 xs09.l3 xs09.l21 xs09.l15 xs09.l33 v0 v1 v2 v3 = some b) : xs09.l15 v0 v1 v2 v3 = some b := tOf_intro xs09.un (fun _ => by kernel_rfl) (loopAtL_step ((xs09.k15 v0 v1 v2 v3).trans ((by unfold xs09.t15; repeat' first | exact Sub.ret | exact Sub.none | exact Sub.loop | apply Sub.cond | (apply Sub.bind; intro _) : Sub xs09.mk _ _) b h)))
theorem xs09.eq33 (v0 : List (List Int × Int × Int)) (v1 : Int) (v2 : Int) (v3 : Int) (v4 : Int) (v5 : Int) (v6 : Int) (v7 : Int) (v8 : Int) {b : (List (List Int × Int × Int))} (h : xs09.t33 some xs09.l9 xs09.l3 xs09.l21 xs09.l15 xs09.l33 v0 v1 v2 v3 v4 v5 v6 v7 v8 = some b) : xs09.l33 v0 v1 v2 v3 v4 v5 v6 v7 v8 = some b := tOf_intro xs09.un (fun _ => by kernel_rfl) (loopAtL_step ((xs09.k33 v0 v1 v2 v3 v4 v5 v6 v7 v8).trans ((by unfold xs09.t33; repeat' first | exact Sub.ret | exact Sub.none | exact Sub.loop | apply Sub.cond | (apply Sub.bind; intro _) : Sub xs09.mk _ _) b h)))
noncomputable def xs0a.q2 (v0 : List (List Int × Int × Int)) (v1 : Int) (v2 : Int) (v3 : Int) : Option R := loopAtL E (callT E tab) 122 Try.f122 5 [.r, .r, .l, .b] (⟨(.val .one), [.d .sha (.sl (.pair (.sl (.int .i64)) (.pair (.int .i64) (.int .i64)))) v0], true, false, false, 0, 0⟩ :: nn 1 (vc (iL v1) :: nn 1 (vc (.fn 76 []) :: nn 5 (vc (iL v2) :: vc (iL v3) :: nn 46 ([])))))
noncomputable def xs0a.l2 (v0 : List (List Int × Int × Int)) (v1 : Int) (v2 : Int) (v3 : Int) : Option ((List (List Int × Int × Int))) := tOf xs0a.mk (xs0a.q2 v0 v1 v2 v3)
noncomputable def xs0a.t {γ : Type} (ret : ((List (List Int × Int × Int))) → Option γ) (lp2 : (List (List Int × Int × Int)) → Int → Int → Int → Option γ) (v0 : List (List Int × Int × Int)) (v1 : Int) (v2 : Int) (v3 : Int) : Option γ :=
 lp2 (v0) (v2) (IntKind.i64.wrap (v2 - v1)) (IntKind.i64.wrap (v3 - v2))
noncomputable def xs0a.t2 {γ : Type} (ret : ((List (List Int × Int × Int))) → Option γ) (lp2 : (List (List Int × Int × Int)) → Int → Int → Int → Option γ) (v0 : List (List Int × Int × Int)) (v1 : Int) (v2 : Int) (v3 : Int) : Option γ :=
 bif v2 != v3 then
  bif decide (v2 > v3) then
   (xs08 (v0) (IntKind.i64.wrap (v1 - v2)) (v1) (v3)).bind fun (r0 : (List (List Int × Int × Int))) =>
   lp2 (r0) (v1) (IntKind.i64.wrap (v2 - v3)) (v3)
  else
   (xs08 (v0) (IntKind.i64.wrap (v1 - v2)) (IntKind.i64.wrap (IntKind.i64.wrap (v1 + v3) - v2)) (v2)).bind fun (r1 : (List (List Int × Int × Int))) =>
   lp2 (r1) (v1) (v2) (IntKind.i64.wrap (v3 - v2))
 else
  (xs08 (v0) (IntKind.i64.wrap (v1 - v2)) (v1) (v2)).bind fun (r2 : (List (List Int × Int × Int))) =>
  ret (r2)
theorem xs0a.k (v0 : List (List Int × Int × Int)) (v1 : Int) (v2 : Int) (v3 : Int) : topL E (callT E tab) 122 Try.f122 (xs0a.c v0 v1 v2 v3) = xs0a.t (fun b => some (xs0a.mk b)) xs0a.q2 v0 v1 v2 v3 := by kernel_rfl
theorem xs0a.k2 (v0 : List (List Int × Int × Int)) (v1 : Int) (v2 : Int) (v3 : Int) : roundL E (callT E tab) 122 Try.f122 5 [.r, .r, .l, .b] (⟨(.val .one), [.d .sha (.sl (.pair (.sl (.int .i64)) (.pair (.int .i64) (.int .i64)))) v0], true, false, false, 0, 0⟩ :: nn 1 (vc (iL v1) :: nn 1 (vc (.fn 76 []) :: nn 5 (vc (iL v2) :: vc (iL v3) :: nn 46 ([]))))) = xs0a.t2 (fun b => some (xs0a.mk b)) xs0a.q2 v0 v1 v2 v3 := by kernel_rfl
theorem xs0a.eq (v0 : List (List Int × Int × Int)) (v1 : Int) (v2 : Int) (v3 : Int) {b : (List (List Int × Int × Int))} (h : xs0a.t some xs0a.l2 v0 v1 v2 v3 = some b) : xs0a v0 v1 v2 v3 = some b := tOf_intro xs0a.un (fun _ => by kernel_rfl) (vlim_fn (callT_le E tab) rfl rfl rfl ((xs0a.k v0 v1 v2 v3).trans ((by unfold xs0a.t; repeat' first | exact Sub.ret | exact Sub.none | exact Sub.loop | apply Sub.cond | (apply Sub.bind; intro _) : Sub xs0a.mk _ _) b h)))
theorem xs0a.eq2 (v0 : List (List Int × Int × Int)) (v1 : Int) (v2 : Int) (v3 : Int) {b : (List (List Int × Int × Int))} (h : xs0a.t2 some xs0a.l2 v0 v1 v2 v3 = some b) : xs0a.l2 v0 v1 v2 v3 = some b := tOf_intro xs0a.un (fun _ => by kernel_rfl) (loopAtL_step ((xs0a.k2 v0 v1 v2 v3).trans ((by unfold xs0a.t2; repeat' first | exact Sub.ret | exact Sub.none | exact Sub.loop | apply Sub.cond | (apply Sub.bind; intro _) : Sub xs0a.mk _ _) b h)))
noncomputable def xs08.q1 (v0 : List (List Int × Int × Int)) (v1 : Int) (v2 : Int) (v3 : Int) (v4 : Int) : Option R := loopAtL E (callT E tab) 123 Try.f123 5 [.r, .b] (⟨(.val .one), [.d .sha (.sl (.pair (.sl (.int .i64)) (.pair (.int .i64) (.int .i64)))) v0], true, false, false, 0, 0⟩ :: vc (iL v1) :: vc (iL v2) :: vc (iL v3) :: nn 6 (vc (iL v4) :: nn 27 ([])))
noncomputable def xs08.l1 (v0 : List (List Int × Int × Int)) (v1 : Int) (v2 : Int) (v3 : Int) (v4 : Int) : Option ((List (List Int × Int × Int))) := tOf xs08.mk (xs08.q1 v0 v1 v2 v3 v4)
noncomputable def xs08.t {γ : Type} (ret : ((List (List Int × Int × Int))) → Option γ) (lp1 : (List (List Int × Int × Int)) → Int → Int → Int → Int → Option γ) (v0 : List (List Int × Int × Int)) (v1 : Int) (v2 : Int) (v3 : Int) : Option γ :=
 lp1 (v0) (v1) (v2) (v3) ((0 : Int))
noncomputable def xs08.t1 {γ : Type} (ret : ((List (List Int × Int × Int))) → Option γ) (lp1 : (List (List Int × Int × Int)) → Int → Int → Int → Int → Option γ) (v0 : List (List Int × Int × Int)) (v1 : Int) (v2 : Int) (v3 : Int) (v4 : Int) : Option γ :=
 bif decide (v4 < v3) then
  bif decide ((0 : Int) ≤ IntKind.i64.wrap (v2 + v4)) then
   bif decide ((IntKind.i64.wrap (v2 + v4)).toNat < v0.length) then
    bif decide ((IntKind.i64.wrap (v2 + v4)).toNat < v0.length) then
     bif decide ((0 : Int) ≤ IntKind.i64.wrap (v1 + v4)) then
      bif decide ((IntKind.i64.wrap (v1 + v4)).toNat < v0.length) then
       bif decide ((IntKind.i64.wrap (v1 + v4)).toNat < v0.length) then
        bif decide ((0 : Int) ≤ IntKind.i64.wrap (v1 + v4)) then
         bif decide ((IntKind.i64.wrap (v1 + v4)).toNat < v0.length) then
          bif decide ((IntKind.i64.wrap (v1 + v4)).toNat < v0.length) then
           bif decide ((0 : Int) ≤ IntKind.i64.wrap (v2 + v4)) then
            bif decide   ((IntKind.i64.wrap (v2 + v4)).toNat <     (v0.set (IntKind.i64.wrap (v1 + v4)).toNat         ((v0.getD (IntKind.i64.wrap (v2 + v4)).toNat ([], (0 : Int), (0 : Int))).fst,           (v0.getD (IntKind.i64.wrap (v2 + v4)).toNat ([], (0 : Int), (0 : Int))).snd.fst,           (v0.getD (IntKind.i64.wrap (v2 + v4)).toNat ([], (0 : Int), (0 : Int))).snd.snd)).length) then
             bif decide   ((IntKind.i64.wrap (v2 + v4)).toNat <     (v0.set (IntKind.i64.wrap (v1 + v4)).toNat         ((v0.getD (IntKind.i64.wrap (v2 + v4)).toNat ([], (0 : Int), (0 : Int))).fst,           (v0.getD (IntKind.i64.wrap (v2 + v4)).toNat ([], (0 : Int), (0 : Int))).snd.fst,           (v0.getD (IntKind.i64.wrap (v2 + v4)).toNat ([], (0 : Int), (0 : Int))).snd.snd)).length) then
              lp1 ((v0.set (IntKind.i64.wrap (v1 + v4)).toNat       ((v0.getD (IntKind.i64.wrap (v2 + v4)).toNat ([], (0 : Int), (0 : Int))).fst,         (v0.getD (IntKind.i64.wrap (v2 + v4)).toNat ([], (0 : Int), (0 : Int))).snd.fst,         (v0.getD (IntKind.i64.wrap (v2 + v4)).toNat ([], (0 : Int), (0 : Int))).snd.snd)).set   (IntKind.i64.wrap (v2 + v4)).toNat   ((v0.getD (IntKind.i64.wrap (v1 + v4)).toNat ([], (0 : Int), (0 : Int))).fst,     (v0.getD (IntKind.i64.wrap (v1 + v4)).toNat ([], (0 : Int), (0 : Int))).snd.fst,     (v0.getD (IntKind.i64.wrap (v1 + v4)).toNat ([], (0 : Int), (0 : Int))).snd.snd)) (v1) (v2) (v3) (IntKind.i64.wrap (v4 + (1 : Int)))
             else
              none
            else
             none
           else
            none
          else
           none
         else
          none
        else
         none
       else
        none
      else
       none
     else
      none
    else
     none
   else
    none
  else
   none
 else
  ret (v0)
theorem xs08.k (v0 : List (List Int × Int × Int)) (v1 : Int) (v2 : Int) (v3 : Int) : topL E (callT E tab) 123 Try.f123 (xs08.c v0 v1 v2 v3) = xs08.t (fun b => some (xs08.mk b)) xs08.q1 v0 v1 v2 v3 := by kernel_rfl
theorem xs08.k1 (v0 : List (List Int × Int × Int)) (v1 : Int) (v2 : Int) (v3 : Int) (v4 : Int) : roundL E (callT E tab) 123 Try.f123 5 [.r, .b] (⟨(.val .one), [.d .sha (.sl (.pair (.sl (.int .i64)) (.pair (.int .i64) (.int .i64)))) v0], true, false, false, 0, 0⟩ :: vc (iL v1) :: vc (iL v2) :: vc (iL v3) :: nn 6 (vc (iL v4) :: nn 27 ([]))) = xs08.t1 (fun b => some (xs08.mk b)) xs08.q1 v0 v1 v2 v3 v4 := by kernel_rfl
theorem xs08.eq (v0 : List (List Int × Int × Int)) (v1 : Int) (v2 : Int) (v3 : Int) {b : (List (List Int × Int × Int))} (h : xs08.t some xs08.l1 v0 v1 v2 v3 = some b) : xs08 v0 v1 v2 v3 = some b := tOf_intro xs08.un (fun _ => by kernel_rfl) (vlim_fn (callT_le E tab) rfl rfl rfl ((xs08.k v0 v1 v2 v3).trans ((by unfold xs08.t; repeat' first | exact Sub.ret | exact Sub.none | exact Sub.loop | apply Sub.cond | (apply Sub.bind; intro _) : Sub xs08.mk _ _) b h)))
theorem xs08.eq1 (v0 : List (List Int × Int × Int)) (v1 : Int) (v2 : Int) (v3 : Int) (v4 : Int) {b : (List (List Int × Int × Int))} (h : xs08.t1 some xs08.l1 v0 v1 v2 v3 v4 = some b) : xs08.l1 v0 v1 v2 v3 v4 = some b := tOf_intro xs08.un (fun _ => by kernel_rfl) (loopAtL_step ((xs08.k1 v0 v1 v2 v3 v4).trans ((by unfold xs08.t1; repeat' first | exact Sub.ret | exact Sub.none | exact Sub.loop | apply Sub.cond | (apply Sub.bind; intro _) : Sub xs08.mk _ _) b h)))
noncomputable def impl_Row_own.t {γ : Type} (ret : ((List Int)) → Option γ) (v0 : List Int) : Option γ :=
 (xs0l (v0)).bind fun (r0 : (List Int)) =>
 ret (r0)
theorem impl_Row_own.k (v0 : List Int) : topL E (callT E tab) 77 Try.f77 (impl_Row_own.c v0) = impl_Row_own.t (fun b => some (impl_Row_own.mk b)) v0 := by kernel_rfl
theorem impl_Row_own.eq (v0 : List Int) {b : (List Int)} (h : impl_Row_own.t some v0 = some b) : impl_Row_own v0 = some b := tOf_intro impl_Row_own.un (fun _ => by kernel_rfl) (vlim_fn (callT_le E tab) rfl rfl rfl ((impl_Row_own.k v0).trans ((by unfold impl_Row_own.t; repeat' first | exact Sub.ret | exact Sub.none | exact Sub.loop | apply Sub.cond | (apply Sub.bind; intro _) : Sub impl_Row_own.mk _ _) b h)))
noncomputable def xs0l.t {γ : Type} (ret : ((List Int)) → Option γ) (v0 : List Int) : Option γ :=
 bif decide (v0.length ≤ (4294967296 : Nat)) then
  ret (v0)
 else
  none
theorem xs0l.k (v0 : List Int) : extOf 106 (xs0l.c v0) = xs0l.t (fun b => some (xs0l.mk b)) v0 := by kernel_rfl
theorem xs0l.eq (v0 : List Int) {b : (List Int)} (h : xs0l.t some v0 = some b) : xs0l v0 = some b := tOf_intro xs0l.un (fun _ => by kernel_rfl) (vlim_ext (g := extOf 106) rfl ((xs0l.k v0).trans ((by unfold xs0l.t; repeat' first | exact Sub.ret | exact Sub.none | exact Sub.loop | apply Sub.cond | (apply Sub.bind; intro _) : Sub xs0l.mk _ _) b h)))
noncomputable def xs03.q1005 (v0 : Nat) (v1 : Nat) (v2 : List (List Int × Int × Int)) (v3 : Int) (v4 : Int) : Option R := loopAtL E (callT E tab) 78 Try.f78 2 [.r, .r, .r, .l, .r, .b] (vc (.d (.jnk v0 v1) (.sl (.pair (.sl (.int .i64)) (.pair (.int .i64) (.int .i64)))) v2) :: vc (.fn 79 []) :: nn 3 (vc (iL v3) :: vc (iL v4) :: nn 35 ([])))
noncomputable def xs03.l1005 (v0 : Nat) (v1 : Nat) (v2 : List (List Int × Int × Int)) (v3 : Int) (v4 : Int) : Option ((List (List Int × Int × Int))) := tOf xs03.mk (xs03.q1005 v0 v1 v2 v3 v4)
noncomputable def xs03.q5 (v0 : List (List Int × Int × Int)) (v1 : Int) (v2 : Int) : Option R := loopAtL E (callT E tab) 78 Try.f78 2 [.r, .r, .r, .l, .r, .b] (vc (.d .deep (.sl (.pair (.sl (.int .i64)) (.pair (.int .i64) (.int .i64)))) v0) :: vc (.fn 79 []) :: nn 3 (vc (iL v1) :: vc (iL v2) :: nn 35 ([])))
noncomputable def xs03.l5 (v0 : List (List Int × Int × Int)) (v1 : Int) (v2 : Int) : Option ((List (List Int × Int × Int))) := tOf xs03.mk (xs03.q5 v0 v1 v2)
noncomputable def xs03.t {γ : Type} (ret : ((List (List Int × Int × Int))) → Option γ) (lp1005 : Nat → Nat → (List (List Int × Int × Int)) → Int → Int → Option γ) (lp5 : (List (List Int × Int × Int)) → Int → Int → Option γ) (v0 : List (List Int × Int × Int)) : Option γ :=
 (xs07 (v0)).bind fun (r0 : Int) =>
 bif r0 == (-1 : Int) then
  ret (v0)
 else
  lp5 (v0) (r0) (IntKind.i64.wrap (r0 + (1 : Int)))
noncomputable def xs03.t1005 {γ : Type} (ret : ((List (List Int × Int × Int))) → Option γ) (lp1005 : Nat → Nat → (List (List Int × Int × Int)) → Int → Int → Option γ) (lp5 : (List (List Int × Int × Int)) → Int → Int → Option γ) (v0 : Nat) (v1 : Nat) (v2 : List (List Int × Int × Int)) (v3 : Int) (v4 : Int) : Option γ :=
 bif decide (v4 < (↑v2.length : Int)) then
  bif decide ((0 : Int) ≤ v4) then
   bif decide (v4.toNat < v2.length) then
    bif decide (v4.toNat < v2.length) then
     bif decide (v4.toNat < v2.length) then
      bif decide (v4.toNat < v2.length) then
       (impl_grouped_2 ((v2.getD v4.toNat ([], (0 : Int), (0 : Int))).fst) ((v2.getD v4.toNat ([], (0 : Int), (0 : Int))).snd.fst) ((v2.getD v4.toNat ([], (0 : Int), (0 : Int))).snd.snd)).bind fun (r2 : Bool) =>
       bif !r2 then
        bif decide ((0 : Int) ≤ v3) then
         bif decide (v3.toNat < v2.length) then
          bif decide (v0 = v3.toNat) then
           bif decide (v3.toNat < v4.toNat) then
            bif decide (v1 ≤ v4.toNat) then
             bif decide (v3.toNat < v2.length) then
              bif decide (v4.toNat < v2.length) then
               bif Nat.beq (0 : Nat) (0 : Nat) &&     (Nat.beq (0 : Nat) (0 : Nat) && (Nat.beq (0 : Nat) (0 : Nat) && decide (v4.toNat = v4.toNat))) &&   (decide (IntKind.i64 = IntKind.i64) &&       decide         ((v2.getD v4.toNat ([], (0 : Int), (0 : Int))).snd.fst =           (v2.getD v4.toNat ([], (0 : Int), (0 : Int))).snd.fst) &&     (decide (IntKind.i64 = IntKind.i64) &&         decide           ((v2.getD v4.toNat ([], (0 : Int), (0 : Int))).snd.snd =             (v2.getD v4.toNat ([], (0 : Int), (0 : Int))).snd.snd) &&       Bool.true)) then
                lp1005 (v3.toNat + (1 : Nat)) (v4.toNat + (1 : Nat)) (v2.set v3.toNat (v2.getD v4.toNat ([], (0 : Int), (0 : Int)))) (IntKind.i64.wrap (v3 + (1 : Int))) (IntKind.i64.wrap (v4 + (1 : Int)))
               else
                none
              else
               none
             else
              none
            else
             none
           else
            none
          else
           none
         else
          none
        else
         none
       else
        lp1005 (v0) (v1) (v2) (v3) (IntKind.i64.wrap (v4 + (1 : Int)))
      else
       none
     else
      none
    else
     none
   else
    none
  else
   none
 else
  bif decide ((0 : Int) ≤ (Option.some v3).getD (0 : Int)) then
   bif decide ((Option.some v3).getD (0 : Int) ≤ (↑v2.length : Int)) then
    bif decide (((Option.some v3).getD (0 : Int)).toNat ≤ v0) then
     bif !decide ((List.drop ((Option.some v3).getD (0 : Int)).toNat v2).length = (0 : Nat)) then
      bif decide (Option.none.getD (0 : Int) ≤ v3) then
       bif decide   (v3 ≤     (↑(List.take ((Option.some v3).getD (0 : Int)).toNat v2 ++             List.replicate (v2.length - ((Option.some v3).getD (0 : Int)).toNat) ([], (0 : Int), (0 : Int))).length :       Int)) then
        ret (List.take (v3 - Option.none.getD (0 : Int)).toNat   (List.drop (Option.none.getD (0 : Int)).toNat     (List.take ((Option.some v3).getD (0 : Int)).toNat v2 ++       List.replicate (v2.length - ((Option.some v3).getD (0 : Int)).toNat) ([], (0 : Int), (0 : Int)))))
       else
        none
      else
       none
     else
      none
    else
     none
   else
    none
  else
   none
noncomputable def xs03.t5 {γ : Type} (ret : ((List (List Int × Int × Int))) → Option γ) (lp1005 : Nat → Nat → (List (List Int × Int × Int)) → Int → Int → Option γ) (lp5 : (List (List Int × Int × Int)) → Int → Int → Option γ) (v0 : List (List Int × Int × Int)) (v1 : Int) (v2 : Int) : Option γ :=
 bif decide (v2 < (↑v0.length : Int)) then
  bif decide ((0 : Int) ≤ v2) then
   bif decide (v2.toNat < v0.length) then
    bif decide (v2.toNat < v0.length) then
     bif decide (v2.toNat < v0.length) then
      bif decide (v2.toNat < v0.length) then
       (impl_grouped_2 ((v0.getD v2.toNat ([], (0 : Int), (0 : Int))).fst) ((v0.getD v2.toNat ([], (0 : Int), (0 : Int))).snd.fst) ((v0.getD v2.toNat ([], (0 : Int), (0 : Int))).snd.snd)).bind fun (r1 : Bool) =>
       bif !r1 then
        bif decide ((0 : Int) ≤ v1) then
         bif decide (v1.toNat < v0.length) then
          bif decide (v1.toNat = v1.toNat) then
           bif decide (v1.toNat < v2.toNat) then
            bif decide (v1.toNat ≤ v2.toNat) then
             bif decide (v1.toNat < v0.length) then
              bif decide (v2.toNat < v0.length) then
               bif Nat.beq (0 : Nat) (0 : Nat) &&     (Nat.beq (0 : Nat) (0 : Nat) && (Nat.beq (0 : Nat) (0 : Nat) && decide (v2.toNat = v2.toNat))) &&   (decide (IntKind.i64 = IntKind.i64) &&       decide         ((v0.getD v2.toNat ([], (0 : Int), (0 : Int))).snd.fst =           (v0.getD v2.toNat ([], (0 : Int), (0 : Int))).snd.fst) &&     (decide (IntKind.i64 = IntKind.i64) &&         decide           ((v0.getD v2.toNat ([], (0 : Int), (0 : Int))).snd.snd =             (v0.getD v2.toNat ([], (0 : Int), (0 : Int))).snd.snd) &&       Bool.true)) then
                lp1005 (v1.toNat + (1 : Nat)) (v2.toNat + (1 : Nat)) (v0.set v1.toNat (v0.getD v2.toNat ([], (0 : Int), (0 : Int)))) (IntKind.i64.wrap (v1 + (1 : Int))) (IntKind.i64.wrap (v2 + (1 : Int)))
               else
                none
              else
               none
             else
              none
            else
             none
           else
            none
          else
           none
         else
          none
        else
         none
       else
        lp5 (v0) (v1) (IntKind.i64.wrap (v2 + (1 : Int)))
      else
       none
     else
      none
    else
     none
   else
    none
  else
   none
 else
  bif decide ((0 : Int) ≤ (Option.some v1).getD (0 : Int)) then
   bif decide ((Option.some v1).getD (0 : Int) ≤ (↑v0.length : Int)) then
    bif !decide ((List.drop ((Option.some v1).getD (0 : Int)).toNat v0).length = (0 : Nat)) then
     bif decide (Option.none.getD (0 : Int) ≤ v1) then
      bif decide   (v1 ≤     (↑(List.take ((Option.some v1).getD (0 : Int)).toNat v0 ++             List.replicate (v0.length - ((Option.some v1).getD (0 : Int)).toNat) ([], (0 : Int), (0 : Int))).length :       Int)) then
       ret (List.take (v1 - Option.none.getD (0 : Int)).toNat   (List.drop (Option.none.getD (0 : Int)).toNat     (List.take ((Option.some v1).getD (0 : Int)).toNat v0 ++       List.replicate (v0.length - ((Option.some v1).getD (0 : Int)).toNat) ([], (0 : Int), (0 : Int)))))
      else
       none
     else
      none
    else
     none
   else
    none
  else
   none
theorem xs03.k (v0 : List (List Int × Int × Int)) : topL E (callT E tab) 78 Try.f78 (xs03.c v0) = xs03.t (fun b => some (xs03.mk b)) xs03.q1005 xs03.q5 v0 := by kernel_rfl
theorem xs03.k1005 (v0 : Nat) (v1 : Nat) (v2 : List (List Int × Int × Int)) (v3 : Int) (v4 : Int) : roundL E (callT E tab) 78 Try.f78 2 [.r, .r, .r, .l, .r, .b] (vc (.d (.jnk v0 v1) (.sl (.pair (.sl (.int .i64)) (.pair (.int .i64) (.int .i64)))) v2) :: vc (.fn 79 []) :: nn 3 (vc (iL v3) :: vc (iL v4) :: nn 35 ([]))) = xs03.t1005 (fun b => some (xs03.mk b)) xs03.q1005 xs03.q5 v0 v1 v2 v3 v4 := by kernel_rfl
theorem xs03.k5 (v0 : List (List Int × Int × Int)) (v1 : Int) (v2 : Int) : roundL E (callT E tab) 78 Try.f78 2 [.r, .r, .r, .l, .r, .b] (vc (.d .deep (.sl (.pair (.sl (.int .i64)) (.pair (.int .i64) (.int .i64)))) v0) :: vc (.fn 79 []) :: nn 3 (vc (iL v1) :: vc (iL v2) :: nn 35 ([]))) = xs03.t5 (fun b => some (xs03.mk b)) xs03.q1005 xs03.q5 v0 v1 v2 := by kernel_rfl
theorem xs03.eq (v0 : List (List Int × Int × Int)) {b : (List (List Int × Int × Int))} (h : xs03.t some xs03.l1005 xs03.l5 v0 = some b) : xs03 v0 = some b := tOf_intro xs03.un (fun _ => by kernel_rfl) (vlim_fn (callT_le E tab) rfl rfl rfl ((xs03.k v0).trans ((by unfold xs03.t; repeat' first | exact Sub.ret | exact Sub.none | exact Sub.loop | apply Sub.cond | (apply Sub.bind; intro _) : Sub xs03.mk _ _) b h)))
theorem xs03.eq1005 (v0 : Nat) (v1 : Nat) (v2 : List (List Int × Int × Int)) (v3 : Int) (v4 : Int) {b : (List (List Int × Int × Int))} (h : xs03.t1005 some xs03.l1005 xs03.l5 v0 v1 v2 v3 v4 = some b) : xs03.l1005 v0 v1 v2 v3 v4 = some b := tOf_intro xs03.un (fun _ => by kernel_rfl) (loopAtL_step ((xs03.k1005 v0 v1 v2 v3 v4).trans ((by unfold xs03.t1005; repeat' first | exact Sub.ret | exact Sub.none | exact Sub.loop | apply Sub.cond | (apply Sub.bind; intro _) : Sub xs03.mk _ _) b h)))
theorem xs03.eq5 (v0 : List (List Int × Int × Int)) (v1 : Int) (v2 : Int) {b : (List (List Int × Int × Int))} (h : xs03.t5 some xs03.l1005 xs03.l5 v0 v1 v2 = some b) : xs03.l5 v0 v1 v2 = some b := tOf_intro xs03.un (fun _ => by kernel_rfl) (loopAtL_step ((xs03.k5 v0 v1 v2).trans ((by unfold xs03.t5; repeat' first | exact Sub.ret | exact Sub.none | exact Sub.loop | apply Sub.cond | (apply Sub.bind; intro _) : Sub xs03.mk _ _) b h)))
end GoV

/- Equations of the program's functions (printed by wip/tools/emit.py). -/
namespace GoV
open Go Go.Proofs
set_option maxRecDepth 100000

noncomputable def xs07.q2 (v0 : List (List Int × Int × Int)) (v1 : Int) (v2 : Int) : Option R := loopAtL E (callT E tab) 107 Try.f107 2 [.r, .l, .r, .b] (vc (.d .fro (.sl (.pair (.sl (.int .i64)) (.pair (.int .i64) (.int .i64)))) v0) :: vc (.fn 79 []) :: nn 5 (vc (iL v1) :: vc (iL v2) :: nn 10 ([])))
noncomputable def xs07.l2 (v0 : List (List Int × Int × Int)) (v1 : Int) (v2 : Int) : Option (Int) := tOf xs07.mk (xs07.q2 v0 v1 v2)
noncomputable def xs07.t {γ : Type} (ret : (Int) → Option γ) (lp2 : (List (List Int × Int × Int)) → Int → Int → Option γ) (v0 : List (List Int × Int × Int)) : Option γ :=
 lp2 (v0) ((↑v0.length : Int)) ((0 : Int))
noncomputable def xs07.t2 {γ : Type} (ret : (Int) → Option γ) (lp2 : (List (List Int × Int × Int)) → Int → Int → Option γ) (v0 : List (List Int × Int × Int)) (v1 : Int) (v2 : Int) : Option γ :=
 bif decide (v2 < v1) then
  bif decide ((0 : Int) ≤ v2) then
   bif decide (v2.toNat < v0.length) then
    (impl_grouped_2 ((v0.getD v2.toNat ([], (0 : Int), (0 : Int))).fst) ((v0.getD v2.toNat ([], (0 : Int), (0 : Int))).snd.fst) ((v0.getD v2.toNat ([], (0 : Int), (0 : Int))).snd.snd)).bind fun (r0 : Bool) =>
    bif r0 then
     ret (v2)
    else
     lp2 (v0) (v1) (IntKind.i64.wrap (v2 + (1 : Int)))
   else
    none
  else
   none
 else
  ret ((-1 : Int))
theorem xs07.k (v0 : List (List Int × Int × Int)) : topL E (callT E tab) 107 Try.f107 (xs07.c v0) = xs07.t (fun b => some (xs07.mk b)) xs07.q2 v0 := by kernel_rfl
theorem xs07.k2 (v0 : List (List Int × Int × Int)) (v1 : Int) (v2 : Int) : roundL E (callT E tab) 107 Try.f107 2 [.r, .l, .r, .b] (vc (.d .fro (.sl (.pair (.sl (.int .i64)) (.pair (.int .i64) (.int .i64)))) v0) :: vc (.fn 79 []) :: nn 5 (vc (iL v1) :: vc (iL v2) :: nn 10 ([]))) = xs07.t2 (fun b => some (xs07.mk b)) xs07.q2 v0 v1 v2 := by kernel_rfl
theorem xs07.eq (v0 : List (List Int × Int × Int)) {b : Int} (h : xs07.t some xs07.l2 v0 = some b) : xs07 v0 = some b := tOf_intro xs07.un (fun _ => by kernel_rfl) (vlim_fn (callT_le E tab) rfl rfl rfl ((xs07.k v0).trans ((by unfold xs07.t; repeat' first | exact Sub.ret | exact Sub.none | exact Sub.loop | apply Sub.cond | (apply Sub.bind; intro _) : Sub xs07.mk _ _) b h)))
theorem xs07.eq2 (v0 : List (List Int × Int × Int)) (v1 : Int) (v2 : Int) {b : Int} (h : xs07.t2 some xs07.l2 v0 v1 v2 = some b) : xs07.l2 v0 v1 v2 = some b := tOf_intro xs07.un (fun _ => by kernel_rfl) (loopAtL_step ((xs07.k2 v0 v1 v2).trans ((by unfold xs07.t2; repeat' first | exact Sub.ret | exact Sub.none | exact Sub.loop | apply Sub.cond | (apply Sub.bind; intro _) : Sub xs07.mk _ _) b h)))
noncomputable def impl_grouped_2.t {γ : Type} (ret : (Bool) → Option γ) (v0 : List Int) (v1 : Int) (v2 : Int) : Option γ :=
 bif v1 == (0 : Int) then
  ret (v2 == (0 : Int))
 else
  ret (Bool.false)
theorem impl_grouped_2.k (v0 : List Int) (v1 : Int) (v2 : Int) : topL E (callT E tab) 79 Try.f79 (impl_grouped_2.c v0 v1 v2) = impl_grouped_2.t (fun b => some (impl_grouped_2.mk b)) v0 v1 v2 := by kernel_rfl
theorem impl_grouped_2.eq (v0 : List Int) (v1 : Int) (v2 : Int) {b : Bool} (h : impl_grouped_2.t some v0 v1 v2 = some b) : impl_grouped_2 v0 v1 v2 = some b := tOf_intro impl_grouped_2.un (fun _ => by kernel_rfl) (vlim_fn (callT_le E tab) rfl rfl rfl ((impl_grouped_2.k v0 v1 v2).trans ((by unfold impl_grouped_2.t; repeat' first | exact Sub.ret | exact Sub.none | exact Sub.loop | apply Sub.cond | (apply Sub.bind; intro _) : Sub impl_grouped_2.mk _ _) b h)))
noncomputable def laws_eqGroupS.q4 (v0 : List (List Int × Int × Int)) (v1 : List (List Int × Int × Int)) (v2 : Int) : Option R := loopAtL E (callT E tab) 11 Try.f11 2 [.r, .r, .l, .r, .b] (vc (.d .fro (.sl (.pair (.sl (.int .i64)) (.pair (.int .i64) (.int .i64)))) v0) :: vc (.d .fro (.sl (.pair (.sl (.int .i64)) (.pair (.int .i64) (.int .i64)))) v1) :: nn 3 (vc (iL v2) :: nn 21 ([])))
noncomputable def laws_eqGroupS.l4 (v0 : List (List Int × Int × Int)) (v1 : List (List Int × Int × Int)) (v2 : Int) : Option (Bool) := tOf laws_eqGroupS.mk (laws_eqGroupS.q4 v0 v1 v2)
noncomputable def laws_eqGroupS.t {γ : Type} (ret : (Bool) → Option γ) (lp4 : (List (List Int × Int × Int)) → (List (List Int × Int × Int)) → Int → Option γ) (v0 : List (List Int × Int × Int)) (v1 : List (List Int × Int × Int)) : Option γ :=
 bif (↑v0.length : Int) != (↑v1.length : Int) then
  ret (Bool.false)
 else
  lp4 (v0) (v1) ((0 : Int))
noncomputable def laws_eqGroupS.t4 {γ : Type} (ret : (Bool) → Option γ) (lp4 : (List (List Int × Int × Int)) → (List (List Int × Int × Int)) → Int → Option γ) (v0 : List (List Int × Int × Int)) (v1 : List (List Int × Int × Int)) (v2 : Int) : Option γ :=
 bif decide (v2 < (↑v0.length : Int)) then
  bif decide ((0 : Int) ≤ v2) then
   bif decide (v2.toNat < v0.length) then
    bif decide ((0 : Int) ≤ v2) then
     bif decide (v2.toNat < v1.length) then
      (laws_eqGroup ((v0.getD v2.toNat ([], (0 : Int), (0 : Int))).fst) ((v0.getD v2.toNat ([], (0 : Int), (0 : Int))).snd.fst) ((v0.getD v2.toNat ([], (0 : Int), (0 : Int))).snd.snd) ((v1.getD v2.toNat ([], (0 : Int), (0 : Int))).fst) ((v1.getD v2.toNat ([], (0 : Int), (0 : Int))).snd.fst) ((v1.getD v2.toNat ([], (0 : Int), (0 : Int))).snd.snd)).bind fun (r0 : Bool) =>
      bif !r0 then
       ret (Bool.false)
      else
       lp4 (v0) (v1) (IntKind.i64.wrap (v2 + (1 : Int)))
     else
      none
    else
     none
   else
    none
  else
   none
 else
  ret (Bool.true)
theorem laws_eqGroupS.k (v0 : List (List Int × Int × Int)) (v1 : List (List Int × Int × Int)) : topL E (callT E tab) 11 Try.f11 (laws_eqGroupS.c v0 v1) = laws_eqGroupS.t (fun b => some (laws_eqGroupS.mk b)) laws_eqGroupS.q4 v0 v1 := by kernel_rfl
theorem laws_eqGroupS.k4 (v0 : List (List Int × Int × Int)) (v1 : List (List Int × Int × Int)) (v2 : Int) : roundL E (callT E tab) 11 Try.f11 2 [.r, .r, .l, .r, .b] (vc (.d .fro (.sl (.pair (.sl (.int .i64)) (.pair (.int .i64) (.int .i64)))) v0) :: vc (.d .fro (.sl (.pair (.sl (.int .i64)) (.pair (.int .i64) (.int .i64)))) v1) :: nn 3 (vc (iL v2) :: nn 21 ([]))) = laws_eqGroupS.t4 (fun b => some (laws_eqGroupS.mk b)) laws_eqGroupS.q4 v0 v1 v2 := by kernel_rfl
theorem laws_eqGroupS.eq (v0 : List (List Int × Int × Int)) (v1 : List (List Int × Int × Int)) {b : Bool} (h : laws_eqGroupS.t some laws_eqGroupS.l4 v0 v1 = some b) : laws_eqGroupS v0 v1 = some b := tOf_intro laws_eqGroupS.un (fun _ => by kernel_rfl) (vlim_fn (callT_le E tab) rfl rfl rfl ((laws_eqGroupS.k v0 v1).trans ((by unfold laws_eqGroupS.t; repeat' first | exact Sub.ret | exact Sub.none | exact Sub.loop | apply Sub.cond | (apply Sub.bind; intro _) : Sub laws_eqGroupS.mk _ _) b h)))
theorem laws_eqGroupS.eq4 (v0 : List (List Int × Int × Int)) (v1 : List (List Int × Int × Int)) (v2 : Int) {b : Bool} (h : laws_eqGroupS.t4 some laws_eqGroupS.l4 v0 v1 v2 = some b) : laws_eqGroupS.l4 v0 v1 v2 = some b := tOf_intro laws_eqGroupS.un (fun _ => by kernel_rfl) (loopAtL_step ((laws_eqGroupS.k4 v0 v1 v2).trans ((by unfold laws_eqGroupS.t4; repeat' first | exact Sub.ret | exact Sub.none | exact Sub.loop | apply Sub.cond | (apply Sub.bind; intro _) : Sub laws_eqGroupS.mk _ _) b h)))
noncomputable def laws_eqGroup.t {γ : Type} (ret : (Bool) → Option γ) (v0 : List Int) (v1 : Int) (v2 : Int) (v3 : List Int) (v4 : Int) (v5 : Int) : Option γ :=
 (laws_eqRow (v0) (v3)).bind fun (r0 : Bool) =>
 bif !r0 then
  ret (Bool.false)
 else
  bif v1 != v4 then
   ret (Bool.false)
  else
   bif v2 != v5 then
    ret (Bool.false)
   else
    ret (Bool.true)
theorem laws_eqGroup.k (v0 : List Int) (v1 : Int) (v2 : Int) (v3 : List Int) (v4 : Int) (v5 : Int) : topL E (callT E tab) 41 Try.f41 (laws_eqGroup.c v0 v1 v2 v3 v4 v5) = laws_eqGroup.t (fun b => some (laws_eqGroup.mk b)) v0 v1 v2 v3 v4 v5 := by kernel_rfl
theorem laws_eqGroup.eq (v0 : List Int) (v1 : Int) (v2 : Int) (v3 : List Int) (v4 : Int) (v5 : Int) {b : Bool} (h : laws_eqGroup.t some v0 v1 v2 v3 v4 v5 = some b) : laws_eqGroup v0 v1 v2 v3 v4 v5 = some b := tOf_intro laws_eqGroup.un (fun _ => by kernel_rfl) (vlim_fn (callT_le E tab) rfl rfl rfl ((laws_eqGroup.k v0 v1 v2 v3 v4 v5).trans ((by unfold laws_eqGroup.t; repeat' first | exact Sub.ret | exact Sub.none | exact Sub.loop | apply Sub.cond | (apply Sub.bind; intro _) : Sub laws_eqGroup.mk _ _) b h)))
noncomputable def laws_eqRow.t {γ : Type} (ret : (Bool) → Option γ) (v0 : List Int) (v1 : List Int) : Option γ :=
 (laws_eqIntS (v0) (v1)).bind fun (r0 : Bool) =>
 bif !r0 then
  ret (Bool.false)
 else
  ret (Bool.true)
theorem laws_eqRow.k (v0 : List Int) (v1 : List Int) : topL E (callT E tab) 80 Try.f80 (laws_eqRow.c v0 v1) = laws_eqRow.t (fun b => some (laws_eqRow.mk b)) v0 v1 := by kernel_rfl
theorem laws_eqRow.eq (v0 : List Int) (v1 : List Int) {b : Bool} (h : laws_eqRow.t some v0 v1 = some b) : laws_eqRow v0 v1 = some b := tOf_intro laws_eqRow.un (fun _ => by kernel_rfl) (vlim_fn (callT_le E tab) rfl rfl rfl ((laws_eqRow.k v0 v1).trans ((by unfold laws_eqRow.t; repeat' first | exact Sub.ret | exact Sub.none | exact Sub.loop | apply Sub.cond | (apply Sub.bind; intro _) : Sub laws_eqRow.mk _ _) b h)))
noncomputable def laws_eqIntS.q4 (v0 : List Int) (v1 : List Int) (v2 : Int) : Option R := loopAtL E (callT E tab) 17 Try.f17 2 [.r, .r, .l, .r, .b] (vc (.d .fro (.sl (.int .i64)) v0) :: vc (.d .fro (.sl (.int .i64)) v1) :: nn 3 (vc (iL v2) :: nn 20 ([])))
noncomputable def laws_eqIntS.l4 (v0 : List Int) (v1 : List Int) (v2 : Int) : Option (Bool) := tOf laws_eqIntS.mk (laws_eqIntS.q4 v0 v1 v2)
noncomputable def laws_eqIntS.t {γ : Type} (ret : (Bool) → Option γ) (lp4 : (List Int) → (List Int) → Int → Option γ) (v0 : List Int) (v1 : List Int) : Option γ :=
 bif (↑v0.length : Int) != (↑v1.length : Int) then
  ret (Bool.false)
 else
  lp4 (v0) (v1) ((0 : Int))
noncomputable def laws_eqIntS.t4 {γ : Type} (ret : (Bool) → Option γ) (lp4 : (List Int) → (List Int) → Int → Option γ) (v0 : List Int) (v1 : List Int) (v2 : Int) : Option γ :=
 bif decide (v2 < (↑v0.length : Int)) then
  bif decide ((0 : Int) ≤ v2) then
   bif decide (v2.toNat < v0.length) then
    bif decide ((0 : Int) ≤ v2) then
     bif decide (v2.toNat < v1.length) then
      bif v0.getD v2.toNat (0 : Int) != v1.getD v2.toNat (0 : Int) then
       ret (Bool.false)
      else
       lp4 (v0) (v1) (IntKind.i64.wrap (v2 + (1 : Int)))
     else
      none
    else
     none
   else
    none
  else
   none
 else
  ret (Bool.true)
theorem laws_eqIntS.k (v0 : List Int) (v1 : List Int) : topL E (callT E tab) 17 Try.f17 (laws_eqIntS.c v0 v1) = laws_eqIntS.t (fun b => some (laws_eqIntS.mk b)) laws_eqIntS.q4 v0 v1 := by kernel_rfl
theorem laws_eqIntS.k4 (v0 : List Int) (v1 : List Int) (v2 : Int) : roundL E (callT E tab) 17 Try.f17 2 [.r, .r, .l, .r, .b] (vc (.d .fro (.sl (.int .i64)) v0) :: vc (.d .fro (.sl (.int .i64)) v1) :: nn 3 (vc (iL v2) :: nn 20 ([]))) = laws_eqIntS.t4 (fun b => some (laws_eqIntS.mk b)) laws_eqIntS.q4 v0 v1 v2 := by kernel_rfl
theorem laws_eqIntS.eq (v0 : List Int) (v1 : List Int) {b : Bool} (h : laws_eqIntS.t some laws_eqIntS.l4 v0 v1 = some b) : laws_eqIntS v0 v1 = some b := tOf_intro laws_eqIntS.un (fun _ => by kernel_rfl) (vlim_fn (callT_le E tab) rfl rfl rfl ((laws_eqIntS.k v0 v1).trans ((by unfold laws_eqIntS.t; repeat' first | exact Sub.ret | exact Sub.none | exact Sub.loop | apply Sub.cond | (apply Sub.bind; intro _) : Sub laws_eqIntS.mk _ _) b h)))
theorem laws_eqIntS.eq4 (v0 : List Int) (v1 : List Int) (v2 : Int) {b : Bool} (h : laws_eqIntS.t4 some laws_eqIntS.l4 v0 v1 v2 = some b) : laws_eqIntS.l4 v0 v1 v2 = some b := tOf_intro laws_eqIntS.un (fun _ => by kernel_rfl) (loopAtL_step ((laws_eqIntS.k4 v0 v1 v2).trans ((by unfold laws_eqIntS.t4; repeat' first | exact Sub.ret | exact Sub.none | exact Sub.loop | apply Sub.cond | (apply Sub.bind; intro _) : Sub laws_eqIntS.mk _ _) b h)))
noncomputable def xl0m.q2 (v0 : List (List Int × Int × Int)) (v1 : Int) (v2 : Int) : Option R := loopAtL E (callT E tab) 12 Try.f12 2 [.r, .l, .r, .b] (⟨(.val .one), [.d .deep (.sl (.pair (.sl (.int .i64)) (.pair (.int .i64) (.int .i64)))) v0], true, false, false, 0, 0⟩ :: vc (iL v1) :: nn 3 (vc (iL v2) :: nn 29 ([])))
noncomputable def xl0m.l2 (v0 : List (List Int × Int × Int)) (v1 : Int) (v2 : Int) : Option (Int × (List (List Int × Int × Int))) := tOf xl0m.mk (xl0m.q2 v0 v1 v2)
noncomputable def xl0m.t {γ : Type} (ret : (Int × (List (List Int × Int × Int))) → Option γ) (lp2 : (List (List Int × Int × Int)) → Int → Int → Option γ) (v0 : List (List Int × Int × Int)) (v1 : Int) : Option γ :=
 lp2 (v0) (v1) ((0 : Int))
noncomputable def xl0m.t2 {γ : Type} (ret : (Int × (List (List Int × Int × Int))) → Option γ) (lp2 : (List (List Int × Int × Int)) → Int → Int → Option γ) (v0 : List (List Int × Int × Int)) (v1 : Int) (v2 : Int) : Option γ :=
 bif decide (v2 < (↑v0.length : Int)) then
  bif decide ((0 : Int) ≤ v2) then
   bif decide (v2.toNat < v0.length) then
    bif decide (v2.toNat < v0.length) then
     bif decide (v2.toNat < v0.length) then
      (laws_markIntS_83f ((v0.getD v2.toNat ([], (0 : Int), (0 : Int))).fst) (v1)).bind fun (r0 : Int × (List Int)) =>
      bif decide (v2.toNat = v2.toNat) &&   (decide ((0 : Nat) + (0 : Nat) + (0 : Nat) = (0 : Nat) + (0 : Nat) + (0 : Nat)) &&     decide ((1 : Nat) + ((1 : Nat) + (1 : Nat)) = (1 : Nat) + ((1 : Nat) + (1 : Nat)))) then
       bif decide (v2.toNat < v0.length) then
        bif decide ((0 : Int) ≤ v2) then
         bif decide (v2.toNat < (v0.set v2.toNat (r0.snd, (v0.getD v2.toNat ([], (0 : Int), (0 : Int))).snd)).length) then
          bif decide (v2.toNat < (v0.set v2.toNat (r0.snd, (v0.getD v2.toNat ([], (0 : Int), (0 : Int))).snd)).length) then
           bif decide ((0 : Int) ≤ v2) then
            bif decide   (v2.toNat <     ((v0.set v2.toNat (r0.snd, (v0.getD v2.toNat ([], (0 : Int), (0 : Int))).snd)).set v2.toNat         (((v0.set v2.toNat (r0.snd, (v0.getD v2.toNat ([], (0 : Int), (0 : Int))).snd)).getD v2.toNat               ([], (0 : Int), (0 : Int))).fst,           r0.fst,           ((v0.set v2.toNat (r0.snd, (v0.getD v2.toNat ([], (0 : Int), (0 : Int))).snd)).getD v2.toNat                 ([], (0 : Int), (0 : Int))).snd.snd)).length) then
             bif decide   (v2.toNat <     ((v0.set v2.toNat (r0.snd, (v0.getD v2.toNat ([], (0 : Int), (0 : Int))).snd)).set v2.toNat         (((v0.set v2.toNat (r0.snd, (v0.getD v2.toNat ([], (0 : Int), (0 : Int))).snd)).getD v2.toNat               ([], (0 : Int), (0 : Int))).fst,           r0.fst,           ((v0.set v2.toNat (r0.snd, (v0.getD v2.toNat ([], (0 : Int), (0 : Int))).snd)).getD v2.toNat                 ([], (0 : Int), (0 : Int))).snd.snd)).length) then
              lp2 (((v0.set v2.toNat (r0.snd, (v0.getD v2.toNat ([], (0 : Int), (0 : Int))).snd)).set v2.toNat       (((v0.set v2.toNat (r0.snd, (v0.getD v2.toNat ([], (0 : Int), (0 : Int))).snd)).getD v2.toNat             ([], (0 : Int), (0 : Int))).fst,         r0.fst,         ((v0.set v2.toNat (r0.snd, (v0.getD v2.toNat ([], (0 : Int), (0 : Int))).snd)).getD v2.toNat               ([], (0 : Int), (0 : Int))).snd.snd)).set   v2.toNat   ((((v0.set v2.toNat (r0.snd, (v0.getD v2.toNat ([], (0 : Int), (0 : Int))).snd)).set v2.toNat             (((v0.set v2.toNat (r0.snd, (v0.getD v2.toNat ([], (0 : Int), (0 : Int))).snd)).getD v2.toNat                   ([], (0 : Int), (0 : Int))).fst,               r0.fst,               ((v0.set v2.toNat (r0.snd, (v0.getD v2.toNat ([], (0 : Int), (0 : Int))).snd)).getD v2.toNat                     ([], (0 : Int), (0 : Int))).snd.snd)).getD         v2.toNat ([], (0 : Int), (0 : Int))).fst,     (((v0.set v2.toNat (r0.snd, (v0.getD v2.toNat ([], (0 : Int), (0 : Int))).snd)).set v2.toNat               (((v0.set v2.toNat (r0.snd, (v0.getD v2.toNat ([], (0 : Int), (0 : Int))).snd)).getD v2.toNat                     ([], (0 : Int), (0 : Int))).fst,                 r0.fst,                 ((v0.set v2.toNat (r0.snd, (v0.getD v2.toNat ([], (0 : Int), (0 : Int))).snd)).getD v2.toNat                       ([], (0 : Int), (0 : Int))).snd.snd)).getD           v2.toNat ([], (0 : Int), (0 : Int))).snd.fst,     IntKind.i64.wrap (r0.fst + (1 : Int)))) (IntKind.i64.wrap (IntKind.i64.wrap (r0.fst + (1 : Int)) + (1 : Int))) (IntKind.i64.wrap (v2 + (1 : Int)))
             else
              none
            else
             none
           else
            none
          else
           none
         else
          none
        else
         none
       else
        none
      else
       none
     else
      none
    else
     none
   else
    none
  else
   none
 else
  ret (v1, v0)
theorem xl0m.k (v0 : List (List Int × Int × Int)) (v1 : Int) : topL E (callT E tab) 12 Try.f12 (xl0m.c v0 v1) = xl0m.t (fun b => some (xl0m.mk b)) xl0m.q2 v0 v1 := by kernel_rfl
theorem xl0m.k2 (v0 : List (List Int × Int × Int)) (v1 : Int) (v2 : Int) : roundL E (callT E tab) 12 Try.f12 2 [.r, .l, .r, .b] (⟨(.val .one), [.d .deep (.sl (.pair (.sl (.int .i64)) (.pair (.int .i64) (.int .i64)))) v0], true, false, false, 0, 0⟩ :: vc (iL v1) :: nn 3 (vc (iL v2) :: nn 29 ([]))) = xl0m.t2 (fun b => some (xl0m.mk b)) xl0m.q2 v0 v1 v2 := by kernel_rfl
theorem xl0m.eq (v0 : List (List Int × Int × Int)) (v1 : Int) {b : Int × (List (List Int × Int × Int))} (h : xl0m.t some xl0m.l2 v0 v1 = some b) : xl0m v0 v1 = some b := tOf_intro xl0m.un (fun _ => by kernel_rfl) (vlim_fn (callT_le E tab) rfl rfl rfl ((xl0m.k v0 v1).trans ((by unfold xl0m.t; repeat' first | exact Sub.ret | exact Sub.none | exact Sub.loop | apply Sub.cond | (apply Sub.bind; intro _) : Sub xl0m.mk _ _) b h)))
theorem xl0m.eq2 (v0 : List (List Int × Int × Int)) (v1 : Int) (v2 : Int) {b : Int × (List (List Int × Int × Int))} (h : xl0m.t2 some xl0m.l2 v0 v1 v2 = some b) : xl0m.l2 v0 v1 v2 = some b := tOf_intro xl0m.un (fun _ => by kernel_rfl) (loopAtL_step ((xl0m.k2 v0 v1 v2).trans ((by unfold xl0m.t2; repeat' first | exact Sub.ret | exact Sub.none | exact Sub.loop | apply Sub.cond | (apply Sub.bind; intro _) : Sub xl0m.mk _ _) b h)))
noncomputable def laws_markIntS_83f.q2 (v0 : List Int) (v1 : Int) (v2 : Int) : Option R := loopAtL E (callT E tab) 18 Try.f18 2 [.r, .l, .r, .b] (⟨(.val .one), [.d .deep (.sl (.int .i64)) v0], true, false, false, 0, 0⟩ :: vc (iL v1) :: nn 3 (vc (iL v2) :: nn 13 ([])))
noncomputable def laws_markIntS_83f.l2 (v0 : List Int) (v1 : Int) (v2 : Int) : Option (Int × (List Int)) := tOf laws_markIntS_83f.mk (laws_markIntS_83f.q2 v0 v1 v2)
noncomputable def laws_markIntS_83f.t {γ : Type} (ret : (Int × (List Int)) → Option γ) (lp2 : (List Int) → Int → Int → Option γ) (v0 : List Int) (v1 : Int) : Option γ :=
 lp2 (v0) (v1) ((0 : Int))
noncomputable def laws_markIntS_83f.t2 {γ : Type} (ret : (Int × (List Int)) → Option γ) (lp2 : (List Int) → Int → Int → Option γ) (v0 : List Int) (v1 : Int) (v2 : Int) : Option γ :=
 bif decide (v2 < (↑v0.length : Int)) then
  bif decide ((0 : Int) ≤ v2) then
   bif decide (v2.toNat < v0.length) then
    bif decide (v2.toNat < v0.length) then
     lp2 (v0.set v2.toNat v1) (IntKind.i64.wrap (v1 + (1 : Int))) (IntKind.i64.wrap (v2 + (1 : Int)))
    else
     none
   else
    none
  else
   none
 else
  ret (v1, v0)
theorem laws_markIntS_83f.k (v0 : List Int) (v1 : Int) : topL E (callT E tab) 18 Try.f18 (laws_markIntS_83f.c v0 v1) = laws_markIntS_83f.t (fun b => some (laws_markIntS_83f.mk b)) laws_markIntS_83f.q2 v0 v1 := by kernel_rfl
theorem laws_markIntS_83f.k2 (v0 : List Int) (v1 : Int) (v2 : Int) : roundL E (callT E tab) 18 Try.f18 2 [.r, .l, .r, .b] (⟨(.val .one), [.d .deep (.sl (.int .i64)) v0], true, false, false, 0, 0⟩ :: vc (iL v1) :: nn 3 (vc (iL v2) :: nn 13 ([]))) = laws_markIntS_83f.t2 (fun b => some (laws_markIntS_83f.mk b)) laws_markIntS_83f.q2 v0 v1 v2 := by kernel_rfl
theorem laws_markIntS_83f.eq (v0 : List Int) (v1 : Int) {b : Int × (List Int)} (h : laws_markIntS_83f.t some laws_markIntS_83f.l2 v0 v1 = some b) : laws_markIntS_83f v0 v1 = some b := tOf_intro laws_markIntS_83f.un (fun _ => by kernel_rfl) (vlim_fn (callT_le E tab) rfl rfl rfl ((laws_markIntS_83f.k v0 v1).trans ((by unfold laws_markIntS_83f.t; repeat' first | exact Sub.ret | exact Sub.none | exact Sub.loop | apply Sub.cond | (apply Sub.bind; intro _) : Sub laws_markIntS_83f.mk _ _) b h)))
theorem laws_markIntS_83f.eq2 (v0 : List Int) (v1 : Int) (v2 : Int) {b : Int × (List Int)} (h : laws_markIntS_83f.t2 some laws_markIntS_83f.l2 v0 v1 v2 = some b) : laws_markIntS_83f.l2 v0 v1 v2 = some b := tOf_intro laws_markIntS_83f.un (fun _ => by kernel_rfl) (loopAtL_step ((laws_markIntS_83f.k2 v0 v1 v2).trans ((by unfold laws_markIntS_83f.t2; repeat' first | exact Sub.ret | exact Sub.none | exact Sub.loop | apply Sub.cond | (apply Sub.bind; intro _) : Sub laws_markIntS_83f.mk _ _) b h)))
noncomputable def laws_heldGroupS.q2 (v0 : List (List Int × Int × Int)) (v1 : Int) (v2 : Int) : Option R := loopAtL E (callT E tab) 13 Try.f13 2 [.r, .l, .r, .b] (vc (.d .fro (.sl (.pair (.sl (.int .i64)) (.pair (.int .i64) (.int .i64)))) v0) :: vc (iL v1) :: nn 3 (vc (iL v2) :: nn 35 ([])))
noncomputable def laws_heldGroupS.l2 (v0 : List (List Int × Int × Int)) (v1 : Int) (v2 : Int) : Option (Int) := tOf laws_heldGroupS.mk (laws_heldGroupS.q2 v0 v1 v2)
noncomputable def laws_heldGroupS.t {γ : Type} (ret : (Int) → Option γ) (lp2 : (List (List Int × Int × Int)) → Int → Int → Option γ) (v0 : List (List Int × Int × Int)) (v1 : Int) : Option γ :=
 lp2 (v0) (v1) ((0 : Int))
noncomputable def laws_heldGroupS.t2 {γ : Type} (ret : (Int) → Option γ) (lp2 : (List (List Int × Int × Int)) → Int → Int → Option γ) (v0 : List (List Int × Int × Int)) (v1 : Int) (v2 : Int) : Option γ :=
 bif decide (v2 < (↑v0.length : Int)) then
  bif decide ((0 : Int) ≤ v2) then
   bif decide (v2.toNat < v0.length) then
    (laws_heldIntS ((v0.getD v2.toNat ([], (0 : Int), (0 : Int))).fst) (v1)).bind fun (r0 : Int) =>
    bif decide (r0 < (0 : Int)) then
     ret ((-1 : Int))
    else
     bif decide ((0 : Int) ≤ v2) then
      bif decide (v2.toNat < v0.length) then
       bif (v0.getD v2.toNat ([], (0 : Int), (0 : Int))).snd.fst != r0 then
        ret ((-1 : Int))
       else
        bif decide ((0 : Int) ≤ v2) then
         bif decide (v2.toNat < v0.length) then
          bif (v0.getD v2.toNat ([], (0 : Int), (0 : Int))).snd.snd != IntKind.i64.wrap (r0 + (1 : Int)) then
           ret ((-1 : Int))
          else
           lp2 (v0) (IntKind.i64.wrap (IntKind.i64.wrap (r0 + (1 : Int)) + (1 : Int))) (IntKind.i64.wrap (v2 + (1 : Int)))
         else
          none
        else
         none
      else
       none
     else
      none
   else
    none
  else
   none
 else
  ret (v1)
theorem laws_heldGroupS.k (v0 : List (List Int × Int × Int)) (v1 : Int) : topL E (callT E tab) 13 Try.f13 (laws_heldGroupS.c v0 v1) = laws_heldGroupS.t (fun b => some (laws_heldGroupS.mk b)) laws_heldGroupS.q2 v0 v1 := by kernel_rfl
theorem laws_heldGroupS.k2 (v0 : List (List Int × Int × Int)) (v1 : Int) (v2 : Int) : roundL E (callT E tab) 13 Try.f13 2 [.r, .l, .r, .b] (vc (.d .fro (.sl (.pair (.sl (.int .i64)) (.pair (.int .i64) (.int .i64)))) v0) :: vc (iL v1) :: nn 3 (vc (iL v2) :: nn 35 ([]))) = laws_heldGroupS.t2 (fun b => some (laws_heldGroupS.mk b)) laws_heldGroupS.q2 v0 v1 v2 := by kernel_rfl
theorem laws_heldGroupS.eq (v0 : List (List Int × Int × Int)) (v1 : Int) {b : Int} (h : laws_heldGroupS.t some laws_heldGroupS.l2 v0 v1 = some b) : laws_heldGroupS v0 v1 = some b := tOf_intro laws_heldGroupS.un (fun _ => by kernel_rfl) (vlim_fn (callT_le E tab) rfl rfl rfl ((laws_heldGroupS.k v0 v1).trans ((by unfold laws_heldGroupS.t; repeat' first | exact Sub.ret | exact Sub.none | exact Sub.loop | apply Sub.cond | (apply Sub.bind; intro _) : Sub laws_heldGroupS.mk _ _) b h)))
theorem laws_heldGroupS.eq2 (v0 : List (List Int × Int × Int)) (v1 : Int) (v2 : Int) {b : Int} (h : laws_heldGroupS.t2 some laws_heldGroupS.l2 v0 v1 v2 = some b) : laws_heldGroupS.l2 v0 v1 v2 = some b := tOf_intro laws_heldGroupS.un (fun _ => by kernel_rfl) (loopAtL_step ((laws_heldGroupS.k2 v0 v1 v2).trans ((by unfold laws_heldGroupS.t2; repeat' first | exact Sub.ret | exact Sub.none | exact Sub.loop | apply Sub.cond | (apply Sub.bind; intro _) : Sub laws_heldGroupS.mk _ _) b h)))
noncomputable def laws_heldIntS.q2 (v0 : List Int) (v1 : Int) (v2 : Int) : Option R := loopAtL E (callT E tab) 42 Try.f42 2 [.r, .l, .r, .b] (vc (.d .fro (.sl (.int .i64)) v0) :: vc (iL v1) :: nn 3 (vc (iL v2) :: nn 15 ([])))
noncomputable def laws_heldIntS.l2 (v0 : List Int) (v1 : Int) (v2 : Int) : Option (Int) := tOf laws_heldIntS.mk (laws_heldIntS.q2 v0 v1 v2)
noncomputable def laws_heldIntS.t {γ : Type} (ret : (Int) → Option γ) (lp2 : (List Int) → Int → Int → Option γ) (v0 : List Int) (v1 : Int) : Option γ :=
 lp2 (v0) (v1) ((0 : Int))
noncomputable def laws_heldIntS.t2 {γ : Type} (ret : (Int) → Option γ) (lp2 : (List Int) → Int → Int → Option γ) (v0 : List Int) (v1 : Int) (v2 : Int) : Option γ :=
 bif decide (v2 < (↑v0.length : Int)) then
  bif decide ((0 : Int) ≤ v2) then
   bif decide (v2.toNat < v0.length) then
    bif v0.getD v2.toNat (0 : Int) != v1 then
     ret ((-1 : Int))
    else
     lp2 (v0) (IntKind.i64.wrap (v1 + (1 : Int))) (IntKind.i64.wrap (v2 + (1 : Int)))
   else
    none
  else
   none
 else
  ret (v1)
theorem laws_heldIntS.k (v0 : List Int) (v1 : Int) : topL E (callT E tab) 42 Try.f42 (laws_heldIntS.c v0 v1) = laws_heldIntS.t (fun b => some (laws_heldIntS.mk b)) laws_heldIntS.q2 v0 v1 := by kernel_rfl
theorem laws_heldIntS.k2 (v0 : List Int) (v1 : Int) (v2 : Int) : roundL E (callT E tab) 42 Try.f42 2 [.r, .l, .r, .b] (vc (.d .fro (.sl (.int .i64)) v0) :: vc (iL v1) :: nn 3 (vc (iL v2) :: nn 15 ([]))) = laws_heldIntS.t2 (fun b => some (laws_heldIntS.mk b)) laws_heldIntS.q2 v0 v1 v2 := by kernel_rfl
theorem laws_heldIntS.eq (v0 : List Int) (v1 : Int) {b : Int} (h : laws_heldIntS.t some laws_heldIntS.l2 v0 v1 = some b) : laws_heldIntS v0 v1 = some b := tOf_intro laws_heldIntS.un (fun _ => by kernel_rfl) (vlim_fn (callT_le E tab) rfl rfl rfl ((laws_heldIntS.k v0 v1).trans ((by unfold laws_heldIntS.t; repeat' first | exact Sub.ret | exact Sub.none | exact Sub.loop | apply Sub.cond | (apply Sub.bind; intro _) : Sub laws_heldIntS.mk _ _) b h)))
theorem laws_heldIntS.eq2 (v0 : List Int) (v1 : Int) (v2 : Int) {b : Int} (h : laws_heldIntS.t2 some laws_heldIntS.l2 v0 v1 v2 = some b) : laws_heldIntS.l2 v0 v1 v2 = some b := tOf_intro laws_heldIntS.un (fun _ => by kernel_rfl) (loopAtL_step ((laws_heldIntS.k2 v0 v1 v2).trans ((by unfold laws_heldIntS.t2; repeat' first | exact Sub.ret | exact Sub.none | exact Sub.loop | apply Sub.cond | (apply Sub.bind; intro _) : Sub laws_heldIntS.mk _ _) b h)))
noncomputable def spec_l1Pick.q3 (v0 : List Int) (v1 : List Int) (v2 : List Int) (v3 : List Int) (v4 : Int) (v5 : Int) : Option R := loopAtL E (callT E tab) 43 Try.f43 2 [.r, .r, .l, .r, .b] (nn 2 (⟨(.box false), [.d .fro (.sl (.int .i64)) v0], false, false, false, 0, 0⟩ :: nn 1 (⟨(.box false), [.d .deep (.sl (.int .i64)) v1], false, false, false, 0, 0⟩ :: ⟨(.box false), [.d .deep (.sl (.int .i64)) v2], false, false, false, 0, 0⟩ :: nn 3 (vc (.d .fro (.sl (.int .i64)) v3) :: vc (iL v4) :: vc (iL v5) :: nn 15 ([])))))
noncomputable def spec_l1Pick.l3 (v0 : List Int) (v1 : List Int) (v2 : List Int) (v3 : List Int) (v4 : Int) (v5 : Int) : Option ((List Int)) := tOf spec_l1Pick.mk (spec_l1Pick.q3 v0 v1 v2 v3 v4 v5)
noncomputable def spec_l1Pick.t {γ : Type} (ret : ((List Int)) → Option γ) (lp3 : (List Int) → (List Int) → (List Int) → (List Int) → Int → Int → Option γ) (v0 : List Int) (v1 : List Int) : Option γ :=
 lp3 (v0) ([]) ([]) (v1) ((↑v1.length : Int)) ((0 : Int))
noncomputable def spec_l1Pick.t3 {γ : Type} (ret : ((List Int)) → Option γ) (lp3 : (List Int) → (List Int) → (List Int) → (List Int) → Int → Int → Option γ) (v0 : List Int) (v1 : List Int) (v2 : List Int) (v3 : List Int) (v4 : Int) (v5 : Int) : Option γ :=
 bif decide (v5 < v4) then
  bif decide ((0 : Int) ≤ v5) then
   bif decide (v5.toNat < v3.length) then
    bif decide ((0 : Int) ≤ v3.getD v5.toNat (0 : Int)) then
     bif decide ((v3.getD v5.toNat (0 : Int)).toNat < v0.length) then
      bif decide (v2.length + [v0.getD (v3.getD v5.toNat (0 : Int)).toNat (0 : Int)].length ≤ (4294967296 : Nat)) then
       lp3 (v0) (v1) (v2 ++ [v0.getD (v3.getD v5.toNat (0 : Int)).toNat (0 : Int)]) (v3) (v4) (IntKind.i64.wrap (v5 + (1 : Int)))
      else
       none
     else
      none
    else
     none
   else
    none
  else
   none
 else
  ret (v2)
theorem spec_l1Pick.k (v0 : List Int) (v1 : List Int) : topL E (callT E tab) 43 Try.f43 (spec_l1Pick.c v0 v1) = spec_l1Pick.t (fun b => some (spec_l1Pick.mk b)) spec_l1Pick.q3 v0 v1 := by kernel_rfl
theorem spec_l1Pick.k3 (v0 : List Int) (v1 : List Int) (v2 : List Int) (v3 : List Int) (v4 : Int) (v5 : Int) : roundL E (callT E tab) 43 Try.f43 2 [.r, .r, .l, .r, .b] (nn 2 (⟨(.box false), [.d .fro (.sl (.int .i64)) v0], false, false, false, 0, 0⟩ :: nn 1 (⟨(.box false), [.d .deep (.sl (.int .i64)) v1], false, false, false, 0, 0⟩ :: ⟨(.box false), [.d .deep (.sl (.int .i64)) v2], false, false, false, 0, 0⟩ :: nn 3 (vc (.d .fro (.sl (.int .i64)) v3) :: vc (iL v4) :: vc (iL v5) :: nn 15 ([]))))) = spec_l1Pick.t3 (fun b => some (spec_l1Pick.mk b)) spec_l1Pick.q3 v0 v1 v2 v3 v4 v5 := by kernel_rfl
theorem spec_l1Pick.eq (v0 : List Int) (v1 : List Int) {b : (List Int)} (h : spec_l1Pick.t some spec_l1Pick.l3 v0 v1 = some b) : spec_l1Pick v0 v1 = some b := tOf_intro spec_l1Pick.un (fun _ => by kernel_rfl) (vlim_fn (callT_le E tab) rfl rfl rfl ((spec_l1Pick.k v0 v1).trans ((by unfold spec_l1Pick.t; repeat' first | exact Sub.ret | exact Sub.none | exact Sub.loop | apply Sub.cond | (apply Sub.bind; intro _) : Sub spec_l1Pick.mk _ _) b h)))
theorem spec_l1Pick.eq3 (v0 : List Int) (v1 : List Int) (v2 : List Int) (v3 : List Int) (v4 : Int) (v5 : Int) {b : (List Int)} (h : spec_l1Pick.t3 some spec_l1Pick.l3 v0 v1 v2 v3 v4 v5 = some b) : spec_l1Pick.l3 v0 v1 v2 v3 v4 v5 = some b := tOf_intro spec_l1Pick.un (fun _ => by kernel_rfl) (loopAtL_step ((spec_l1Pick.k3 v0 v1 v2 v3 v4 v5).trans ((by unfold spec_l1Pick.t3; repeat' first | exact Sub.ret | exact Sub.none | exact Sub.loop | apply Sub.cond | (apply Sub.bind; intro _) : Sub spec_l1Pick.mk _ _) b h)))
noncomputable def impl_areColumns.t {γ : Type} (ret : (Bool) → Option γ) (v0 : List Int) (v1 : Int) : Option γ :=
 bif decide ((↑v0.length : Int) ≤ (6 : Int)) then
  (xi0f (v0) (v1)).bind fun (r0 : Bool) =>
  ret (r0)
 else
  ret (Bool.false)
theorem impl_areColumns.k (v0 : List Int) (v1 : Int) : topL E (callT E tab) 44 Try.f44 (impl_areColumns.c v0 v1) = impl_areColumns.t (fun b => some (impl_areColumns.mk b)) v0 v1 := by kernel_rfl
theorem impl_areColumns.eq (v0 : List Int) (v1 : Int) {b : Bool} (h : impl_areColumns.t some v0 v1 = some b) : impl_areColumns v0 v1 = some b := tOf_intro impl_areColumns.un (fun _ => by kernel_rfl) (vlim_fn (callT_le E tab) rfl rfl rfl ((impl_areColumns.k v0 v1).trans ((by unfold impl_areColumns.t; repeat' first | exact Sub.ret | exact Sub.none | exact Sub.loop | apply Sub.cond | (apply Sub.bind; intro _) : Sub impl_areColumns.mk _ _) b h)))
noncomputable def xi0f.t {γ : Type} (ret : (Bool) → Option γ) (v0 : List Int) (v1 : Int) : Option γ :=
 (xs00 (v0) (v1)).bind fun (r0 : Bool) =>
 ret (!r0)
theorem xi0f.k (v0 : List Int) (v1 : Int) : topL E (callT E tab) 45 Try.f45 (xi0f.c v0 v1) = xi0f.t (fun b => some (xi0f.mk b)) v0 v1 := by kernel_rfl
theorem xi0f.eq (v0 : List Int) (v1 : Int) {b : Bool} (h : xi0f.t some v0 v1 = some b) : xi0f v0 v1 = some b := tOf_intro xi0f.un (fun _ => by kernel_rfl) (vlim_fn (callT_le E tab) rfl rfl rfl ((xi0f.k v0 v1).trans ((by unfold xi0f.t; repeat' first | exact Sub.ret | exact Sub.none | exact Sub.loop | apply Sub.cond | (apply Sub.bind; intro _) : Sub xi0f.mk _ _) b h)))
noncomputable def xs00.t {γ : Type} (ret : (Bool) → Option γ) (v0 : List Int) (v1 : Int) : Option γ :=
 (xs02 (v0) (v1)).bind fun (r0 : Int) =>
 ret (decide (r0 ≥ (0 : Int)))
theorem xs00.k (v0 : List Int) (v1 : Int) : topL E (callT E tab) 83 Try.f83 (xs00.c v0 v1) = xs00.t (fun b => some (xs00.mk b)) v0 v1 := by kernel_rfl
theorem xs00.eq (v0 : List Int) (v1 : Int) {b : Bool} (h : xs00.t some v0 v1 = some b) : xs00 v0 v1 = some b := tOf_intro xs00.un (fun _ => by kernel_rfl) (vlim_fn (callT_le E tab) rfl rfl rfl ((xs00.k v0 v1).trans ((by unfold xs00.t; repeat' first | exact Sub.ret | exact Sub.none | exact Sub.loop | apply Sub.cond | (apply Sub.bind; intro _) : Sub xs00.mk _ _) b h)))
noncomputable def xs02.q2 (v0 : List Int) (v1 : Int) (v2 : Int) (v3 : Int) : Option R := loopAtL E (callT E tab) 108 Try.f108 2 [.r, .l, .r, .b] (vc (.d .fro (.sl (.int .i64)) v0) :: vc (.fn 84 [.rp [.fn 81 [.rp [iL v1] 0]] 0]) :: nn 5 (vc (iL v2) :: vc (iL v3) :: nn 10 ([])))
noncomputable def xs02.l2 (v0 : List Int) (v1 : Int) (v2 : Int) (v3 : Int) : Option (Int) := tOf xs02.mk (xs02.q2 v0 v1 v2 v3)
noncomputable def xs02.t {γ : Type} (ret : (Int) → Option γ) (lp2 : (List Int) → Int → Int → Int → Option γ) (v0 : List Int) (v1 : Int) : Option γ :=
 lp2 (v0) (v1) ((↑v0.length : Int)) ((0 : Int))
noncomputable def xs02.t2 {γ : Type} (ret : (Int) → Option γ) (lp2 : (List Int) → Int → Int → Int → Option γ) (v0 : List Int) (v1 : Int) (v2 : Int) (v3 : Int) : Option γ :=
 bif decide (v3 < v2) then
  bif decide ((0 : Int) ≤ v3) then
   bif decide (v3.toNat < v0.length) then
    (xi0d (v0.getD v3.toNat (0 : Int)) (v1)).bind fun (r0 : Bool) =>
    bif r0 then
     ret (v3)
    else
     lp2 (v0) (v1) (v2) (IntKind.i64.wrap (v3 + (1 : Int)))
   else
    none
  else
   none
 else
  ret ((-1 : Int))
theorem xs02.k (v0 : List Int) (v1 : Int) : topL E (callT E tab) 108 Try.f108 (xs02.c v0 v1) = xs02.t (fun b => some (xs02.mk b)) xs02.q2 v0 v1 := by kernel_rfl
theorem xs02.k2 (v0 : List Int) (v1 : Int) (v2 : Int) (v3 : Int) : roundL E (callT E tab) 108 Try.f108 2 [.r, .l, .r, .b] (vc (.d .fro (.sl (.int .i64)) v0) :: vc (.fn 84 [.rp [.fn 81 [.rp [iL v1] 0]] 0]) :: nn 5 (vc (iL v2) :: vc (iL v3) :: nn 10 ([]))) = xs02.t2 (fun b => some (xs02.mk b)) xs02.q2 v0 v1 v2 v3 := by kernel_rfl
theorem xs02.eq (v0 : List Int) (v1 : Int) {b : Int} (h : xs02.t some xs02.l2 v0 v1 = some b) : xs02 v0 v1 = some b := tOf_intro xs02.un (fun _ => by kernel_rfl) (vlim_fn (callT_le E tab) rfl rfl rfl ((xs02.k v0 v1).trans ((by unfold xs02.t; repeat' first | exact Sub.ret | exact Sub.none | exact Sub.loop | apply Sub.cond | (apply Sub.bind; intro _) : Sub xs02.mk _ _) b h)))
theorem xs02.eq2 (v0 : List Int) (v1 : Int) (v2 : Int) (v3 : Int) {b : Int} (h : xs02.t2 some xs02.l2 v0 v1 v2 v3 = some b) : xs02.l2 v0 v1 v2 v3 = some b := tOf_intro xs02.un (fun _ => by kernel_rfl) (loopAtL_step ((xs02.k2 v0 v1 v2 v3).trans ((by unfold xs02.t2; repeat' first | exact Sub.ret | exact Sub.none | exact Sub.loop | apply Sub.cond | (apply Sub.bind; intro _) : Sub xs02.mk _ _) b h)))
noncomputable def xi0d.t {γ : Type} (ret : (Bool) → Option γ) (v0 : Int) (v1 : Int) : Option γ :=
 (impl_areColumns_1 (v0) (v1)).bind fun (r0 : Bool) =>
 ret (!r0)
theorem xi0d.k (v0 : Int) (v1 : Int) : topL E (callT E tab) 84 Try.f84 (xi0d.c v0 v1) = xi0d.t (fun b => some (xi0d.mk b)) v0 v1 := by kernel_rfl
theorem xi0d.eq (v0 : Int) (v1 : Int) {b : Bool} (h : xi0d.t some v0 v1 = some b) : xi0d v0 v1 = some b := tOf_intro xi0d.un (fun _ => by kernel_rfl) (vlim_fn (callT_le E tab) rfl rfl rfl ((xi0d.k v0 v1).trans ((by unfold xi0d.t; repeat' first | exact Sub.ret | exact Sub.none | exact Sub.loop | apply Sub.cond | (apply Sub.bind; intro _) : Sub xi0d.mk _ _) b h)))
noncomputable def impl_areColumns_1.t {γ : Type} (ret : (Bool) → Option γ) (v0 : Int) (v1 : Int) : Option γ :=
 (impl_isPlace (v0) (v1)).bind fun (r0 : Bool) =>
 ret (r0)
theorem impl_areColumns_1.k (v0 : Int) (v1 : Int) : topL E (callT E tab) 81 Try.f81 (impl_areColumns_1.c v0 v1) = impl_areColumns_1.t (fun b => some (impl_areColumns_1.mk b)) v0 v1 := by kernel_rfl
theorem impl_areColumns_1.eq (v0 : Int) (v1 : Int) {b : Bool} (h : impl_areColumns_1.t some v0 v1 = some b) : impl_areColumns_1 v0 v1 = some b := tOf_intro impl_areColumns_1.un (fun _ => by kernel_rfl) (vlim_fn (callT_le E tab) rfl rfl rfl ((impl_areColumns_1.k v0 v1).trans ((by unfold impl_areColumns_1.t; repeat' first | exact Sub.ret | exact Sub.none | exact Sub.loop | apply Sub.cond | (apply Sub.bind; intro _) : Sub impl_areColumns_1.mk _ _) b h)))
noncomputable def impl_isPlace.t {γ : Type} (ret : (Bool) → Option γ) (v0 : Int) (v1 : Int) : Option γ :=
 bif decide (v0 ≥ (0 : Int)) then
  ret (decide (v0 < v1))
 else
  ret (Bool.false)
theorem impl_isPlace.k (v0 : Int) (v1 : Int) : topL E (callT E tab) 82 Try.f82 (impl_isPlace.c v0 v1) = impl_isPlace.t (fun b => some (impl_isPlace.mk b)) v0 v1 := by kernel_rfl
theorem impl_isPlace.eq (v0 : Int) (v1 : Int) {b : Bool} (h : impl_isPlace.t some v0 v1 = some b) : impl_isPlace v0 v1 = some b := tOf_intro impl_isPlace.un (fun _ => by kernel_rfl) (vlim_fn (callT_le E tab) rfl rfl rfl ((impl_isPlace.k v0 v1).trans ((by unfold impl_isPlace.t; repeat' first | exact Sub.ret | exact Sub.none | exact Sub.loop | apply Sub.cond | (apply Sub.bind; intro _) : Sub impl_isPlace.mk _ _) b h)))
noncomputable def impl_Row_picked.q3 (v0 : List Int) (v1 : List Int) (v2 : List Int) (v3 : List Int) (v4 : Int) (v5 : Int) : Option R := loopAtL E (callT E tab) 47 Try.f47 2 [.r, .r, .l, .r, .b] (nn 2 (⟨(.box false), [.d .fro (.sl (.int .i64)) v0], false, false, false, 0, 0⟩ :: nn 1 (⟨(.box false), [.d .deep (.sl (.int .i64)) v1], false, false, false, 0, 0⟩ :: ⟨(.box false), [.d .deep (.sl (.int .i64)) v2], false, false, false, 0, 0⟩ :: nn 2 (vc (.d .fro (.sl (.int .i64)) v3) :: vc (iL v4) :: vc (iL v5) :: nn 15 ([])))))
noncomputable def impl_Row_picked.l3 (v0 : List Int) (v1 : List Int) (v2 : List Int) (v3 : List Int) (v4 : Int) (v5 : Int) : Option ((List Int)) := tOf impl_Row_picked.mk (impl_Row_picked.q3 v0 v1 v2 v3 v4 v5)
noncomputable def impl_Row_picked.t {γ : Type} (ret : ((List Int)) → Option γ) (lp3 : (List Int) → (List Int) → (List Int) → (List Int) → Int → Int → Option γ) (v0 : List Int) (v1 : List Int) : Option γ :=
 lp3 (v0) ([]) ([]) (v1) ((↑v1.length : Int)) ((0 : Int))
noncomputable def impl_Row_picked.t3 {γ : Type} (ret : ((List Int)) → Option γ) (lp3 : (List Int) → (List Int) → (List Int) → (List Int) → Int → Int → Option γ) (v0 : List Int) (v1 : List Int) (v2 : List Int) (v3 : List Int) (v4 : Int) (v5 : Int) : Option γ :=
 bif decide (v5 < v4) then
  bif decide ((0 : Int) ≤ v5) then
   bif decide (v5.toNat < v3.length) then
    bif decide ((0 : Int) ≤ v3.getD v5.toNat (0 : Int)) then
     bif decide ((v3.getD v5.toNat (0 : Int)).toNat < v0.length) then
      bif decide (v2.length + [v0.getD (v3.getD v5.toNat (0 : Int)).toNat (0 : Int)].length ≤ (4294967296 : Nat)) then
       lp3 (v0) (v1) (v2 ++ [v0.getD (v3.getD v5.toNat (0 : Int)).toNat (0 : Int)]) (v3) (v4) (IntKind.i64.wrap (v5 + (1 : Int)))
      else
       none
     else
      none
    else
     none
   else
    none
  else
   none
 else
  ret (v2)
theorem impl_Row_picked.k (v0 : List Int) (v1 : List Int) : topL E (callT E tab) 47 Try.f47 (impl_Row_picked.c v0 v1) = impl_Row_picked.t (fun b => some (impl_Row_picked.mk b)) impl_Row_picked.q3 v0 v1 := by kernel_rfl
theorem impl_Row_picked.k3 (v0 : List Int) (v1 : List Int) (v2 : List Int) (v3 : List Int) (v4 : Int) (v5 : Int) : roundL E (callT E tab) 47 Try.f47 2 [.r, .r, .l, .r, .b] (nn 2 (⟨(.box false), [.d .fro (.sl (.int .i64)) v0], false, false, false, 0, 0⟩ :: nn 1 (⟨(.box false), [.d .deep (.sl (.int .i64)) v1], false, false, false, 0, 0⟩ :: ⟨(.box false), [.d .deep (.sl (.int .i64)) v2], false, false, false, 0, 0⟩ :: nn 2 (vc (.d .fro (.sl (.int .i64)) v3) :: vc (iL v4) :: vc (iL v5) :: nn 15 ([]))))) = impl_Row_picked.t3 (fun b => some (impl_Row_picked.mk b)) impl_Row_picked.q3 v0 v1 v2 v3 v4 v5 := by kernel_rfl
theorem impl_Row_picked.eq (v0 : List Int) (v1 : List Int) {b : (List Int)} (h : impl_Row_picked.t some impl_Row_picked.l3 v0 v1 = some b) : impl_Row_picked v0 v1 = some b := tOf_intro impl_Row_picked.un (fun _ => by kernel_rfl) (vlim_fn (callT_le E tab) rfl rfl rfl ((impl_Row_picked.k v0 v1).trans ((by unfold impl_Row_picked.t; repeat' first | exact Sub.ret | exact Sub.none | exact Sub.loop | apply Sub.cond | (apply Sub.bind; intro _) : Sub impl_Row_picked.mk _ _) b h)))
theorem impl_Row_picked.eq3 (v0 : List Int) (v1 : List Int) (v2 : List Int) (v3 : List Int) (v4 : Int) (v5 : Int) {b : (List Int)} (h : impl_Row_picked.t3 some impl_Row_picked.l3 v0 v1 v2 v3 v4 v5 = some b) : impl_Row_picked.l3 v0 v1 v2 v3 v4 v5 = some b := tOf_intro impl_Row_picked.un (fun _ => by kernel_rfl) (loopAtL_step ((impl_Row_picked.k3 v0 v1 v2 v3 v4 v5).trans ((by unfold impl_Row_picked.t3; repeat' first | exact Sub.ret | exact Sub.none | exact Sub.loop | apply Sub.cond | (apply Sub.bind; intro _) : Sub impl_Row_picked.mk _ _) b h)))
noncomputable def xl0i.t {γ : Type} (ret : (Bool) → Option γ) (v0 : Int) (v1 : List (List Int × Int)) (v2 : List Int) (v3 : Int) : Option γ :=
 bif decide ((↑v2.length : Int) > (1048576 : Int)) then
  ret (Bool.true)
 else
  (laws_szTable (v0) (v1) ((1048576 : Int))).bind fun (r0 : Int) =>
  bif decide (r0 < (0 : Int)) then
   ret (Bool.true)
  else
   (laws_toTable (v0) (v1)).bind fun (r1 : Int × (List (List Int × Int))) =>
   (laws_toIntS (v2)).bind fun (r2 : (List Int)) =>
   (spec_GroupTable (r1.fst) (r1.snd) (r2) (v3)).bind fun (r3 : (List (List Int × Int × Int)) × Bool) =>
   (laws_toTable (v0) (v1)).bind fun (r4 : Int × (List (List Int × Int))) =>
   (laws_toIntS (v2)).bind fun (r5 : (List Int)) =>
   (impl_GroupTable (r4.fst) (r4.snd) (r5) (v3)).bind fun (r6 : (List (List Int × Int × Int)) × Bool) =>
   (laws_eqGroupS (r6.fst) (r3.fst)).bind fun (r7 : Bool) =>
   bif !r7 then
    ret (Bool.false)
   else
    bif !r6.snd == r3.snd then
     ret (Bool.false)
    else
     (laws_toTable (v0) (v1)).bind fun (r8 : Int × (List (List Int × Int))) =>
     (laws_eqTable (r4.fst) (r4.snd) (r8.fst) (r8.snd)).bind fun (r9 : Bool) =>
     bif !r9 then
      ret (Bool.false)
     else
      (laws_toIntS (v2)).bind fun (r10 : (List Int)) =>
      (laws_eqIntS (r5) (r10)).bind fun (r11 : Bool) =>
      bif !r11 then
       ret (Bool.false)
      else
       (laws_markTable_d7a (r4.fst) (r4.snd) ((1 : Int))).bind fun (r12 : Int × Int × (List (List Int × Int))) =>
       (laws_markIntS_83f (r5) (r12.fst)).bind fun (r13 : Int × (List Int)) =>
       bif decide (r13.fst < (0 : Int)) then
        ret (Bool.false)
       else
        (laws_eqGroupS (r6.fst) (r3.fst)).bind fun (r14 : Bool) =>
        bif !r14 then
         ret (Bool.false)
        else
         bif !r6.snd == r3.snd then
          ret (Bool.false)
         else
          (xl0m (r6.fst) ((1 : Int))).bind fun (r15 : Int × (List (List Int × Int × Int))) =>
          (laws_heldGroupS (r15.snd) ((1 : Int))).bind fun (r16 : Int) =>
          bif decide (r16 < (0 : Int)) then
           ret (Bool.false)
          else
           bif r16 != r15.fst then
            ret (Bool.false)
           else
            (laws_toTable (v0) (v1)).bind fun (r17 : Int × (List (List Int × Int))) =>
            (laws_toIntS (v2)).bind fun (r18 : (List Int)) =>
            (impl_GroupTable (r17.fst) (r17.snd) (r18) (v3)).bind fun (r19 : (List (List Int × Int × Int)) × Bool) =>
            (laws_eqGroupS (r19.fst) (r3.fst)).bind fun (r20 : Bool) =>
            bif !r20 then
             ret (Bool.false)
            else
             bif !r19.snd == r3.snd then
              ret (Bool.false)
             else
              (laws_heldGroupS (r15.snd) ((1 : Int))).bind fun (r21 : Int) =>
              bif decide (r21 < (0 : Int)) then
               ret (Bool.false)
              else
               bif r21 != r15.fst then
                ret (Bool.false)
               else
                ret (Bool.true)
theorem xl0i.k (v0 : Int) (v1 : List (List Int × Int)) (v2 : List Int) (v3 : Int) : topL E (callT E tab) 5 Try.f5 (xl0i.c v0 v1 v2 v3) = xl0i.t (fun b => some (xl0i.mk b)) v0 v1 v2 v3 := by kernel_rfl
theorem xl0i.eq (v0 : Int) (v1 : List (List Int × Int)) (v2 : List Int) (v3 : Int) {b : Bool} (h : xl0i.t some v0 v1 v2 v3 = some b) : xl0i v0 v1 v2 v3 = some b := tOf_intro xl0i.un (fun _ => by kernel_rfl) (vlim_fn (callT_le E tab) rfl rfl rfl ((xl0i.k v0 v1 v2 v3).trans ((by unfold xl0i.t; repeat' first | exact Sub.ret | exact Sub.none | exact Sub.loop | apply Sub.cond | (apply Sub.bind; intro _) : Sub xl0i.mk _ _) b h)))
end GoV
