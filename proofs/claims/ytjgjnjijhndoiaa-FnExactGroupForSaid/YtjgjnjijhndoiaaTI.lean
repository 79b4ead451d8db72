/- A part of the proof of FnExactGroupFor: an interpreter of the model over plain data, its soundness, and what it makes of the functions that the statement reaches. Conditions: none beyond what the given statement itself says. -/
import Derived.Test.YtjgjnjijhndoiaaTH
set_option linter.unusedVariables false
set_option linter.unusedSimpArgs false
set_option linter.unnecessarySimpa false
set_option linter.unusedSectionVars false
/- The functions of the program, each told by what it answers in the end (printed by wip/tools/emit.py). -/
/-! Names of functions here: xs00 = slices_ContainsFunc_int_int_impl_areAll_int_1_impl_isCell, xs01 = slices_IndexFunc_impl_Group_impl_Group_impl_GroupFor_1, xs02 = slices_IndexFunc_int_int_impl_areAll_int_1_impl_isCell, xi03 = impl_areAll_int_1_impl_isCell, xi04 = impl_areAll_int_impl_isCell, xs05 = slices_Compare_int_int, xl06 = laws_FnExactGroupFor, xs07 = slices_Clone_int_int, xl08 = laws_markGroupS_10a -/
namespace GoV
open Go Go.Proofs
set_option maxRecDepth 100000

def xl06.c (v0 : List (List Int × Int × Int)) (v1 : List Int) : List Cell := vc (.d .fro (.sl (.pair (.sl (.int .i64)) (.pair (.int .i64) (.int .i64)))) v0) :: ac [.d .fro (.sl (.int .i64)) v1] :: []
def xl06.mk (b : Bool) : R := (⟨.one, [bL b]⟩, nn 2 ([]))
def xl06.un (r : R) : Bool := ((leafR r 0).dat .bool)
noncomputable def xl06 (v0 : List (List Int × Int × Int)) (v1 : List Int) : Option (Bool) := tOf xl06.mk (vlim E 3 (xl06.c v0 v1))
def laws_szGroupS.c (v0 : List (List Int × Int × Int)) (v1 : Int) : List Cell := vc (.d .fro (.sl (.pair (.sl (.int .i64)) (.pair (.int .i64) (.int .i64)))) v0) :: vc (iL v1) :: []
def laws_szGroupS.mk (b : Int) : R := (⟨.one, [iL b]⟩, nn 2 ([]))
def laws_szGroupS.un (r : R) : Int := ((leafR r 0).dat (.int .i64))
noncomputable def laws_szGroupS (v0 : List (List Int × Int × Int)) (v1 : Int) : Option (Int) := tOf laws_szGroupS.mk (vlim E 8 (laws_szGroupS.c v0 v1))
def laws_szGroup.c (v0 : List Int) (v1 : Int) (v2 : Int) (v3 : Int) : List Cell := ac [.d .fro (.sl (.int .i64)) v0, iL v1, iL v2] :: vc (iL v3) :: []
def laws_szGroup.mk (b : Int) : R := (⟨.one, [iL b]⟩, nn 2 ([]))
def laws_szGroup.un (r : R) : Int := ((leafR r 0).dat (.int .i64))
noncomputable def laws_szGroup (v0 : List Int) (v1 : Int) (v2 : Int) (v3 : Int) : Option (Int) := tOf laws_szGroup.mk (vlim E 43 (laws_szGroup.c v0 v1 v2 v3))
def laws_szRow.c (v0 : List Int) (v1 : Int) : List Cell := ac [.d .fro (.sl (.int .i64)) v0] :: vc (iL v1) :: []
def laws_szRow.mk (b : Int) : R := (⟨.one, [iL b]⟩, nn 2 ([]))
def laws_szRow.un (r : R) : Int := ((leafR r 0).dat (.int .i64))
noncomputable def laws_szRow (v0 : List Int) (v1 : Int) : Option (Int) := tOf laws_szRow.mk (vlim E 9 (laws_szRow.c v0 v1))
def laws_szIntS.c (v0 : List Int) (v1 : Int) : List Cell := vc (.d .fro (.sl (.int .i64)) v0) :: vc (iL v1) :: []
def laws_szIntS.mk (b : Int) : R := (⟨.one, [iL b]⟩, nn 2 ([]))
def laws_szIntS.un (r : R) : Int := ((leafR r 0).dat (.int .i64))
noncomputable def laws_szIntS (v0 : List Int) (v1 : Int) : Option (Int) := tOf laws_szIntS.mk (vlim E 44 (laws_szIntS.c v0 v1))
def laws_toGroupS.c (v0 : List (List Int × Int × Int)) : List Cell := vc (.d .fro (.sl (.pair (.sl (.int .i64)) (.pair (.int .i64) (.int .i64)))) v0) :: []
def laws_toGroupS.mk (b : (List (List Int × Int × Int))) : R := (⟨.one, [.d .deep (.sl (.pair (.sl (.int .i64)) (.pair (.int .i64) (.int .i64)))) b]⟩, nn 1 ([]))
def laws_toGroupS.un (r : R) : (List (List Int × Int × Int)) := ((leafR r 0).dat (.sl (.pair (.sl (.int .i64)) (.pair (.int .i64) (.int .i64)))))
noncomputable def laws_toGroupS (v0 : List (List Int × Int × Int)) : Option ((List (List Int × Int × Int))) := tOf laws_toGroupS.mk (vlim E 11 (laws_toGroupS.c v0))
def laws_toGroup.c (v0 : List Int) (v1 : Int) (v2 : Int) : List Cell := ac [.d .fro (.sl (.int .i64)) v0, iL v1, iL v2] :: []
def laws_toGroup.mk (b : (List Int) × Int × Int) : R := (⟨.agg, [.d .deep (.sl (.int .i64)) b.1, iL b.2.1, iL b.2.2]⟩, nn 1 ([]))
def laws_toGroup.un (r : R) : (List Int) × Int × Int := ((leafR r 0).dat (.sl (.int .i64)), (leafR r 1).dat (.int .i64), (leafR r 2).dat (.int .i64))
noncomputable def laws_toGroup (v0 : List Int) (v1 : Int) (v2 : Int) : Option ((List Int) × Int × Int) := tOf laws_toGroup.mk (vlim E 48 (laws_toGroup.c v0 v1 v2))
def laws_toRow.c (v0 : List Int) : List Cell := ac [.d .fro (.sl (.int .i64)) v0] :: []
def laws_toRow.mk (b : (List Int)) : R := (⟨.agg, [.d .deep (.sl (.int .i64)) b]⟩, nn 1 ([]))
def laws_toRow.un (r : R) : (List Int) := ((leafR r 0).dat (.sl (.int .i64)))
noncomputable def laws_toRow (v0 : List Int) : Option ((List Int)) := tOf laws_toRow.mk (vlim E 12 (laws_toRow.c v0))
def laws_toIntS.c (v0 : List Int) : List Cell := vc (.d .fro (.sl (.int .i64)) v0) :: []
def laws_toIntS.mk (b : (List Int)) : R := (⟨.one, [.d .deep (.sl (.int .i64)) b]⟩, nn 1 ([]))
def laws_toIntS.un (r : R) : (List Int) := ((leafR r 0).dat (.sl (.int .i64)))
noncomputable def laws_toIntS (v0 : List Int) : Option ((List Int)) := tOf laws_toIntS.mk (vlim E 25 (laws_toIntS.c v0))
def spec_GroupFor.c (v0 : List (List Int × Int × Int)) (v1 : List Int) : List Cell := vc (.d .fro (.sl (.pair (.sl (.int .i64)) (.pair (.int .i64) (.int .i64)))) v0) :: ac [.d .fro (.sl (.int .i64)) v1] :: []
def spec_GroupFor.mk (b : (List Int) × Int × Int × Bool) : R := (⟨(.tup [some 3, none]), [.d .deep (.sl (.int .i64)) b.1, iL b.2.1, iL b.2.2.1, bL b.2.2.2]⟩, nn 2 ([]))
def spec_GroupFor.un (r : R) : (List Int) × Int × Int × Bool := ((leafR r 0).dat (.sl (.int .i64)), (leafR r 1).dat (.int .i64), (leafR r 2).dat (.int .i64), (leafR r 3).dat .bool)
noncomputable def spec_GroupFor (v0 : List (List Int × Int × Int)) (v1 : List Int) : Option ((List Int) × Int × Int × Bool) := tOf spec_GroupFor.mk (vlim E 10 (spec_GroupFor.c v0 v1))
def spec_GoodGroups.c (v0 : List (List Int × Int × Int)) : List Cell := vc (.d .fro (.sl (.pair (.sl (.int .i64)) (.pair (.int .i64) (.int .i64)))) v0) :: []
def spec_GoodGroups.mk (b : Bool) : R := (⟨.one, [bL b]⟩, nn 1 ([]))
def spec_GoodGroups.un (r : R) : Bool := ((leafR r 0).dat .bool)
noncomputable def spec_GoodGroups (v0 : List (List Int × Int × Int)) : Option (Bool) := tOf spec_GoodGroups.mk (vlim E 45 (spec_GoodGroups.c v0))
def spec_GoodRow.c (v0 : List Int) : List Cell := ac [.d .fro (.sl (.int .i64)) v0] :: []
def spec_GoodRow.mk (b : Bool) : R := (⟨.one, [bL b]⟩, nn 1 ([]))
def spec_GoodRow.un (r : R) : Bool := ((leafR r 0).dat .bool)
noncomputable def spec_GoodRow (v0 : List Int) : Option (Bool) := tOf spec_GoodRow.mk (vlim E 83 (spec_GoodRow.c v0))
def spec_l1In.c (v0 : Int) (v1 : Int) (v2 : Int) : List Cell := vc (iL v0) :: vc (iL v1) :: vc (iL v2) :: []
def spec_l1In.mk (b : Bool) : R := (⟨.one, [bL b]⟩, nn 3 ([]))
def spec_l1In.un (r : R) : Bool := ((leafR r 0).dat .bool)
noncomputable def spec_l1In (v0 : Int) (v1 : Int) (v2 : Int) : Option (Bool) := tOf spec_l1In.mk (vlim E 99 (spec_l1In.c v0 v1 v2))
def spec_l5Sum.c (v0 : Int) : List Cell := vc (iL v0) :: []
def spec_l5Sum.mk (b : Bool) : R := (⟨.one, [bL b]⟩, nn 1 ([]))
def spec_l5Sum.un (r : R) : Bool := ((leafR r 0).dat .bool)
noncomputable def spec_l5Sum (v0 : Int) : Option (Bool) := tOf spec_l5Sum.mk (vlim E 84 (spec_l5Sum.c v0))
def spec_l1Compare.c (v0 : List Int) (v1 : List Int) : List Cell := ac [.d .fro (.sl (.int .i64)) v0] :: ac [.d .fro (.sl (.int .i64)) v1] :: []
def spec_l1Compare.mk (b : Int) : R := (⟨.one, [iL b]⟩, nn 2 ([]))
def spec_l1Compare.un (r : R) : Int := ((leafR r 0).dat (.int .i64))
noncomputable def spec_l1Compare (v0 : List Int) (v1 : List Int) : Option (Int) := tOf spec_l1Compare.mk (vlim E 46 (spec_l1Compare.c v0 v1))
def spec_l2OwnRow.c (v0 : List Int) : List Cell := ac [.d .fro (.sl (.int .i64)) v0] :: []
def spec_l2OwnRow.mk (b : (List Int)) : R := (⟨.agg, [.d .deep (.sl (.int .i64)) b]⟩, nn 1 ([]))
def spec_l2OwnRow.un (r : R) : (List Int) := ((leafR r 0).dat (.sl (.int .i64)))
noncomputable def spec_l2OwnRow (v0 : List Int) : Option ((List Int)) := tOf spec_l2OwnRow.mk (vlim E 47 (spec_l2OwnRow.c v0))
def impl_GroupFor.c (v0 : List (List Int × Int × Int)) (v1 : List Int) : List Cell := vc (.d .fro (.sl (.pair (.sl (.int .i64)) (.pair (.int .i64) (.int .i64)))) v0) :: ac [.d .fro (.sl (.int .i64)) v1] :: []
def impl_GroupFor.mk (b : (List Int) × Int × Int × Bool) : R := (⟨(.tup [some 3, none]), [.d .deep (.sl (.int .i64)) b.1, iL b.2.1, iL b.2.2.1, bL b.2.2.2]⟩, nn 2 ([]))
def impl_GroupFor.un (r : R) : (List Int) × Int × Int × Bool := ((leafR r 0).dat (.sl (.int .i64)), (leafR r 1).dat (.int .i64), (leafR r 2).dat (.int .i64), (leafR r 3).dat .bool)
noncomputable def impl_GroupFor (v0 : List (List Int × Int × Int)) (v1 : List Int) : Option ((List Int) × Int × Int × Bool) := tOf impl_GroupFor.mk (vlim E 13 (impl_GroupFor.c v0 v1))
def xs01.c (v0 : List (List Int × Int × Int)) (v1 : List Int) : List Cell := vc (.d .fro (.sl (.pair (.sl (.int .i64)) (.pair (.int .i64) (.int .i64)))) v0) :: vc (.fn 50 [.rp [.d .fro (.sl (.int .i64)) v1] 0]) :: []
def xs01.mk (b : Int) : R := (⟨.one, [iL b]⟩, nn 2 ([]))
def xs01.un (r : R) : Int := ((leafR r 0).dat (.int .i64))
noncomputable def xs01 (v0 : List (List Int × Int × Int)) (v1 : List Int) : Option (Int) := tOf xs01.mk (vlim E 49 (xs01.c v0 v1))
def impl_GroupFor_1.c (v0 : List Int) (v1 : Int) (v2 : Int) (v3 : List Int) : List Cell := ac [.d .fro (.sl (.int .i64)) v0, iL v1, iL v2] :: vc (.rp [.d .fro (.sl (.int .i64)) v3] 0) :: []
def impl_GroupFor_1.mk (b : Bool) : R := (⟨.one, [bL b]⟩, nn 2 ([]))
def impl_GroupFor_1.un (r : R) : Bool := ((leafR r 0).dat .bool)
noncomputable def impl_GroupFor_1 (v0 : List Int) (v1 : Int) (v2 : Int) (v3 : List Int) : Option (Bool) := tOf impl_GroupFor_1.mk (vlim E 50 (impl_GroupFor_1.c v0 v1 v2 v3))
def impl_compareRows.c (v0 : List Int) (v1 : List Int) : List Cell := ac [.d .fro (.sl (.int .i64)) v0] :: ac [.d .fro (.sl (.int .i64)) v1] :: []
def impl_compareRows.mk (b : Int) : R := (⟨.one, [iL b]⟩, nn 2 ([]))
def impl_compareRows.un (r : R) : Int := ((leafR r 0).dat (.int .i64))
noncomputable def impl_compareRows (v0 : List Int) (v1 : List Int) : Option (Int) := tOf impl_compareRows.mk (vlim E 51 (impl_compareRows.c v0 v1))
def xs05.c (v0 : List Int) (v1 : List Int) : List Cell := vc (.d .fro (.sl (.int .i64)) v0) :: vc (.d .fro (.sl (.int .i64)) v1) :: []
def xs05.mk (b : Int) : R := (⟨.one, [iL b]⟩, nn 2 ([]))
def xs05.un (r : R) : Int := ((leafR r 0).dat (.int .i64))
noncomputable def xs05 (v0 : List Int) (v1 : List Int) : Option (Int) := tOf xs05.mk (vlim E 85 (xs05.c v0 v1))
def cmp_Compare_int.c (v0 : Int) (v1 : Int) : List Cell := vc (iL v0) :: vc (iL v1) :: []
def cmp_Compare_int.mk (b : Int) : R := (⟨.one, [iL b]⟩, nn 2 ([]))
def cmp_Compare_int.un (r : R) : Int := ((leafR r 0).dat (.int .i64))
noncomputable def cmp_Compare_int (v0 : Int) (v1 : Int) : Option (Int) := tOf cmp_Compare_int.mk (vlim E 113 (cmp_Compare_int.c v0 v1))
def cmp_isNaN_int.c (v0 : Int) : List Cell := vc (iL v0) :: []
def cmp_isNaN_int.mk (b : Bool) : R := (⟨.one, [bL b]⟩, nn 1 ([]))
def cmp_isNaN_int.un (r : R) : Bool := ((leafR r 0).dat .bool)
noncomputable def cmp_isNaN_int (v0 : Int) : Option (Bool) := tOf cmp_isNaN_int.mk (vlim E 124 (cmp_isNaN_int.c v0))
def impl_GoodGroups.c (v0 : List (List Int × Int × Int)) : List Cell := vc (.d .fro (.sl (.pair (.sl (.int .i64)) (.pair (.int .i64) (.int .i64)))) v0) :: []
def impl_GoodGroups.mk (b : Bool) : R := (⟨.one, [bL b]⟩, nn 1 ([]))
def impl_GoodGroups.un (r : R) : Bool := ((leafR r 0).dat .bool)
noncomputable def impl_GoodGroups (v0 : List (List Int × Int × Int)) : Option (Bool) := tOf impl_GoodGroups.mk (vlim E 52 (impl_GoodGroups.c v0))
def impl_keyLength.c (v0 : List (List Int × Int × Int)) : List Cell := vc (.d .fro (.sl (.pair (.sl (.int .i64)) (.pair (.int .i64) (.int .i64)))) v0) :: []
def impl_keyLength.mk (b : Int) : R := (⟨.one, [iL b]⟩, nn 1 ([]))
def impl_keyLength.un (r : R) : Int := ((leafR r 0).dat (.int .i64))
noncomputable def impl_keyLength (v0 : List (List Int × Int × Int)) : Option (Int) := tOf impl_keyLength.mk (vlim E 57 (impl_keyLength.c v0))
def impl_isRowOf.c (v0 : List Int) (v1 : Int) : List Cell := ac [.d .fro (.sl (.int .i64)) v0] :: vc (iL v1) :: []
def impl_isRowOf.mk (b : Bool) : R := (⟨.one, [bL b]⟩, nn 2 ([]))
def impl_isRowOf.un (r : R) : Bool := ((leafR r 0).dat .bool)
noncomputable def impl_isRowOf (v0 : List Int) (v1 : Int) : Option (Bool) := tOf impl_isRowOf.mk (vlim E 86 (impl_isRowOf.c v0 v1))
def impl_GoodRow.c (v0 : List Int) : List Cell := ac [.d .fro (.sl (.int .i64)) v0] :: []
def impl_GoodRow.mk (b : Bool) : R := (⟨.one, [bL b]⟩, nn 1 ([]))
def impl_GoodRow.un (r : R) : Bool := ((leafR r 0).dat .bool)
noncomputable def impl_GoodRow (v0 : List Int) : Option (Bool) := tOf impl_GoodRow.mk (vlim E 114 (impl_GoodRow.c v0))
def xi04.c (v0 : List Int) : List Cell := vc (.d .fro (.sl (.int .i64)) v0) :: vc (.fn 79 []) :: []
def xi04.mk (b : Bool) : R := (⟨.one, [bL b]⟩, nn 2 ([]))
def xi04.un (r : R) : Bool := ((leafR r 0).dat .bool)
noncomputable def xi04 (v0 : List Int) : Option (Bool) := tOf xi04.mk (vlim E 62 (xi04.c v0))
def xs00.c (v0 : List Int) : List Cell := vc (.d .fro (.sl (.int .i64)) v0) :: vc (.fn 96 [.rp [.fn 79 []] 0]) :: []
def xs00.mk (b : Bool) : R := (⟨.one, [bL b]⟩, nn 2 ([]))
def xs00.un (r : R) : Bool := ((leafR r 0).dat .bool)
noncomputable def xs00 (v0 : List Int) : Option (Bool) := tOf xs00.mk (vlim E 95 (xs00.c v0))
def xs02.c (v0 : List Int) : List Cell := vc (.d .fro (.sl (.int .i64)) v0) :: vc (.fn 96 [.rp [.fn 79 []] 0]) :: []
def xs02.mk (b : Int) : R := (⟨.one, [iL b]⟩, nn 2 ([]))
def xs02.un (r : R) : Int := ((leafR r 0).dat (.int .i64))
noncomputable def xs02 (v0 : List Int) : Option (Int) := tOf xs02.mk (vlim E 117 (xs02.c v0))
def xi03.c (v0 : Int) : List Cell := vc (iL v0) :: vc (.rp [.fn 79 []] 0) :: []
def xi03.mk (b : Bool) : R := (⟨.one, [bL b]⟩, nn 2 ([]))
def xi03.un (r : R) : Bool := ((leafR r 0).dat .bool)
noncomputable def xi03 (v0 : Int) : Option (Bool) := tOf xi03.mk (vlim E 96 (xi03.c v0))
def impl_isCell.c (v0 : Int) : List Cell := vc (iL v0) :: []
def impl_isCell.mk (b : Bool) : R := (⟨.one, [bL b]⟩, nn 1 ([]))
def impl_isCell.un (r : R) : Bool := ((leafR r 0).dat .bool)
noncomputable def impl_isCell (v0 : Int) : Option (Bool) := tOf impl_isCell.mk (vlim E 79 (impl_isCell.c v0))
def impl_within.c (v0 : Int) (v1 : Int) (v2 : Int) : List Cell := vc (iL v0) :: vc (iL v1) :: vc (iL v2) :: []
def impl_within.mk (b : Bool) : R := (⟨.one, [bL b]⟩, nn 3 ([]))
def impl_within.un (r : R) : Bool := ((leafR r 0).dat .bool)
noncomputable def impl_within (v0 : Int) (v1 : Int) (v2 : Int) : Option (Bool) := tOf impl_within.mk (vlim E 70 (impl_within.c v0 v1 v2))
def impl_isSum.c (v0 : Int) : List Cell := vc (iL v0) :: []
def impl_isSum.mk (b : Bool) : R := (⟨.one, [bL b]⟩, nn 1 ([]))
def impl_isSum.un (r : R) : Bool := ((leafR r 0).dat .bool)
noncomputable def impl_isSum (v0 : Int) : Option (Bool) := tOf impl_isSum.mk (vlim E 77 (impl_isSum.c v0))
def impl_Row_own.c (v0 : List Int) : List Cell := ac [.d .fro (.sl (.int .i64)) v0] :: []
def impl_Row_own.mk (b : (List Int)) : R := (⟨.agg, [.d .deep (.sl (.int .i64)) b]⟩, nn 1 ([]))
def impl_Row_own.un (r : R) : (List Int) := ((leafR r 0).dat (.sl (.int .i64)))
noncomputable def impl_Row_own (v0 : List Int) : Option ((List Int)) := tOf impl_Row_own.mk (vlim E 53 (impl_Row_own.c v0))
def xs07.c (v0 : List Int) : List Cell := vc (.d .fro (.sl (.int .i64)) v0) :: []
def xs07.mk (b : (List Int)) : R := (⟨.one, [.d .deep (.sl (.int .i64)) b]⟩, nn 1 ([]))
def xs07.un (r : R) : (List Int) := ((leafR r 0).dat (.sl (.int .i64)))
noncomputable def xs07 (v0 : List Int) : Option ((List Int)) := tOf xs07.mk (vlim E 87 (xs07.c v0))
def laws_eqGroup.c (v0 : List Int) (v1 : Int) (v2 : Int) (v3 : List Int) (v4 : Int) (v5 : Int) : List Cell := ac [.d .fro (.sl (.int .i64)) v0, iL v1, iL v2] :: ac [.d .fro (.sl (.int .i64)) v3, iL v4, iL v5] :: []
def laws_eqGroup.mk (b : Bool) : R := (⟨.one, [bL b]⟩, nn 2 ([]))
def laws_eqGroup.un (r : R) : Bool := ((leafR r 0).dat .bool)
noncomputable def laws_eqGroup (v0 : List Int) (v1 : Int) (v2 : Int) (v3 : List Int) (v4 : Int) (v5 : Int) : Option (Bool) := tOf laws_eqGroup.mk (vlim E 14 (laws_eqGroup.c v0 v1 v2 v3 v4 v5))
def laws_eqRow.c (v0 : List Int) (v1 : List Int) : List Cell := ac [.d .fro (.sl (.int .i64)) v0] :: ac [.d .fro (.sl (.int .i64)) v1] :: []
def laws_eqRow.mk (b : Bool) : R := (⟨.one, [bL b]⟩, nn 2 ([]))
def laws_eqRow.un (r : R) : Bool := ((leafR r 0).dat .bool)
noncomputable def laws_eqRow (v0 : List Int) (v1 : List Int) : Option (Bool) := tOf laws_eqRow.mk (vlim E 16 (laws_eqRow.c v0 v1))
def laws_eqIntS.c (v0 : List Int) (v1 : List Int) : List Cell := vc (.d .fro (.sl (.int .i64)) v0) :: vc (.d .fro (.sl (.int .i64)) v1) :: []
def laws_eqIntS.mk (b : Bool) : R := (⟨.one, [bL b]⟩, nn 2 ([]))
def laws_eqIntS.un (r : R) : Bool := ((leafR r 0).dat .bool)
noncomputable def laws_eqIntS (v0 : List Int) (v1 : List Int) : Option (Bool) := tOf laws_eqIntS.mk (vlim E 27 (laws_eqIntS.c v0 v1))
def laws_eqGroupS.c (v0 : List (List Int × Int × Int)) (v1 : List (List Int × Int × Int)) : List Cell := vc (.d .fro (.sl (.pair (.sl (.int .i64)) (.pair (.int .i64) (.int .i64)))) v0) :: vc (.d .fro (.sl (.pair (.sl (.int .i64)) (.pair (.int .i64) (.int .i64)))) v1) :: []
def laws_eqGroupS.mk (b : Bool) : R := (⟨.one, [bL b]⟩, nn 2 ([]))
def laws_eqGroupS.un (r : R) : Bool := ((leafR r 0).dat .bool)
noncomputable def laws_eqGroupS (v0 : List (List Int × Int × Int)) (v1 : List (List Int × Int × Int)) : Option (Bool) := tOf laws_eqGroupS.mk (vlim E 15 (laws_eqGroupS.c v0 v1))
def xl08.c (v0 : List (List Int × Int × Int)) (v1 : Int) : List Cell := ⟨(.val .one), [.d .deep (.sl (.pair (.sl (.int .i64)) (.pair (.int .i64) (.int .i64)))) v0], true, false, false, 0, 0⟩ :: vc (iL v1) :: []
def xl08.mk (b : Int × (List (List Int × Int × Int))) : R := (⟨.one, [iL b.1]⟩, ⟨(.val .one), [.d .deep (.sl (.pair (.sl (.int .i64)) (.pair (.int .i64) (.int .i64)))) b.2], true, false, false, 0, 0⟩ :: nn 1 ([]))
def xl08.un (r : R) : Int × (List (List Int × Int × Int)) := ((leafR r 0).dat (.int .i64), (leafF r 0 0).dat (.sl (.pair (.sl (.int .i64)) (.pair (.int .i64) (.int .i64)))))
noncomputable def xl08 (v0 : List (List Int × Int × Int)) (v1 : Int) : Option (Int × (List (List Int × Int × Int))) := tOf xl08.mk (vlim E 17 (xl08.c v0 v1))
def laws_markIntS_83f.c (v0 : List Int) (v1 : Int) : List Cell := ⟨(.val .one), [.d .deep (.sl (.int .i64)) v0], true, false, false, 0, 0⟩ :: vc (iL v1) :: []
def laws_markIntS_83f.mk (b : Int × (List Int)) : R := (⟨.one, [iL b.1]⟩, ⟨(.val .one), [.d .deep (.sl (.int .i64)) b.2], true, false, false, 0, 0⟩ :: nn 1 ([]))
def laws_markIntS_83f.un (r : R) : Int × (List Int) := ((leafR r 0).dat (.int .i64), (leafF r 0 0).dat (.sl (.int .i64)))
noncomputable def laws_markIntS_83f (v0 : List Int) (v1 : Int) : Option (Int × (List Int)) := tOf laws_markIntS_83f.mk (vlim E 28 (laws_markIntS_83f.c v0 v1))
def laws_markRow_2a2.c (v0 : List Int) (v1 : Int) : List Cell := ⟨(.val .agg), [.d .deep (.sl (.int .i64)) v0], true, false, false, 0, 0⟩ :: vc (iL v1) :: []
def laws_markRow_2a2.mk (b : Int × (List Int)) : R := (⟨.one, [iL b.1]⟩, ⟨(.val .agg), [.d .deep (.sl (.int .i64)) b.2], true, false, false, 0, 0⟩ :: nn 1 ([]))
def laws_markRow_2a2.un (r : R) : Int × (List Int) := ((leafR r 0).dat (.int .i64), (leafF r 0 0).dat (.sl (.int .i64)))
noncomputable def laws_markRow_2a2 (v0 : List Int) (v1 : Int) : Option (Int × (List Int)) := tOf laws_markRow_2a2.mk (vlim E 18 (laws_markRow_2a2.c v0 v1))
def laws_markGroup_e42.c (v0 : List Int) (v1 : Int) (v2 : Int) (v3 : Int) : List Cell := ⟨(.val .agg), [.d .deep (.sl (.int .i64)) v0, iL v1, iL v2], true, false, false, 0, 0⟩ :: vc (iL v3) :: []
def laws_markGroup_e42.mk (b : Int × (List Int) × Int × Int) : R := (⟨.one, [iL b.1]⟩, ⟨(.val .agg), [.d .deep (.sl (.int .i64)) b.2.1, iL b.2.2.1, iL b.2.2.2], true, false, false, 0, 0⟩ :: nn 1 ([]))
def laws_markGroup_e42.un (r : R) : Int × (List Int) × Int × Int := ((leafR r 0).dat (.int .i64), (leafF r 0 0).dat (.sl (.int .i64)), (leafF r 0 1).dat (.int .i64), (leafF r 0 2).dat (.int .i64))
noncomputable def laws_markGroup_e42 (v0 : List Int) (v1 : Int) (v2 : Int) (v3 : Int) : Option (Int × (List Int) × Int × Int) := tOf laws_markGroup_e42.mk (vlim E 19 (laws_markGroup_e42.c v0 v1 v2 v3))
def laws_heldGroup.c (v0 : List Int) (v1 : Int) (v2 : Int) (v3 : Int) : List Cell := ac [.d .fro (.sl (.int .i64)) v0, iL v1, iL v2] :: vc (iL v3) :: []
def laws_heldGroup.mk (b : Int) : R := (⟨.one, [iL b]⟩, nn 2 ([]))
def laws_heldGroup.un (r : R) : Int := ((leafR r 0).dat (.int .i64))
noncomputable def laws_heldGroup (v0 : List Int) (v1 : Int) (v2 : Int) (v3 : Int) : Option (Int) := tOf laws_heldGroup.mk (vlim E 20 (laws_heldGroup.c v0 v1 v2 v3))
def laws_heldRow.c (v0 : List Int) (v1 : Int) : List Cell := ac [.d .fro (.sl (.int .i64)) v0] :: vc (iL v1) :: []
def laws_heldRow.mk (b : Int) : R := (⟨.one, [iL b]⟩, nn 2 ([]))
def laws_heldRow.un (r : R) : Int := ((leafR r 0).dat (.int .i64))
noncomputable def laws_heldRow (v0 : List Int) (v1 : Int) : Option (Int) := tOf laws_heldRow.mk (vlim E 54 (laws_heldRow.c v0 v1))
def laws_heldIntS.c (v0 : List Int) (v1 : Int) : List Cell := vc (.d .fro (.sl (.int .i64)) v0) :: vc (iL v1) :: []
def laws_heldIntS.mk (b : Int) : R := (⟨.one, [iL b]⟩, nn 2 ([]))
def laws_heldIntS.un (r : R) : Int := ((leafR r 0).dat (.int .i64))
noncomputable def laws_heldIntS (v0 : List Int) (v1 : Int) : Option (Int) := tOf laws_heldIntS.mk (vlim E 59 (laws_heldIntS.c v0 v1))
def tabT : List (Nat × List (List Cell × Tb)) := [
 (3, [(xl06.c [] [], ⟨Bool, xl06.mk⟩)]),
 (8, [(laws_szGroupS.c [] 0, ⟨Int, laws_szGroupS.mk⟩)]),
 (9, [(laws_szRow.c [] 0, ⟨Int, laws_szRow.mk⟩)]),
 (10, [(spec_GroupFor.c [] [], ⟨(List Int) × Int × Int × Bool, spec_GroupFor.mk⟩)]),
 (11, [(laws_toGroupS.c [], ⟨(List (List Int × Int × Int)), laws_toGroupS.mk⟩)]),
 (12, [(laws_toRow.c [], ⟨(List Int), laws_toRow.mk⟩)]),
 (13, [(impl_GroupFor.c [] [], ⟨(List Int) × Int × Int × Bool, impl_GroupFor.mk⟩)]),
 (14, [(laws_eqGroup.c [] 0 0 [] 0 0, ⟨Bool, laws_eqGroup.mk⟩)]),
 (15, [(laws_eqGroupS.c [] [], ⟨Bool, laws_eqGroupS.mk⟩)]),
 (16, [(laws_eqRow.c [] [], ⟨Bool, laws_eqRow.mk⟩)]),
 (17, [(xl08.c [] 0, ⟨Int × (List (List Int × Int × Int)), xl08.mk⟩)]),
 (18, [(laws_markRow_2a2.c [] 0, ⟨Int × (List Int), laws_markRow_2a2.mk⟩)]),
 (19, [(laws_markGroup_e42.c [] 0 0 0, ⟨Int × (List Int) × Int × Int, laws_markGroup_e42.mk⟩)]),
 (20, [(laws_heldGroup.c [] 0 0 0, ⟨Int, laws_heldGroup.mk⟩)]),
 (25, [(laws_toIntS.c [], ⟨(List Int), laws_toIntS.mk⟩)]),
 (27, [(laws_eqIntS.c [] [], ⟨Bool, laws_eqIntS.mk⟩)]),
 (28, [(laws_markIntS_83f.c [] 0, ⟨Int × (List Int), laws_markIntS_83f.mk⟩)]),
 (43, [(laws_szGroup.c [] 0 0 0, ⟨Int, laws_szGroup.mk⟩)]),
 (44, [(laws_szIntS.c [] 0, ⟨Int, laws_szIntS.mk⟩)]),
 (45, [(spec_GoodGroups.c [], ⟨Bool, spec_GoodGroups.mk⟩)]),
 (46, [(spec_l1Compare.c [] [], ⟨Int, spec_l1Compare.mk⟩)]),
 (47, [(spec_l2OwnRow.c [], ⟨(List Int), spec_l2OwnRow.mk⟩)]),
 (48, [(laws_toGroup.c [] 0 0, ⟨(List Int) × Int × Int, laws_toGroup.mk⟩)]),
 (49, [(xs01.c [] [], ⟨Int, xs01.mk⟩)]),
 (50, [(impl_GroupFor_1.c [] 0 0 [], ⟨Bool, impl_GroupFor_1.mk⟩)]),
 (51, [(impl_compareRows.c [] [], ⟨Int, impl_compareRows.mk⟩)]),
 (52, [(impl_GoodGroups.c [], ⟨Bool, impl_GoodGroups.mk⟩)]),
 (53, [(impl_Row_own.c [], ⟨(List Int), impl_Row_own.mk⟩)]),
 (54, [(laws_heldRow.c [] 0, ⟨Int, laws_heldRow.mk⟩)]),
 (57, [(impl_keyLength.c [], ⟨Int, impl_keyLength.mk⟩)]),
 (59, [(laws_heldIntS.c [] 0, ⟨Int, laws_heldIntS.mk⟩)]),
 (62, [(xi04.c [], ⟨Bool, xi04.mk⟩)]),
 (70, [(impl_within.c 0 0 0, ⟨Bool, impl_within.mk⟩)]),
 (77, [(impl_isSum.c 0, ⟨Bool, impl_isSum.mk⟩)]),
 (79, [(impl_isCell.c 0, ⟨Bool, impl_isCell.mk⟩)]),
 (83, [(spec_GoodRow.c [], ⟨Bool, spec_GoodRow.mk⟩)]),
 (84, [(spec_l5Sum.c 0, ⟨Bool, spec_l5Sum.mk⟩)]),
 (85, [(xs05.c [] [], ⟨Int, xs05.mk⟩)]),
 (86, [(impl_isRowOf.c [] 0, ⟨Bool, impl_isRowOf.mk⟩)]),
 (87, [(xs07.c [], ⟨(List Int), xs07.mk⟩)]),
 (95, [(xs00.c [], ⟨Bool, xs00.mk⟩)]),
 (96, [(xi03.c 0, ⟨Bool, xi03.mk⟩)]),
 (99, [(spec_l1In.c 0 0 0, ⟨Bool, spec_l1In.mk⟩)]),
 (113, [(cmp_Compare_int.c 0 0, ⟨Int, cmp_Compare_int.mk⟩)]),
 (114, [(impl_GoodRow.c [], ⟨Bool, impl_GoodRow.mk⟩)]),
 (117, [(xs02.c [], ⟨Int, xs02.mk⟩)]),
 (124, [(cmp_isNaN_int.c 0, ⟨Bool, cmp_isNaN_int.mk⟩)])]
def tab : FuncId → List Cell → Tb := fun g cs => match assoc tabT g with | some l => pickT l cs | none => ⟨Unit, fun _ => (⟨.one, []⟩, [])⟩
end GoV

/- Equations of the program's functions (printed by wip/tools/emit.py). -/
namespace GoV
open Go Go.Proofs
set_option maxRecDepth 100000

noncomputable def xl06.t {γ : Type} (ret : (Bool) → Option γ) (v0 : List (List Int × Int × Int)) (v1 : List Int) : Option γ :=
 (laws_szGroupS (v0) ((1048576 : Int))).bind fun (r0 : Int) =>
 bif decide (r0 < (0 : Int)) then
  ret (Bool.true)
 else
  (laws_szRow (v1) (r0)).bind fun (r1 : Int) =>
  bif decide (r1 < (0 : Int)) then
   ret (Bool.true)
  else
   (laws_toGroupS (v0)).bind fun (r2 : (List (List Int × Int × Int))) =>
   (laws_toRow (v1)).bind fun (r3 : (List Int)) =>
   (spec_GroupFor (r2) (r3)).bind fun (r4 : (List Int) × Int × Int × Bool) =>
   (laws_toGroupS (v0)).bind fun (r5 : (List (List Int × Int × Int))) =>
   (laws_toRow (v1)).bind fun (r6 : (List Int)) =>
   (impl_GroupFor (r5) (r6)).bind fun (r7 : (List Int) × Int × Int × Bool) =>
   (laws_eqGroup (r7.fst) (r7.snd.fst) (r7.snd.snd.fst) (r4.fst) (r4.snd.fst) (r4.snd.snd.fst)).bind fun (r8 : Bool) =>
   bif !r8 then
    ret (Bool.false)
   else
    bif !r7.snd.snd.snd == r4.snd.snd.snd then
     ret (Bool.false)
    else
     (laws_toGroupS (v0)).bind fun (r9 : (List (List Int × Int × Int))) =>
     (laws_eqGroupS (r5) (r9)).bind fun (r10 : Bool) =>
     bif !r10 then
      ret (Bool.false)
     else
      (laws_toRow (v1)).bind fun (r11 : (List Int)) =>
      (laws_eqRow (r6) (r11)).bind fun (r12 : Bool) =>
      bif !r12 then
       ret (Bool.false)
      else
       (xl08 (r5) ((1 : Int))).bind fun (r13 : Int × (List (List Int × Int × Int))) =>
       (laws_markRow_2a2 (r6) (r13.fst)).bind fun (r14 : Int × (List Int)) =>
       bif decide (r14.fst < (0 : Int)) then
        ret (Bool.false)
       else
        (laws_eqGroup (r7.fst) (r7.snd.fst) (r7.snd.snd.fst) (r4.fst) (r4.snd.fst) (r4.snd.snd.fst)).bind fun (r15 : Bool) =>
        bif !r15 then
         ret (Bool.false)
        else
         bif !r7.snd.snd.snd == r4.snd.snd.snd then
          ret (Bool.false)
         else
          (laws_markGroup_e42 (r7.fst) (r7.snd.fst) (r7.snd.snd.fst) ((1 : Int))).bind fun (r16 : Int × (List Int) × Int × Int) =>
          (laws_heldGroup (r16.snd.fst) (r7.snd.fst) (r7.snd.snd.fst) ((1 : Int))).bind fun (r17 : Int) =>
          bif decide (r17 < (0 : Int)) then
           ret (Bool.false)
          else
           bif r17 != r16.fst then
            ret (Bool.false)
           else
            (laws_toGroupS (v0)).bind fun (r18 : (List (List Int × Int × Int))) =>
            (laws_toRow (v1)).bind fun (r19 : (List Int)) =>
            (impl_GroupFor (r18) (r19)).bind fun (r20 : (List Int) × Int × Int × Bool) =>
            (laws_eqGroup (r20.fst) (r20.snd.fst) (r20.snd.snd.fst) (r4.fst) (r4.snd.fst) (r4.snd.snd.fst)).bind fun (r21 : Bool) =>
            bif !r21 then
             ret (Bool.false)
            else
             bif !r20.snd.snd.snd == r4.snd.snd.snd then
              ret (Bool.false)
             else
              (laws_heldGroup (r16.snd.fst) (r7.snd.fst) (r7.snd.snd.fst) ((1 : Int))).bind fun (r22 : Int) =>
              bif decide (r22 < (0 : Int)) then
               ret (Bool.false)
              else
               bif r22 != r16.fst then
                ret (Bool.false)
               else
                ret (Bool.true)
theorem xl06.k (v0 : List (List Int × Int × Int)) (v1 : List Int) : topL E (callT E tab) 3 Try.f3 (xl06.c v0 v1) = xl06.t (fun b => some (xl06.mk b)) v0 v1 := by kernel_rfl
theorem xl06.eq (v0 : List (List Int × Int × Int)) (v1 : List Int) {b : Bool} (h : xl06.t some v0 v1 = some b) : xl06 v0 v1 = some b := tOf_intro xl06.un (fun _ => by kernel_rfl) (vlim_fn (callT_le E tab) rfl rfl rfl ((xl06.k v0 v1).trans ((by unfold xl06.t; repeat' first | exact Sub.ret | exact Sub.none | exact Sub.loop | apply Sub.cond | (apply Sub.bind; intro _) : Sub xl06.mk _ _) b h)))
noncomputable def laws_szGroupS.q5 (v0 : List (List Int × Int × Int)) (v1 : Int) (v2 : Int) : Option R := loopAtL E (callT E tab) 8 Try.f8 2 [.r, .r, .r, .l, .r, .b] (vc (.d .fro (.sl (.pair (.sl (.int .i64)) (.pair (.int .i64) (.int .i64)))) v0) :: vc (iL v1) :: nn 3 (vc (iL v2) :: nn 21 ([])))
noncomputable def laws_szGroupS.l5 (v0 : List (List Int × Int × Int)) (v1 : Int) (v2 : Int) : Option (Int) := tOf laws_szGroupS.mk (laws_szGroupS.q5 v0 v1 v2)
noncomputable def laws_szGroupS.t {γ : Type} (ret : (Int) → Option γ) (lp5 : (List (List Int × Int × Int)) → Int → Int → Option γ) (v0 : List (List Int × Int × Int)) (v1 : Int) : Option γ :=
 bif decide (IntKind.i64.wrap (v1 - (↑v0.length : Int)) < (0 : Int)) then
  ret ((-1 : Int))
 else
  lp5 (v0) (IntKind.i64.wrap (v1 - (↑v0.length : Int))) ((0 : Int))
noncomputable def laws_szGroupS.t5 {γ : Type} (ret : (Int) → Option γ) (lp5 : (List (List Int × Int × Int)) → Int → Int → Option γ) (v0 : List (List Int × Int × Int)) (v1 : Int) (v2 : Int) : Option γ :=
 bif decide (v2 < (↑v0.length : Int)) then
  bif decide ((0 : Int) ≤ v2) then
   bif decide (v2.toNat < v0.length) then
    (laws_szGroup ((v0.getD v2.toNat ([], (0 : Int), (0 : Int))).fst) ((v0.getD v2.toNat ([], (0 : Int), (0 : Int))).snd.fst) ((v0.getD v2.toNat ([], (0 : Int), (0 : Int))).snd.snd) (v1)).bind fun (r0 : Int) =>
    bif decide (r0 < (0 : Int)) then
     ret ((-1 : Int))
    else
     lp5 (v0) (r0) (IntKind.i64.wrap (v2 + (1 : Int)))
   else
    none
  else
   none
 else
  ret (v1)
theorem laws_szGroupS.k (v0 : List (List Int × Int × Int)) (v1 : Int) : topL E (callT E tab) 8 Try.f8 (laws_szGroupS.c v0 v1) = laws_szGroupS.t (fun b => some (laws_szGroupS.mk b)) laws_szGroupS.q5 v0 v1 := by kernel_rfl
theorem laws_szGroupS.k5 (v0 : List (List Int × Int × Int)) (v1 : Int) (v2 : Int) : roundL E (callT E tab) 8 Try.f8 2 [.r, .r, .r, .l, .r, .b] (vc (.d .fro (.sl (.pair (.sl (.int .i64)) (.pair (.int .i64) (.int .i64)))) v0) :: vc (iL v1) :: nn 3 (vc (iL v2) :: nn 21 ([]))) = laws_szGroupS.t5 (fun b => some (laws_szGroupS.mk b)) laws_szGroupS.q5 v0 v1 v2 := by kernel_rfl
theorem laws_szGroupS.eq (v0 : List (List Int × Int × Int)) (v1 : Int) {b : Int} (h : laws_szGroupS.t some laws_szGroupS.l5 v0 v1 = some b) : laws_szGroupS v0 v1 = some b := tOf_intro laws_szGroupS.un (fun _ => by kernel_rfl) (vlim_fn (callT_le E tab) rfl rfl rfl ((laws_szGroupS.k v0 v1).trans ((by unfold laws_szGroupS.t; repeat' first | exact Sub.ret | exact Sub.none | exact Sub.loop | apply Sub.cond | (apply Sub.bind; intro _) : Sub laws_szGroupS.mk _ _) b h)))
theorem laws_szGroupS.eq5 (v0 : List (List Int × Int × Int)) (v1 : Int) (v2 : Int) {b : Int} (h : laws_szGroupS.t5 some laws_szGroupS.l5 v0 v1 v2 = some b) : laws_szGroupS.l5 v0 v1 v2 = some b := tOf_intro laws_szGroupS.un (fun _ => by kernel_rfl) (loopAtL_step ((laws_szGroupS.k5 v0 v1 v2).trans ((by unfold laws_szGroupS.t5; repeat' first | exact Sub.ret | exact Sub.none | exact Sub.loop | apply Sub.cond | (apply Sub.bind; intro _) : Sub laws_szGroupS.mk _ _) b h)))
noncomputable def laws_szGroup.t {γ : Type} (ret : (Int) → Option γ) (v0 : List Int) (v1 : Int) (v2 : Int) (v3 : Int) : Option γ :=
 (laws_szRow (v0) (v3)).bind fun (r0 : Int) =>
 bif decide (r0 < (0 : Int)) then
  ret ((-1 : Int))
 else
  ret (r0)
theorem laws_szGroup.k (v0 : List Int) (v1 : Int) (v2 : Int) (v3 : Int) : topL E (callT E tab) 43 Try.f43 (laws_szGroup.c v0 v1 v2 v3) = laws_szGroup.t (fun b => some (laws_szGroup.mk b)) v0 v1 v2 v3 := by kernel_rfl
theorem laws_szGroup.eq (v0 : List Int) (v1 : Int) (v2 : Int) (v3 : Int) {b : Int} (h : laws_szGroup.t some v0 v1 v2 v3 = some b) : laws_szGroup v0 v1 v2 v3 = some b := tOf_intro laws_szGroup.un (fun _ => by kernel_rfl) (vlim_fn (callT_le E tab) rfl rfl rfl ((laws_szGroup.k v0 v1 v2 v3).trans ((by unfold laws_szGroup.t; repeat' first | exact Sub.ret | exact Sub.none | exact Sub.loop | apply Sub.cond | (apply Sub.bind; intro _) : Sub laws_szGroup.mk _ _) b h)))
noncomputable def laws_szRow.t {γ : Type} (ret : (Int) → Option γ) (v0 : List Int) (v1 : Int) : Option γ :=
 (laws_szIntS (v0) (v1)).bind fun (r0 : Int) =>
 bif decide (r0 < (0 : Int)) then
  ret ((-1 : Int))
 else
  ret (r0)
theorem laws_szRow.k (v0 : List Int) (v1 : Int) : topL E (callT E tab) 9 Try.f9 (laws_szRow.c v0 v1) = laws_szRow.t (fun b => some (laws_szRow.mk b)) v0 v1 := by kernel_rfl
theorem laws_szRow.eq (v0 : List Int) (v1 : Int) {b : Int} (h : laws_szRow.t some v0 v1 = some b) : laws_szRow v0 v1 = some b := tOf_intro laws_szRow.un (fun _ => by kernel_rfl) (vlim_fn (callT_le E tab) rfl rfl rfl ((laws_szRow.k v0 v1).trans ((by unfold laws_szRow.t; repeat' first | exact Sub.ret | exact Sub.none | exact Sub.loop | apply Sub.cond | (apply Sub.bind; intro _) : Sub laws_szRow.mk _ _) b h)))
noncomputable def laws_szIntS.t {γ : Type} (ret : (Int) → Option γ) (v0 : List Int) (v1 : Int) : Option γ :=
 bif decide (IntKind.i64.wrap (v1 - (↑v0.length : Int)) < (0 : Int)) then
  ret ((-1 : Int))
 else
  ret (IntKind.i64.wrap (v1 - (↑v0.length : Int)))
theorem laws_szIntS.k (v0 : List Int) (v1 : Int) : topL E (callT E tab) 44 Try.f44 (laws_szIntS.c v0 v1) = laws_szIntS.t (fun b => some (laws_szIntS.mk b)) v0 v1 := by kernel_rfl
theorem laws_szIntS.eq (v0 : List Int) (v1 : Int) {b : Int} (h : laws_szIntS.t some v0 v1 = some b) : laws_szIntS v0 v1 = some b := tOf_intro laws_szIntS.un (fun _ => by kernel_rfl) (vlim_fn (callT_le E tab) rfl rfl rfl ((laws_szIntS.k v0 v1).trans ((by unfold laws_szIntS.t; repeat' first | exact Sub.ret | exact Sub.none | exact Sub.loop | apply Sub.cond | (apply Sub.bind; intro _) : Sub laws_szIntS.mk _ _) b h)))
noncomputable def laws_toGroupS.q3 (v0 : List (List Int × Int × Int)) (v1 : List (List Int × Int × Int)) (v2 : Int) : Option R := loopAtL E (callT E tab) 11 Try.f11 1 [.r, .r, .l, .r, .b] (vc (.d .fro (.sl (.pair (.sl (.int .i64)) (.pair (.int .i64) (.int .i64)))) v0) :: nn 2 (vc (.d .deep (.sl (.pair (.sl (.int .i64)) (.pair (.int .i64) (.int .i64)))) v1) :: vc (iL v2) :: nn 18 ([])))
noncomputable def laws_toGroupS.l3 (v0 : List (List Int × Int × Int)) (v1 : List (List Int × Int × Int)) (v2 : Int) : Option ((List (List Int × Int × Int))) := tOf laws_toGroupS.mk (laws_toGroupS.q3 v0 v1 v2)
noncomputable def laws_toGroupS.t {γ : Type} (ret : ((List (List Int × Int × Int))) → Option γ) (lp3 : (List (List Int × Int × Int)) → (List (List Int × Int × Int)) → Int → Option γ) (v0 : List (List Int × Int × Int)) : Option γ :=
 bif decide ((↑v0.length : Int) = (↑v0.length : Int)) then
  bif decide ((↑v0.length : Int) ≤ (↑(4294967296 : Nat) : Int)) then
   lp3 (v0) (List.replicate (↑v0.length : Int).toNat ([], (0 : Int), (0 : Int))) ((0 : Int))
  else
   none
 else
  none
noncomputable def laws_toGroupS.t3 {γ : Type} (ret : ((List (List Int × Int × Int))) → Option γ) (lp3 : (List (List Int × Int × Int)) → (List (List Int × Int × Int)) → Int → Option γ) (v0 : List (List Int × Int × Int)) (v1 : List (List Int × Int × Int)) (v2 : Int) : Option γ :=
 bif decide (v2 < (↑v0.length : Int)) then
  bif decide ((0 : Int) ≤ v2) then
   bif decide (v2.toNat < v0.length) then
    (laws_toGroup ((v0.getD v2.toNat ([], (0 : Int), (0 : Int))).fst) ((v0.getD v2.toNat ([], (0 : Int), (0 : Int))).snd.fst) ((v0.getD v2.toNat ([], (0 : Int), (0 : Int))).snd.snd)).bind fun (r0 : (List Int) × Int × Int) =>
    bif decide ((0 : Int) ≤ v2) then
     bif decide (v2.toNat < v1.length) then
      bif decide (v2.toNat < v1.length) then
       lp3 (v0) (v1.set v2.toNat (r0.fst, r0.snd.fst, r0.snd.snd)) (IntKind.i64.wrap (v2 + (1 : Int)))
      else
       none
     else
      none
    else
     none
   else
    none
  else
   none
 else
  ret (v1)
theorem laws_toGroupS.k (v0 : List (List Int × Int × Int)) : topL E (callT E tab) 11 Try.f11 (laws_toGroupS.c v0) = laws_toGroupS.t (fun b => some (laws_toGroupS.mk b)) laws_toGroupS.q3 v0 := by kernel_rfl
theorem laws_toGroupS.k3 (v0 : List (List Int × Int × Int)) (v1 : List (List Int × Int × Int)) (v2 : Int) : roundL E (callT E tab) 11 Try.f11 1 [.r, .r, .l, .r, .b] (vc (.d .fro (.sl (.pair (.sl (.int .i64)) (.pair (.int .i64) (.int .i64)))) v0) :: nn 2 (vc (.d .deep (.sl (.pair (.sl (.int .i64)) (.pair (.int .i64) (.int .i64)))) v1) :: vc (iL v2) :: nn 18 ([]))) = laws_toGroupS.t3 (fun b => some (laws_toGroupS.mk b)) laws_toGroupS.q3 v0 v1 v2 := by kernel_rfl
theorem laws_toGroupS.eq (v0 : List (List Int × Int × Int)) {b : (List (List Int × Int × Int))} (h : laws_toGroupS.t some laws_toGroupS.l3 v0 = some b) : laws_toGroupS v0 = some b := tOf_intro laws_toGroupS.un (fun _ => by kernel_rfl) (vlim_fn (callT_le E tab) rfl rfl rfl ((laws_toGroupS.k v0).trans ((by unfold laws_toGroupS.t; repeat' first | exact Sub.ret | exact Sub.none | exact Sub.loop | apply Sub.cond | (apply Sub.bind; intro _) : Sub laws_toGroupS.mk _ _) b h)))
theorem laws_toGroupS.eq3 (v0 : List (List Int × Int × Int)) (v1 : List (List Int × Int × Int)) (v2 : Int) {b : (List (List Int × Int × Int))} (h : laws_toGroupS.t3 some laws_toGroupS.l3 v0 v1 v2 = some b) : laws_toGroupS.l3 v0 v1 v2 = some b := tOf_intro laws_toGroupS.un (fun _ => by kernel_rfl) (loopAtL_step ((laws_toGroupS.k3 v0 v1 v2).trans ((by unfold laws_toGroupS.t3; repeat' first | exact Sub.ret | exact Sub.none | exact Sub.loop | apply Sub.cond | (apply Sub.bind; intro _) : Sub laws_toGroupS.mk _ _) b h)))
noncomputable def laws_toGroup.t {γ : Type} (ret : ((List Int) × Int × Int) → Option γ) (v0 : List Int) (v1 : Int) (v2 : Int) : Option γ :=
 (laws_toRow (v0)).bind fun (r0 : (List Int)) =>
 ret (r0, v1, v2)
theorem laws_toGroup.k (v0 : List Int) (v1 : Int) (v2 : Int) : topL E (callT E tab) 48 Try.f48 (laws_toGroup.c v0 v1 v2) = laws_toGroup.t (fun b => some (laws_toGroup.mk b)) v0 v1 v2 := by kernel_rfl
theorem laws_toGroup.eq (v0 : List Int) (v1 : Int) (v2 : Int) {b : (List Int) × Int × Int} (h : laws_toGroup.t some v0 v1 v2 = some b) : laws_toGroup v0 v1 v2 = some b := tOf_intro laws_toGroup.un (fun _ => by kernel_rfl) (vlim_fn (callT_le E tab) rfl rfl rfl ((laws_toGroup.k v0 v1 v2).trans ((by unfold laws_toGroup.t; repeat' first | exact Sub.ret | exact Sub.none | exact Sub.loop | apply Sub.cond | (apply Sub.bind; intro _) : Sub laws_toGroup.mk _ _) b h)))
noncomputable def laws_toRow.t {γ : Type} (ret : ((List Int)) → Option γ) (v0 : List Int) : Option γ :=
 (laws_toIntS (v0)).bind fun (r0 : (List Int)) =>
 ret (r0)
theorem laws_toRow.k (v0 : List Int) : topL E (callT E tab) 12 Try.f12 (laws_toRow.c v0) = laws_toRow.t (fun b => some (laws_toRow.mk b)) v0 := by kernel_rfl
theorem laws_toRow.eq (v0 : List Int) {b : (List Int)} (h : laws_toRow.t some v0 = some b) : laws_toRow v0 = some b := tOf_intro laws_toRow.un (fun _ => by kernel_rfl) (vlim_fn (callT_le E tab) rfl rfl rfl ((laws_toRow.k v0).trans ((by unfold laws_toRow.t; repeat' first | exact Sub.ret | exact Sub.none | exact Sub.loop | apply Sub.cond | (apply Sub.bind; intro _) : Sub laws_toRow.mk _ _) b h)))
noncomputable def laws_toIntS.q3 (v0 : List Int) (v1 : List Int) (v2 : Int) : Option R := loopAtL E (callT E tab) 25 Try.f25 1 [.r, .r, .l, .r, .b] (vc (.d .fro (.sl (.int .i64)) v0) :: nn 2 (vc (.d .deep (.sl (.int .i64)) v1) :: vc (iL v2) :: nn 17 ([])))
noncomputable def laws_toIntS.l3 (v0 : List Int) (v1 : List Int) (v2 : Int) : Option ((List Int)) := tOf laws_toIntS.mk (laws_toIntS.q3 v0 v1 v2)
noncomputable def laws_toIntS.t {γ : Type} (ret : ((List Int)) → Option γ) (lp3 : (List Int) → (List Int) → Int → Option γ) (v0 : List Int) : Option γ :=
 bif decide ((↑v0.length : Int) = (↑v0.length : Int)) then
  bif decide ((↑v0.length : Int) ≤ (↑(4294967296 : Nat) : Int)) then
   lp3 (v0) (List.replicate (↑v0.length : Int).toNat (0 : Int)) ((0 : Int))
  else
   none
 else
  none
noncomputable def laws_toIntS.t3 {γ : Type} (ret : ((List Int)) → Option γ) (lp3 : (List Int) → (List Int) → Int → Option γ) (v0 : List Int) (v1 : List Int) (v2 : Int) : Option γ :=
 bif decide (v2 < (↑v0.length : Int)) then
  bif decide ((0 : Int) ≤ v2) then
   bif decide (v2.toNat < v0.length) then
    bif decide ((0 : Int) ≤ v2) then
     bif decide (v2.toNat < v1.length) then
      bif decide (v2.toNat < v1.length) then
       lp3 (v0) (v1.set v2.toNat (v0.getD v2.toNat (0 : Int))) (IntKind.i64.wrap (v2 + (1 : Int)))
      else
       none
     else
      none
    else
     none
   else
    none
  else
   none
 else
  ret (v1)
theorem laws_toIntS.k (v0 : List Int) : topL E (callT E tab) 25 Try.f25 (laws_toIntS.c v0) = laws_toIntS.t (fun b => some (laws_toIntS.mk b)) laws_toIntS.q3 v0 := by kernel_rfl
theorem laws_toIntS.k3 (v0 : List Int) (v1 : List Int) (v2 : Int) : roundL E (callT E tab) 25 Try.f25 1 [.r, .r, .l, .r, .b] (vc (.d .fro (.sl (.int .i64)) v0) :: nn 2 (vc (.d .deep (.sl (.int .i64)) v1) :: vc (iL v2) :: nn 17 ([]))) = laws_toIntS.t3 (fun b => some (laws_toIntS.mk b)) laws_toIntS.q3 v0 v1 v2 := by kernel_rfl
theorem laws_toIntS.eq (v0 : List Int) {b : (List Int)} (h : laws_toIntS.t some laws_toIntS.l3 v0 = some b) : laws_toIntS v0 = some b := tOf_intro laws_toIntS.un (fun _ => by kernel_rfl) (vlim_fn (callT_le E tab) rfl rfl rfl ((laws_toIntS.k v0).trans ((by unfold laws_toIntS.t; repeat' first | exact Sub.ret | exact Sub.none | exact Sub.loop | apply Sub.cond | (apply Sub.bind; intro _) : Sub laws_toIntS.mk _ _) b h)))
theorem laws_toIntS.eq3 (v0 : List Int) (v1 : List Int) (v2 : Int) {b : (List Int)} (h : laws_toIntS.t3 some laws_toIntS.l3 v0 v1 v2 = some b) : laws_toIntS.l3 v0 v1 v2 = some b := tOf_intro laws_toIntS.un (fun _ => by kernel_rfl) (loopAtL_step ((laws_toIntS.k3 v0 v1 v2).trans ((by unfold laws_toIntS.t3; repeat' first | exact Sub.ret | exact Sub.none | exact Sub.loop | apply Sub.cond | (apply Sub.bind; intro _) : Sub laws_toIntS.mk _ _) b h)))
noncomputable def spec_GroupFor.q4 (v0 : List Int) (v1 : List Int) (v2 : Int) (v3 : Int) (v4 : List (List Int × Int × Int)) (v5 : Int) (v6 : Int) : Option R := loopAtL E (callT E tab) 10 Try.f10 2 [.r, .r, .l, .r, .b] (nn 3 (⟨(.box false), [.d .fro (.sl (.int .i64)) v0], false, false, false, 0, 0⟩ :: ⟨(.box false), [.d .deep (.sl (.int .i64)) v1, iL v2, iL v3], false, false, false, 0, 0⟩ :: nn 7 (vc (.d .fro (.sl (.pair (.sl (.int .i64)) (.pair (.int .i64) (.int .i64)))) v4) :: vc (iL v5) :: vc (iL v6) :: nn 18 ([]))))
noncomputable def spec_GroupFor.l4 (v0 : List Int) (v1 : List Int) (v2 : Int) (v3 : Int) (v4 : List (List Int × Int × Int)) (v5 : Int) (v6 : Int) : Option ((List Int) × Int × Int × Bool) := tOf spec_GroupFor.mk (spec_GroupFor.q4 v0 v1 v2 v3 v4 v5 v6)
noncomputable def spec_GroupFor.t {γ : Type} (ret : ((List Int) × Int × Int × Bool) → Option γ) (lp4 : (List Int) → (List Int) → Int → Int → (List (List Int × Int × Int)) → Int → Int → Option γ) (v0 : List (List Int × Int × Int)) (v1 : List Int) : Option γ :=
 (spec_GoodGroups (v0)).bind fun (r0 : Bool) =>
 bif !r0 then
  ret ([], (0 : Int), (0 : Int), Bool.false)
 else
  lp4 (v1) ([]) ((0 : Int)) ((0 : Int)) (v0) ((↑v0.length : Int)) ((0 : Int))
noncomputable def spec_GroupFor.t4 {γ : Type} (ret : ((List Int) × Int × Int × Bool) → Option γ) (lp4 : (List Int) → (List Int) → Int → Int → (List (List Int × Int × Int)) → Int → Int → Option γ) (v0 : List Int) (v1 : List Int) (v2 : Int) (v3 : Int) (v4 : List (List Int × Int × Int)) (v5 : Int) (v6 : Int) : Option γ :=
 bif decide (v6 < v5) then
  bif decide ((0 : Int) ≤ v6) then
   bif decide (v6.toNat < v4.length) then
    (spec_l1Compare ((v4.getD v6.toNat ([], (0 : Int), (0 : Int))).fst) (v0)).bind fun (r1 : Int) =>
    bif r1 == (0 : Int) then
     (spec_l2OwnRow ((v4.getD v6.toNat ([], (0 : Int), (0 : Int))).fst)).bind fun (r2 : (List Int)) =>
     ret (r2, (v4.getD v6.toNat ([], (0 : Int), (0 : Int))).snd.fst, (v4.getD v6.toNat ([], (0 : Int), (0 : Int))).snd.snd, Bool.true)
    else
     lp4 (v0) (v1) (v2) (v3) (v4) (v5) (IntKind.i64.wrap (v6 + (1 : Int)))
   else
    none
  else
   none
 else
  ret ([], (0 : Int), (0 : Int), Bool.false)
theorem spec_GroupFor.k (v0 : List (List Int × Int × Int)) (v1 : List Int) : topL E (callT E tab) 10 Try.f10 (spec_GroupFor.c v0 v1) = spec_GroupFor.t (fun b => some (spec_GroupFor.mk b)) spec_GroupFor.q4 v0 v1 := by kernel_rfl
theorem spec_GroupFor.k4 (v0 : List Int) (v1 : List Int) (v2 : Int) (v3 : Int) (v4 : List (List Int × Int × Int)) (v5 : Int) (v6 : Int) : roundL E (callT E tab) 10 Try.f10 2 [.r, .r, .l, .r, .b] (nn 3 (⟨(.box false), [.d .fro (.sl (.int .i64)) v0], false, false, false, 0, 0⟩ :: ⟨(.box false), [.d .deep (.sl (.int .i64)) v1, iL v2, iL v3], false, false, false, 0, 0⟩ :: nn 7 (vc (.d .fro (.sl (.pair (.sl (.int .i64)) (.pair (.int .i64) (.int .i64)))) v4) :: vc (iL v5) :: vc (iL v6) :: nn 18 ([])))) = spec_GroupFor.t4 (fun b => some (spec_GroupFor.mk b)) spec_GroupFor.q4 v0 v1 v2 v3 v4 v5 v6 := by kernel_rfl
theorem spec_GroupFor.eq (v0 : List (List Int × Int × Int)) (v1 : List Int) {b : (List Int) × Int × Int × Bool} (h : spec_GroupFor.t some spec_GroupFor.l4 v0 v1 = some b) : spec_GroupFor v0 v1 = some b := tOf_intro spec_GroupFor.un (fun _ => by kernel_rfl) (vlim_fn (callT_le E tab) rfl rfl rfl ((spec_GroupFor.k v0 v1).trans ((by unfold spec_GroupFor.t; repeat' first | exact Sub.ret | exact Sub.none | exact Sub.loop | apply Sub.cond | (apply Sub.bind; intro _) : Sub spec_GroupFor.mk _ _) b h)))
theorem spec_GroupFor.eq4 (v0 : List Int) (v1 : List Int) (v2 : Int) (v3 : Int) (v4 : List (List Int × Int × Int)) (v5 : Int) (v6 : Int) {b : (List Int) × Int × Int × Bool} (h : spec_GroupFor.t4 some spec_GroupFor.l4 v0 v1 v2 v3 v4 v5 v6 = some b) : spec_GroupFor.l4 v0 v1 v2 v3 v4 v5 v6 = some b := tOf_intro spec_GroupFor.un (fun _ => by kernel_rfl) (loopAtL_step ((spec_GroupFor.k4 v0 v1 v2 v3 v4 v5 v6).trans ((by unfold spec_GroupFor.t4; repeat' first | exact Sub.ret | exact Sub.none | exact Sub.loop | apply Sub.cond | (apply Sub.bind; intro _) : Sub spec_GroupFor.mk _ _) b h)))
noncomputable def spec_GoodGroups.q2 (v0 : List (List Int × Int × Int)) (v1 : List (List Int × Int × Int)) (v2 : Int) (v3 : Int) : Option R := loopAtL E (callT E tab) 45 Try.f45 1 [.r, .l, .r, .b] (vc (.d .fro (.sl (.pair (.sl (.int .i64)) (.pair (.int .i64) (.int .i64)))) v0) :: nn 4 (vc (.d .fro (.sl (.pair (.sl (.int .i64)) (.pair (.int .i64) (.int .i64)))) v1) :: vc (iL v2) :: vc (iL v3) :: nn 63 ([])))
noncomputable def spec_GoodGroups.l2 (v0 : List (List Int × Int × Int)) (v1 : List (List Int × Int × Int)) (v2 : Int) (v3 : Int) : Option (Bool) := tOf spec_GoodGroups.mk (spec_GoodGroups.q2 v0 v1 v2 v3)
noncomputable def spec_GoodGroups.t {γ : Type} (ret : (Bool) → Option γ) (lp2 : (List (List Int × Int × Int)) → (List (List Int × Int × Int)) → Int → Int → Option γ) (v0 : List (List Int × Int × Int)) : Option γ :=
 lp2 (v0) (v0) ((↑v0.length : Int)) ((0 : Int))
noncomputable def spec_GoodGroups.t2 {γ : Type} (ret : (Bool) → Option γ) (lp2 : (List (List Int × Int × Int)) → (List (List Int × Int × Int)) → Int → Int → Option γ) (v0 : List (List Int × Int × Int)) (v1 : List (List Int × Int × Int)) (v2 : Int) (v3 : Int) : Option γ :=
 bif decide (v3 < v2) then
  bif decide ((0 : Int) ≤ v3) then
   bif decide (v3.toNat < v1.length) then
    (spec_GoodRow ((v1.getD v3.toNat ([], (0 : Int), (0 : Int))).fst)).bind fun (r0 : Bool) =>
    bif !r0 then
     ret (Bool.false)
    else
     bif decide (Int.toNat (0 : Int) < v0.length) then
      bif (↑(v1.getD v3.toNat ([], (0 : Int), (0 : Int))).fst.length : Int) !=   (↑(v0.getD (Int.toNat (0 : Int)) ([], (0 : Int), (0 : Int))).fst.length : Int) then
       ret (Bool.false)
      else
       (spec_l5Sum ((v1.getD v3.toNat ([], (0 : Int), (0 : Int))).snd.fst)).bind fun (r1 : Bool) =>
       bif !r1 then
        ret (Bool.false)
       else
        (spec_l5Sum ((v1.getD v3.toNat ([], (0 : Int), (0 : Int))).snd.snd)).bind fun (r2 : Bool) =>
        bif !r2 then
         ret (Bool.false)
        else
         bif (v1.getD v3.toNat ([], (0 : Int), (0 : Int))).snd.fst == (0 : Int) then
          bif (v1.getD v3.toNat ([], (0 : Int), (0 : Int))).snd.snd == (0 : Int) then
           ret (Bool.false)
          else
           bif decide (v3 > (0 : Int)) then
            bif decide ((0 : Int) ≤ IntKind.i64.wrap (v3 - (1 : Int))) then
             bif decide ((IntKind.i64.wrap (v3 - (1 : Int))).toNat < v0.length) then
              (spec_l1Compare ((v0.getD (IntKind.i64.wrap (v3 - (1 : Int))).toNat ([], (0 : Int), (0 : Int))).fst) ((v1.getD v3.toNat ([], (0 : Int), (0 : Int))).fst)).bind fun (r3 : Int) =>
              bif decide (r3 ≥ (0 : Int)) then
               ret (Bool.false)
              else
               lp2 (v0) (v1) (v2) (IntKind.i64.wrap (v3 + (1 : Int)))
             else
              none
            else
             none
           else
            lp2 (v0) (v1) (v2) (IntKind.i64.wrap (v3 + (1 : Int)))
         else
          bif decide (v3 > (0 : Int)) then
           bif decide ((0 : Int) ≤ IntKind.i64.wrap (v3 - (1 : Int))) then
            bif decide ((IntKind.i64.wrap (v3 - (1 : Int))).toNat < v0.length) then
             (spec_l1Compare ((v0.getD (IntKind.i64.wrap (v3 - (1 : Int))).toNat ([], (0 : Int), (0 : Int))).fst) ((v1.getD v3.toNat ([], (0 : Int), (0 : Int))).fst)).bind fun (r4 : Int) =>
             bif decide (r4 ≥ (0 : Int)) then
              ret (Bool.false)
             else
              lp2 (v0) (v1) (v2) (IntKind.i64.wrap (v3 + (1 : Int)))
            else
             none
           else
            none
          else
           lp2 (v0) (v1) (v2) (IntKind.i64.wrap (v3 + (1 : Int)))
     else
      none
   else
    none
  else
   none
 else
  ret (decide ((↑v0.length : Int) ≤ (60 : Int)))
theorem spec_GoodGroups.k (v0 : List (List Int × Int × Int)) : topL E (callT E tab) 45 Try.f45 (spec_GoodGroups.c v0) = spec_GoodGroups.t (fun b => some (spec_GoodGroups.mk b)) spec_GoodGroups.q2 v0 := by kernel_rfl
theorem spec_GoodGroups.k2 (v0 : List (List Int × Int × Int)) (v1 : List (List Int × Int × Int)) (v2 : Int) (v3 : Int) : roundL E (callT E tab) 45 Try.f45 1 [.r, .l, .r, .b] (vc (.d .fro (.sl (.pair (.sl (.int .i64)) (.pair (.int .i64) (.int .i64)))) v0) :: nn 4 (vc (.d .fro (.sl (.pair (.sl (.int .i64)) (.pair (.int .i64) (.int .i64)))) v1) :: vc (iL v2) :: vc (iL v3) :: nn 63 ([]))) = spec_GoodGroups.t2 (fun b => some (spec_GoodGroups.mk b)) spec_GoodGroups.q2 v0 v1 v2 v3 := by kernel_rfl
theorem spec_GoodGroups.eq (v0 : List (List Int × Int × Int)) {b : Bool} (h : spec_GoodGroups.t some spec_GoodGroups.l2 v0 = some b) : spec_GoodGroups v0 = some b := tOf_intro spec_GoodGroups.un (fun _ => by kernel_rfl) (vlim_fn (callT_le E tab) rfl rfl rfl ((spec_GoodGroups.k v0).trans ((by unfold spec_GoodGroups.t; repeat' first | exact Sub.ret | exact Sub.none | exact Sub.loop | apply Sub.cond | (apply Sub.bind; intro _) : Sub spec_GoodGroups.mk _ _) b h)))
theorem spec_GoodGroups.eq2 (v0 : List (List Int × Int × Int)) (v1 : List (List Int × Int × Int)) (v2 : Int) (v3 : Int) {b : Bool} (h : spec_GoodGroups.t2 some spec_GoodGroups.l2 v0 v1 v2 v3 = some b) : spec_GoodGroups.l2 v0 v1 v2 v3 = some b := tOf_intro spec_GoodGroups.un (fun _ => by kernel_rfl) (loopAtL_step ((spec_GoodGroups.k2 v0 v1 v2 v3).trans ((by unfold spec_GoodGroups.t2; repeat' first | exact Sub.ret | exact Sub.none | exact Sub.loop | apply Sub.cond | (apply Sub.bind; intro _) : Sub spec_GoodGroups.mk _ _) b h)))
noncomputable def spec_GoodRow.q2 (v0 : List Int) (v1 : List Int) (v2 : Int) (v3 : Int) : Option R := loopAtL E (callT E tab) 83 Try.f83 1 [.r, .l, .r, .b] (nn 1 (⟨(.box false), [.d .fro (.sl (.int .i64)) v0], false, false, false, 0, 0⟩ :: nn 4 (vc (.d .fro (.sl (.int .i64)) v1) :: vc (iL v2) :: vc (iL v3) :: nn 11 ([]))))
noncomputable def spec_GoodRow.l2 (v0 : List Int) (v1 : List Int) (v2 : Int) (v3 : Int) : Option (Bool) := tOf spec_GoodRow.mk (spec_GoodRow.q2 v0 v1 v2 v3)
noncomputable def spec_GoodRow.t {γ : Type} (ret : (Bool) → Option γ) (lp2 : (List Int) → (List Int) → Int → Int → Option γ) (v0 : List Int) : Option γ :=
 lp2 (v0) (v0) ((↑v0.length : Int)) ((0 : Int))
noncomputable def spec_GoodRow.t2 {γ : Type} (ret : (Bool) → Option γ) (lp2 : (List Int) → (List Int) → Int → Int → Option γ) (v0 : List Int) (v1 : List Int) (v2 : Int) (v3 : Int) : Option γ :=
 bif decide (v3 < v2) then
  bif decide ((0 : Int) ≤ v3) then
   bif decide (v3.toNat < v1.length) then
    (spec_l1In (v1.getD v3.toNat (0 : Int)) ((-100000 : Int)) ((100000 : Int))).bind fun (r0 : Bool) =>
    bif !r0 then
     ret (Bool.false)
    else
     lp2 (v0) (v1) (v2) (IntKind.i64.wrap (v3 + (1 : Int)))
   else
    none
  else
   none
 else
  ret (decide ((↑v0.length : Int) ≤ (6 : Int)))
theorem spec_GoodRow.k (v0 : List Int) : topL E (callT E tab) 83 Try.f83 (spec_GoodRow.c v0) = spec_GoodRow.t (fun b => some (spec_GoodRow.mk b)) spec_GoodRow.q2 v0 := by kernel_rfl
theorem spec_GoodRow.k2 (v0 : List Int) (v1 : List Int) (v2 : Int) (v3 : Int) : roundL E (callT E tab) 83 Try.f83 1 [.r, .l, .r, .b] (nn 1 (⟨(.box false), [.d .fro (.sl (.int .i64)) v0], false, false, false, 0, 0⟩ :: nn 4 (vc (.d .fro (.sl (.int .i64)) v1) :: vc (iL v2) :: vc (iL v3) :: nn 11 ([])))) = spec_GoodRow.t2 (fun b => some (spec_GoodRow.mk b)) spec_GoodRow.q2 v0 v1 v2 v3 := by kernel_rfl
theorem spec_GoodRow.eq (v0 : List Int) {b : Bool} (h : spec_GoodRow.t some spec_GoodRow.l2 v0 = some b) : spec_GoodRow v0 = some b := tOf_intro spec_GoodRow.un (fun _ => by kernel_rfl) (vlim_fn (callT_le E tab) rfl rfl rfl ((spec_GoodRow.k v0).trans ((by unfold spec_GoodRow.t; repeat' first | exact Sub.ret | exact Sub.none | exact Sub.loop | apply Sub.cond | (apply Sub.bind; intro _) : Sub spec_GoodRow.mk _ _) b h)))
theorem spec_GoodRow.eq2 (v0 : List Int) (v1 : List Int) (v2 : Int) (v3 : Int) {b : Bool} (h : spec_GoodRow.t2 some spec_GoodRow.l2 v0 v1 v2 v3 = some b) : spec_GoodRow.l2 v0 v1 v2 v3 = some b := tOf_intro spec_GoodRow.un (fun _ => by kernel_rfl) (loopAtL_step ((spec_GoodRow.k2 v0 v1 v2 v3).trans ((by unfold spec_GoodRow.t2; repeat' first | exact Sub.ret | exact Sub.none | exact Sub.loop | apply Sub.cond | (apply Sub.bind; intro _) : Sub spec_GoodRow.mk _ _) b h)))
noncomputable def spec_l1In.t {γ : Type} (ret : (Bool) → Option γ) (v0 : Int) (v1 : Int) (v2 : Int) : Option γ :=
 bif decide (v0 ≥ v1) then
  ret (decide (v0 ≤ v2))
 else
  ret (Bool.false)
theorem spec_l1In.k (v0 : Int) (v1 : Int) (v2 : Int) : topL E (callT E tab) 99 Try.f99 (spec_l1In.c v0 v1 v2) = spec_l1In.t (fun b => some (spec_l1In.mk b)) v0 v1 v2 := by kernel_rfl
theorem spec_l1In.eq (v0 : Int) (v1 : Int) (v2 : Int) {b : Bool} (h : spec_l1In.t some v0 v1 v2 = some b) : spec_l1In v0 v1 v2 = some b := tOf_intro spec_l1In.un (fun _ => by kernel_rfl) (vlim_fn (callT_le E tab) rfl rfl rfl ((spec_l1In.k v0 v1 v2).trans ((by unfold spec_l1In.t; repeat' first | exact Sub.ret | exact Sub.none | exact Sub.loop | apply Sub.cond | (apply Sub.bind; intro _) : Sub spec_l1In.mk _ _) b h)))
noncomputable def spec_l5Sum.t {γ : Type} (ret : (Bool) → Option γ) (v0 : Int) : Option γ :=
 (spec_l1In (v0) ((-100000000000000 : Int)) ((100000000000000 : Int))).bind fun (r0 : Bool) =>
 ret (r0)
theorem spec_l5Sum.k (v0 : Int) : topL E (callT E tab) 84 Try.f84 (spec_l5Sum.c v0) = spec_l5Sum.t (fun b => some (spec_l5Sum.mk b)) v0 := by kernel_rfl
theorem spec_l5Sum.eq (v0 : Int) {b : Bool} (h : spec_l5Sum.t some v0 = some b) : spec_l5Sum v0 = some b := tOf_intro spec_l5Sum.un (fun _ => by kernel_rfl) (vlim_fn (callT_le E tab) rfl rfl rfl ((spec_l5Sum.k v0).trans ((by unfold spec_l5Sum.t; repeat' first | exact Sub.ret | exact Sub.none | exact Sub.loop | apply Sub.cond | (apply Sub.bind; intro _) : Sub spec_l5Sum.mk _ _) b h)))
noncomputable def spec_l1Compare.q2 (v0 : List Int) (v1 : List Int) (v2 : Int) : Option R := loopAtL E (callT E tab) 46 Try.f46 2 [.r, .l, .r, .b] (nn 2 (⟨(.box false), [.d .fro (.sl (.int .i64)) v0], false, false, false, 0, 0⟩ :: ⟨(.box false), [.d .fro (.sl (.int .i64)) v1], false, false, false, 0, 0⟩ :: nn 1 (vc (iL v2) :: nn 52 ([]))))
noncomputable def spec_l1Compare.l2 (v0 : List Int) (v1 : List Int) (v2 : Int) : Option (Int) := tOf spec_l1Compare.mk (spec_l1Compare.q2 v0 v1 v2)
noncomputable def spec_l1Compare.t {γ : Type} (ret : (Int) → Option γ) (lp2 : (List Int) → (List Int) → Int → Option γ) (v0 : List Int) (v1 : List Int) : Option γ :=
 lp2 (v0) (v1) ((0 : Int))
noncomputable def spec_l1Compare.t2 {γ : Type} (ret : (Int) → Option γ) (lp2 : (List Int) → (List Int) → Int → Option γ) (v0 : List Int) (v1 : List Int) (v2 : Int) : Option γ :=
 bif decide (v2 < (↑v0.length : Int)) then
  bif decide (v2 < (↑v1.length : Int)) then
   bif decide ((0 : Int) ≤ v2) then
    bif decide (v2.toNat < v0.length) then
     bif decide ((0 : Int) ≤ v2) then
      bif decide (v2.toNat < v1.length) then
       bif decide (v0.getD v2.toNat (0 : Int) < v1.getD v2.toNat (0 : Int)) then
        ret ((-1 : Int))
       else
        bif decide ((0 : Int) ≤ v2) then
         bif decide (v2.toNat < v0.length) then
          bif decide ((0 : Int) ≤ v2) then
           bif decide (v2.toNat < v1.length) then
            bif decide (v0.getD v2.toNat (0 : Int) > v1.getD v2.toNat (0 : Int)) then
             ret ((1 : Int))
            else
             lp2 (v0) (v1) (IntKind.i64.wrap (v2 + (1 : Int)))
           else
            none
          else
           none
         else
          none
        else
         none
      else
       none
     else
      none
    else
     none
   else
    none
  else
   bif decide ((↑v0.length : Int) < (↑v1.length : Int)) then
    ret ((-1 : Int))
   else
    bif decide ((↑v0.length : Int) > (↑v1.length : Int)) then
     ret ((1 : Int))
    else
     ret ((0 : Int))
 else
  bif decide ((↑v0.length : Int) < (↑v1.length : Int)) then
   ret ((-1 : Int))
  else
   bif decide ((↑v0.length : Int) > (↑v1.length : Int)) then
    ret ((1 : Int))
   else
    ret ((0 : Int))
theorem spec_l1Compare.k (v0 : List Int) (v1 : List Int) : topL E (callT E tab) 46 Try.f46 (spec_l1Compare.c v0 v1) = spec_l1Compare.t (fun b => some (spec_l1Compare.mk b)) spec_l1Compare.q2 v0 v1 := by kernel_rfl
theorem spec_l1Compare.k2 (v0 : List Int) (v1 : List Int) (v2 : Int) : roundL E (callT E tab) 46 Try.f46 2 [.r, .l, .r, .b] (nn 2 (⟨(.box false), [.d .fro (.sl (.int .i64)) v0], false, false, false, 0, 0⟩ :: ⟨(.box false), [.d .fro (.sl (.int .i64)) v1], false, false, false, 0, 0⟩ :: nn 1 (vc (iL v2) :: nn 52 ([])))) = spec_l1Compare.t2 (fun b => some (spec_l1Compare.mk b)) spec_l1Compare.q2 v0 v1 v2 := by kernel_rfl
theorem spec_l1Compare.eq (v0 : List Int) (v1 : List Int) {b : Int} (h : spec_l1Compare.t some spec_l1Compare.l2 v0 v1 = some b) : spec_l1Compare v0 v1 = some b := tOf_intro spec_l1Compare.un (fun _ => by kernel_rfl) (vlim_fn (callT_le E tab) rfl rfl rfl ((spec_l1Compare.k v0 v1).trans ((by unfold spec_l1Compare.t; repeat' first | exact Sub.ret | exact Sub.none | exact Sub.loop | apply Sub.cond | (apply Sub.bind; intro _) : Sub spec_l1Compare.mk _ _) b h)))
theorem spec_l1Compare.eq2 (v0 : List Int) (v1 : List Int) (v2 : Int) {b : Int} (h : spec_l1Compare.t2 some spec_l1Compare.l2 v0 v1 v2 = some b) : spec_l1Compare.l2 v0 v1 v2 = some b := tOf_intro spec_l1Compare.un (fun _ => by kernel_rfl) (loopAtL_step ((spec_l1Compare.k2 v0 v1 v2).trans ((by unfold spec_l1Compare.t2; repeat' first | exact Sub.ret | exact Sub.none | exact Sub.loop | apply Sub.cond | (apply Sub.bind; intro _) : Sub spec_l1Compare.mk _ _) b h)))
noncomputable def spec_l2OwnRow.t {γ : Type} (ret : ((List Int)) → Option γ) (v0 : List Int) : Option γ :=
 bif decide (([] : List Int).length + v0.length ≤ (4294967296 : Nat)) then
  ret ([] ++ v0)
 else
  none
theorem spec_l2OwnRow.k (v0 : List Int) : topL E (callT E tab) 47 Try.f47 (spec_l2OwnRow.c v0) = spec_l2OwnRow.t (fun b => some (spec_l2OwnRow.mk b)) v0 := by kernel_rfl
theorem spec_l2OwnRow.eq (v0 : List Int) {b : (List Int)} (h : spec_l2OwnRow.t some v0 = some b) : spec_l2OwnRow v0 = some b := tOf_intro spec_l2OwnRow.un (fun _ => by kernel_rfl) (vlim_fn (callT_le E tab) rfl rfl rfl ((spec_l2OwnRow.k v0).trans ((by unfold spec_l2OwnRow.t; repeat' first | exact Sub.ret | exact Sub.none | exact Sub.loop | apply Sub.cond | (apply Sub.bind; intro _) : Sub spec_l2OwnRow.mk _ _) b h)))
noncomputable def impl_GroupFor.t {γ : Type} (ret : ((List Int) × Int × Int × Bool) → Option γ) (v0 : List (List Int × Int × Int)) (v1 : List Int) : Option γ :=
 (xs01 (v0) (v1)).bind fun (r0 : Int) =>
 (impl_GoodGroups (v0)).bind fun (r1 : Bool) =>
 bif !r1 then
  ret ([], (0 : Int), (0 : Int), Bool.false)
 else
  bif decide (r0 < (0 : Int)) then
   ret ([], (0 : Int), (0 : Int), Bool.false)
  else
   bif decide ((0 : Int) ≤ r0) then
    bif decide (r0.toNat < v0.length) then
     (impl_Row_own ((v0.getD r0.toNat ([], (0 : Int), (0 : Int))).fst)).bind fun (r2 : (List Int)) =>
     bif decide ((0 : Int) ≤ r0) then
      bif decide (r0.toNat < v0.length) then
       bif decide ((0 : Int) ≤ r0) then
        bif decide (r0.toNat < v0.length) then
         ret (r2, (v0.getD r0.toNat ([], (0 : Int), (0 : Int))).snd.fst, (v0.getD r0.toNat ([], (0 : Int), (0 : Int))).snd.snd, Bool.true)
        else
         none
       else
        none
      else
       none
     else
      none
    else
     none
   else
    none
theorem impl_GroupFor.k (v0 : List (List Int × Int × Int)) (v1 : List Int) : topL E (callT E tab) 13 Try.f13 (impl_GroupFor.c v0 v1) = impl_GroupFor.t (fun b => some (impl_GroupFor.mk b)) v0 v1 := by kernel_rfl
theorem impl_GroupFor.eq (v0 : List (List Int × Int × Int)) (v1 : List Int) {b : (List Int) × Int × Int × Bool} (h : impl_GroupFor.t some v0 v1 = some b) : impl_GroupFor v0 v1 = some b := tOf_intro impl_GroupFor.un (fun _ => by kernel_rfl) (vlim_fn (callT_le E tab) rfl rfl rfl ((impl_GroupFor.k v0 v1).trans ((by unfold impl_GroupFor.t; repeat' first | exact Sub.ret | exact Sub.none | exact Sub.loop | apply Sub.cond | (apply Sub.bind; intro _) : Sub impl_GroupFor.mk _ _) b h)))
noncomputable def xs01.q2 (v0 : List (List Int × Int × Int)) (v1 : List Int) (v2 : Int) (v3 : Int) : Option R := loopAtL E (callT E tab) 49 Try.f49 2 [.r, .l, .r, .b] (vc (.d .fro (.sl (.pair (.sl (.int .i64)) (.pair (.int .i64) (.int .i64)))) v0) :: vc (.fn 50 [.rp [.d .fro (.sl (.int .i64)) v1] 0]) :: nn 5 (vc (iL v2) :: vc (iL v3) :: nn 10 ([])))
noncomputable def xs01.l2 (v0 : List (List Int × Int × Int)) (v1 : List Int) (v2 : Int) (v3 : Int) : Option (Int) := tOf xs01.mk (xs01.q2 v0 v1 v2 v3)
noncomputable def xs01.t {γ : Type} (ret : (Int) → Option γ) (lp2 : (List (List Int × Int × Int)) → (List Int) → Int → Int → Option γ) (v0 : List (List Int × Int × Int)) (v1 : List Int) : Option γ :=
 lp2 (v0) (v1) ((↑v0.length : Int)) ((0 : Int))
noncomputable def xs01.t2 {γ : Type} (ret : (Int) → Option γ) (lp2 : (List (List Int × Int × Int)) → (List Int) → Int → Int → Option γ) (v0 : List (List Int × Int × Int)) (v1 : List Int) (v2 : Int) (v3 : Int) : Option γ :=
 bif decide (v3 < v2) then
  bif decide ((0 : Int) ≤ v3) then
   bif decide (v3.toNat < v0.length) then
    (impl_GroupFor_1 ((v0.getD v3.toNat ([], (0 : Int), (0 : Int))).fst) ((v0.getD v3.toNat ([], (0 : Int), (0 : Int))).snd.fst) ((v0.getD v3.toNat ([], (0 : Int), (0 : Int))).snd.snd) (v1)).bind fun (r0 : Bool) =>
    bif r0 then
     ret (v3)
    else
     lp2 (v0) (v1) (v2) (IntKind.i64.wrap (v3 + (1 : Int)))
   else
    none
  else
   none
 else
  ret ((-1 : Int))
theorem xs01.k (v0 : List (List Int × Int × Int)) (v1 : List Int) : topL E (callT E tab) 49 Try.f49 (xs01.c v0 v1) = xs01.t (fun b => some (xs01.mk b)) xs01.q2 v0 v1 := by kernel_rfl
theorem xs01.k2 (v0 : List (List Int × Int × Int)) (v1 : List Int) (v2 : Int) (v3 : Int) : roundL E (callT E tab) 49 Try.f49 2 [.r, .l, .r, .b] (vc (.d .fro (.sl (.pair (.sl (.int .i64)) (.pair (.int .i64) (.int .i64)))) v0) :: vc (.fn 50 [.rp [.d .fro (.sl (.int .i64)) v1] 0]) :: nn 5 (vc (iL v2) :: vc (iL v3) :: nn 10 ([]))) = xs01.t2 (fun b => some (xs01.mk b)) xs01.q2 v0 v1 v2 v3 := by kernel_rfl
theorem xs01.eq (v0 : List (List Int × Int × Int)) (v1 : List Int) {b : Int} (h : xs01.t some xs01.l2 v0 v1 = some b) : xs01 v0 v1 = some b := tOf_intro xs01.un (fun _ => by kernel_rfl) (vlim_fn (callT_le E tab) rfl rfl rfl ((xs01.k v0 v1).trans ((by unfold xs01.t; repeat' first | exact Sub.ret | exact Sub.none | exact Sub.loop | apply Sub.cond | (apply Sub.bind; intro _) : Sub xs01.mk _ _) b h)))
theorem xs01.eq2 (v0 : List (List Int × Int × Int)) (v1 : List Int) (v2 : Int) (v3 : Int) {b : Int} (h : xs01.t2 some xs01.l2 v0 v1 v2 v3 = some b) : xs01.l2 v0 v1 v2 v3 = some b := tOf_intro xs01.un (fun _ => by kernel_rfl) (loopAtL_step ((xs01.k2 v0 v1 v2 v3).trans ((by unfold xs01.t2; repeat' first | exact Sub.ret | exact Sub.none | exact Sub.loop | apply Sub.cond | (apply Sub.bind; intro _) : Sub xs01.mk _ _) b h)))
noncomputable def impl_GroupFor_1.t {γ : Type} (ret : (Bool) → Option γ) (v0 : List Int) (v1 : Int) (v2 : Int) (v3 : List Int) : Option γ :=
 (impl_compareRows (v0) (v3)).bind fun (r0 : Int) =>
 ret (r0 == (0 : Int))
theorem impl_GroupFor_1.k (v0 : List Int) (v1 : Int) (v2 : Int) (v3 : List Int) : topL E (callT E tab) 50 Try.f50 (impl_GroupFor_1.c v0 v1 v2 v3) = impl_GroupFor_1.t (fun b => some (impl_GroupFor_1.mk b)) v0 v1 v2 v3 := by kernel_rfl
theorem impl_GroupFor_1.eq (v0 : List Int) (v1 : Int) (v2 : Int) (v3 : List Int) {b : Bool} (h : impl_GroupFor_1.t some v0 v1 v2 v3 = some b) : impl_GroupFor_1 v0 v1 v2 v3 = some b := tOf_intro impl_GroupFor_1.un (fun _ => by kernel_rfl) (vlim_fn (callT_le E tab) rfl rfl rfl ((impl_GroupFor_1.k v0 v1 v2 v3).trans ((by unfold impl_GroupFor_1.t; repeat' first | exact Sub.ret | exact Sub.none | exact Sub.loop | apply Sub.cond | (apply Sub.bind; intro _) : Sub impl_GroupFor_1.mk _ _) b h)))
noncomputable def impl_compareRows.t {γ : Type} (ret : (Int) → Option γ) (v0 : List Int) (v1 : List Int) : Option γ :=
 (xs05 (v0) (v1)).bind fun (r0 : Int) =>
 ret (r0)
theorem impl_compareRows.k (v0 : List Int) (v1 : List Int) : topL E (callT E tab) 51 Try.f51 (impl_compareRows.c v0 v1) = impl_compareRows.t (fun b => some (impl_compareRows.mk b)) v0 v1 := by kernel_rfl
theorem impl_compareRows.eq (v0 : List Int) (v1 : List Int) {b : Int} (h : impl_compareRows.t some v0 v1 = some b) : impl_compareRows v0 v1 = some b := tOf_intro impl_compareRows.un (fun _ => by kernel_rfl) (vlim_fn (callT_le E tab) rfl rfl rfl ((impl_compareRows.k v0 v1).trans ((by unfold impl_compareRows.t; repeat' first | exact Sub.ret | exact Sub.none | exact Sub.loop | apply Sub.cond | (apply Sub.bind; intro _) : Sub impl_compareRows.mk _ _) b h)))
end GoV

/- Equations of the program's functions (printed by wip/tools/emit.py). -/
namespace GoV
open Go Go.Proofs
set_option maxRecDepth 100000

noncomputable def xs05.q2 (v0 : List Int) (v1 : List Int) (v2 : List Int) (v3 : Int) (v4 : Int) : Option R := loopAtL E (callT E tab) 85 Try.f85 2 [.r, .l, .r, .b] (vc (.d .fro (.sl (.int .i64)) v0) :: vc (.d .fro (.sl (.int .i64)) v1) :: nn 7 (vc (.d .fro (.sl (.int .i64)) v2) :: vc (iL v3) :: vc (iL v4) :: nn 24 ([])))
noncomputable def xs05.l2 (v0 : List Int) (v1 : List Int) (v2 : List Int) (v3 : Int) (v4 : Int) : Option (Int) := tOf xs05.mk (xs05.q2 v0 v1 v2 v3 v4)
noncomputable def xs05.t {γ : Type} (ret : (Int) → Option γ) (lp2 : (List Int) → (List Int) → (List Int) → Int → Int → Option γ) (v0 : List Int) (v1 : List Int) : Option γ :=
 lp2 (v0) (v1) (v0) ((↑v0.length : Int)) ((0 : Int))
noncomputable def xs05.t2 {γ : Type} (ret : (Int) → Option γ) (lp2 : (List Int) → (List Int) → (List Int) → Int → Int → Option γ) (v0 : List Int) (v1 : List Int) (v2 : List Int) (v3 : Int) (v4 : Int) : Option γ :=
 bif decide (v4 < v3) then
  bif decide ((0 : Int) ≤ v4) then
   bif decide (v4.toNat < v2.length) then
    bif decide (v4 ≥ (↑v1.length : Int)) then
     ret ((1 : Int))
    else
     bif decide ((0 : Int) ≤ v4) then
      bif decide (v4.toNat < v1.length) then
       (cmp_Compare_int (v2.getD v4.toNat (0 : Int)) (v1.getD v4.toNat (0 : Int))).bind fun (r0 : Int) =>
       bif r0 != (0 : Int) then
        ret (r0)
       else
        lp2 (v0) (v1) (v2) (v3) (IntKind.i64.wrap (v4 + (1 : Int)))
      else
       none
     else
      none
   else
    none
  else
   none
 else
  bif decide ((↑v0.length : Int) < (↑v1.length : Int)) then
   ret ((-1 : Int))
  else
   ret ((0 : Int))
theorem xs05.k (v0 : List Int) (v1 : List Int) : topL E (callT E tab) 85 Try.f85 (xs05.c v0 v1) = xs05.t (fun b => some (xs05.mk b)) xs05.q2 v0 v1 := by kernel_rfl
theorem xs05.k2 (v0 : List Int) (v1 : List Int) (v2 : List Int) (v3 : Int) (v4 : Int) : roundL E (callT E tab) 85 Try.f85 2 [.r, .l, .r, .b] (vc (.d .fro (.sl (.int .i64)) v0) :: vc (.d .fro (.sl (.int .i64)) v1) :: nn 7 (vc (.d .fro (.sl (.int .i64)) v2) :: vc (iL v3) :: vc (iL v4) :: nn 24 ([]))) = xs05.t2 (fun b => some (xs05.mk b)) xs05.q2 v0 v1 v2 v3 v4 := by kernel_rfl
theorem xs05.eq (v0 : List Int) (v1 : List Int) {b : Int} (h : xs05.t some xs05.l2 v0 v1 = some b) : xs05 v0 v1 = some b := tOf_intro xs05.un (fun _ => by kernel_rfl) (vlim_fn (callT_le E tab) rfl rfl rfl ((xs05.k v0 v1).trans ((by unfold xs05.t; repeat' first | exact Sub.ret | exact Sub.none | exact Sub.loop | apply Sub.cond | (apply Sub.bind; intro _) : Sub xs05.mk _ _) b h)))
theorem xs05.eq2 (v0 : List Int) (v1 : List Int) (v2 : List Int) (v3 : Int) (v4 : Int) {b : Int} (h : xs05.t2 some xs05.l2 v0 v1 v2 v3 v4 = some b) : xs05.l2 v0 v1 v2 v3 v4 = some b := tOf_intro xs05.un (fun _ => by kernel_rfl) (loopAtL_step ((xs05.k2 v0 v1 v2 v3 v4).trans ((by unfold xs05.t2; repeat' first | exact Sub.ret | exact Sub.none | exact Sub.loop | apply Sub.cond | (apply Sub.bind; intro _) : Sub xs05.mk _ _) b h)))
noncomputable def cmp_Compare_int.t {γ : Type} (ret : (Int) → Option γ) (v0 : Int) (v1 : Int) : Option γ :=
 (cmp_isNaN_int (v0)).bind fun (r0 : Bool) =>
 (cmp_isNaN_int (v1)).bind fun (r1 : Bool) =>
 bif r0 then
  bif r1 then
   ret ((0 : Int))
  else
   ret ((-1 : Int))
 else
  bif r1 then
   ret ((1 : Int))
  else
   bif decide (v0 < v1) then
    ret ((-1 : Int))
   else
    bif decide (v0 > v1) then
     ret ((1 : Int))
    else
     ret ((0 : Int))
theorem cmp_Compare_int.k (v0 : Int) (v1 : Int) : topL E (callT E tab) 113 Try.f113 (cmp_Compare_int.c v0 v1) = cmp_Compare_int.t (fun b => some (cmp_Compare_int.mk b)) v0 v1 := by kernel_rfl
theorem cmp_Compare_int.eq (v0 : Int) (v1 : Int) {b : Int} (h : cmp_Compare_int.t some v0 v1 = some b) : cmp_Compare_int v0 v1 = some b := tOf_intro cmp_Compare_int.un (fun _ => by kernel_rfl) (vlim_fn (callT_le E tab) rfl rfl rfl ((cmp_Compare_int.k v0 v1).trans ((by unfold cmp_Compare_int.t; repeat' first | exact Sub.ret | exact Sub.none | exact Sub.loop | apply Sub.cond | (apply Sub.bind; intro _) : Sub cmp_Compare_int.mk _ _) b h)))
noncomputable def cmp_isNaN_int.t {γ : Type} (ret : (Bool) → Option γ) (v0 : Int) : Option γ :=
 ret (v0 != v0)
theorem cmp_isNaN_int.k (v0 : Int) : topL E (callT E tab) 124 Try.f124 (cmp_isNaN_int.c v0) = cmp_isNaN_int.t (fun b => some (cmp_isNaN_int.mk b)) v0 := by kernel_rfl
theorem cmp_isNaN_int.eq (v0 : Int) {b : Bool} (h : cmp_isNaN_int.t some v0 = some b) : cmp_isNaN_int v0 = some b := tOf_intro cmp_isNaN_int.un (fun _ => by kernel_rfl) (vlim_fn (callT_le E tab) rfl rfl rfl ((cmp_isNaN_int.k v0).trans ((by unfold cmp_isNaN_int.t; repeat' first | exact Sub.ret | exact Sub.none | exact Sub.loop | apply Sub.cond | (apply Sub.bind; intro _) : Sub cmp_isNaN_int.mk _ _) b h)))
noncomputable def impl_GoodGroups.q2 (v0 : List (List Int × Int × Int)) (v1 : List (List Int × Int × Int)) (v2 : Int) (v3 : Int) : Option R := loopAtL E (callT E tab) 52 Try.f52 1 [.r, .l, .r, .b] (vc (.d .fro (.sl (.pair (.sl (.int .i64)) (.pair (.int .i64) (.int .i64)))) v0) :: nn 4 (vc (.d .fro (.sl (.pair (.sl (.int .i64)) (.pair (.int .i64) (.int .i64)))) v1) :: vc (iL v2) :: vc (iL v3) :: nn 52 ([])))
noncomputable def impl_GoodGroups.l2 (v0 : List (List Int × Int × Int)) (v1 : List (List Int × Int × Int)) (v2 : Int) (v3 : Int) : Option (Bool) := tOf impl_GoodGroups.mk (impl_GoodGroups.q2 v0 v1 v2 v3)
noncomputable def impl_GoodGroups.t {γ : Type} (ret : (Bool) → Option γ) (lp2 : (List (List Int × Int × Int)) → (List (List Int × Int × Int)) → Int → Int → Option γ) (v0 : List (List Int × Int × Int)) : Option γ :=
 lp2 (v0) (v0) ((↑v0.length : Int)) ((0 : Int))
noncomputable def impl_GoodGroups.t2 {γ : Type} (ret : (Bool) → Option γ) (lp2 : (List (List Int × Int × Int)) → (List (List Int × Int × Int)) → Int → Int → Option γ) (v0 : List (List Int × Int × Int)) (v1 : List (List Int × Int × Int)) (v2 : Int) (v3 : Int) : Option γ :=
 bif decide (v3 < v2) then
  bif decide ((0 : Int) ≤ v3) then
   bif decide (v3.toNat < v1.length) then
    (impl_keyLength (v0)).bind fun (r0 : Int) =>
    (impl_isRowOf ((v1.getD v3.toNat ([], (0 : Int), (0 : Int))).fst) (r0)).bind fun (r1 : Bool) =>
    bif !r1 then
     ret (Bool.false)
    else
     (impl_isSum ((v1.getD v3.toNat ([], (0 : Int), (0 : Int))).snd.fst)).bind fun (r2 : Bool) =>
     bif !r2 then
      ret (Bool.false)
     else
      (impl_isSum ((v1.getD v3.toNat ([], (0 : Int), (0 : Int))).snd.snd)).bind fun (r3 : Bool) =>
      bif !r3 then
       ret (Bool.false)
      else
       bif (v1.getD v3.toNat ([], (0 : Int), (0 : Int))).snd.fst == (0 : Int) then
        bif (v1.getD v3.toNat ([], (0 : Int), (0 : Int))).snd.snd == (0 : Int) then
         ret (Bool.false)
        else
         bif decide (v3 > (0 : Int)) then
          bif decide ((0 : Int) ≤ IntKind.i64.wrap (v3 - (1 : Int))) then
           bif decide ((IntKind.i64.wrap (v3 - (1 : Int))).toNat < v0.length) then
            (impl_compareRows ((v0.getD (IntKind.i64.wrap (v3 - (1 : Int))).toNat ([], (0 : Int), (0 : Int))).fst) ((v1.getD v3.toNat ([], (0 : Int), (0 : Int))).fst)).bind fun (r4 : Int) =>
            bif decide (r4 ≥ (0 : Int)) then
             ret (Bool.false)
            else
             lp2 (v0) (v1) (v2) (IntKind.i64.wrap (v3 + (1 : Int)))
           else
            none
          else
           none
         else
          lp2 (v0) (v1) (v2) (IntKind.i64.wrap (v3 + (1 : Int)))
       else
        bif decide (v3 > (0 : Int)) then
         bif decide ((0 : Int) ≤ IntKind.i64.wrap (v3 - (1 : Int))) then
          bif decide ((IntKind.i64.wrap (v3 - (1 : Int))).toNat < v0.length) then
           (impl_compareRows ((v0.getD (IntKind.i64.wrap (v3 - (1 : Int))).toNat ([], (0 : Int), (0 : Int))).fst) ((v1.getD v3.toNat ([], (0 : Int), (0 : Int))).fst)).bind fun (r5 : Int) =>
           bif decide (r5 ≥ (0 : Int)) then
            ret (Bool.false)
           else
            lp2 (v0) (v1) (v2) (IntKind.i64.wrap (v3 + (1 : Int)))
          else
           none
         else
          none
        else
         lp2 (v0) (v1) (v2) (IntKind.i64.wrap (v3 + (1 : Int)))
   else
    none
  else
   none
 else
  ret (decide ((↑v0.length : Int) ≤ (60 : Int)))
theorem impl_GoodGroups.k (v0 : List (List Int × Int × Int)) : topL E (callT E tab) 52 Try.f52 (impl_GoodGroups.c v0) = impl_GoodGroups.t (fun b => some (impl_GoodGroups.mk b)) impl_GoodGroups.q2 v0 := by kernel_rfl
theorem impl_GoodGroups.k2 (v0 : List (List Int × Int × Int)) (v1 : List (List Int × Int × Int)) (v2 : Int) (v3 : Int) : roundL E (callT E tab) 52 Try.f52 1 [.r, .l, .r, .b] (vc (.d .fro (.sl (.pair (.sl (.int .i64)) (.pair (.int .i64) (.int .i64)))) v0) :: nn 4 (vc (.d .fro (.sl (.pair (.sl (.int .i64)) (.pair (.int .i64) (.int .i64)))) v1) :: vc (iL v2) :: vc (iL v3) :: nn 52 ([]))) = impl_GoodGroups.t2 (fun b => some (impl_GoodGroups.mk b)) impl_GoodGroups.q2 v0 v1 v2 v3 := by kernel_rfl
theorem impl_GoodGroups.eq (v0 : List (List Int × Int × Int)) {b : Bool} (h : impl_GoodGroups.t some impl_GoodGroups.l2 v0 = some b) : impl_GoodGroups v0 = some b := tOf_intro impl_GoodGroups.un (fun _ => by kernel_rfl) (vlim_fn (callT_le E tab) rfl rfl rfl ((impl_GoodGroups.k v0).trans ((by unfold impl_GoodGroups.t; repeat' first | exact Sub.ret | exact Sub.none | exact Sub.loop | apply Sub.cond | (apply Sub.bind; intro _) : Sub impl_GoodGroups.mk _ _) b h)))
theorem impl_GoodGroups.eq2 (v0 : List (List Int × Int × Int)) (v1 : List (List Int × Int × Int)) (v2 : Int) (v3 : Int) {b : Bool} (h : impl_GoodGroups.t2 some impl_GoodGroups.l2 v0 v1 v2 v3 = some b) : impl_GoodGroups.l2 v0 v1 v2 v3 = some b := tOf_intro impl_GoodGroups.un (fun _ => by kernel_rfl) (loopAtL_step ((impl_GoodGroups.k2 v0 v1 v2 v3).trans ((by unfold impl_GoodGroups.t2; repeat' first | exact Sub.ret | exact Sub.none | exact Sub.loop | apply Sub.cond | (apply Sub.bind; intro _) : Sub impl_GoodGroups.mk _ _) b h)))
noncomputable def impl_keyLength.t {γ : Type} (ret : (Int) → Option γ) (v0 : List (List Int × Int × Int)) : Option γ :=
 bif (↑v0.length : Int) == (0 : Int) then
  ret ((0 : Int))
 else
  bif decide (Int.toNat (0 : Int) < v0.length) then
   ret ((↑(v0.getD (Int.toNat (0 : Int)) ([], (0 : Int), (0 : Int))).fst.length : Int))
  else
   none
theorem impl_keyLength.k (v0 : List (List Int × Int × Int)) : topL E (callT E tab) 57 Try.f57 (impl_keyLength.c v0) = impl_keyLength.t (fun b => some (impl_keyLength.mk b)) v0 := by kernel_rfl
theorem impl_keyLength.eq (v0 : List (List Int × Int × Int)) {b : Int} (h : impl_keyLength.t some v0 = some b) : impl_keyLength v0 = some b := tOf_intro impl_keyLength.un (fun _ => by kernel_rfl) (vlim_fn (callT_le E tab) rfl rfl rfl ((impl_keyLength.k v0).trans ((by unfold impl_keyLength.t; repeat' first | exact Sub.ret | exact Sub.none | exact Sub.loop | apply Sub.cond | (apply Sub.bind; intro _) : Sub impl_keyLength.mk _ _) b h)))
noncomputable def impl_isRowOf.t {γ : Type} (ret : (Bool) → Option γ) (v0 : List Int) (v1 : Int) : Option γ :=
 (impl_GoodRow (v0)).bind fun (r0 : Bool) =>
 bif r0 then
  ret ((↑v0.length : Int) == v1)
 else
  ret (Bool.false)
theorem impl_isRowOf.k (v0 : List Int) (v1 : Int) : topL E (callT E tab) 86 Try.f86 (impl_isRowOf.c v0 v1) = impl_isRowOf.t (fun b => some (impl_isRowOf.mk b)) v0 v1 := by kernel_rfl
theorem impl_isRowOf.eq (v0 : List Int) (v1 : Int) {b : Bool} (h : impl_isRowOf.t some v0 v1 = some b) : impl_isRowOf v0 v1 = some b := tOf_intro impl_isRowOf.un (fun _ => by kernel_rfl) (vlim_fn (callT_le E tab) rfl rfl rfl ((impl_isRowOf.k v0 v1).trans ((by unfold impl_isRowOf.t; repeat' first | exact Sub.ret | exact Sub.none | exact Sub.loop | apply Sub.cond | (apply Sub.bind; intro _) : Sub impl_isRowOf.mk _ _) b h)))
noncomputable def impl_GoodRow.t {γ : Type} (ret : (Bool) → Option γ) (v0 : List Int) : Option γ :=
 bif decide ((↑v0.length : Int) ≤ (6 : Int)) then
  (xi04 (v0)).bind fun (r0 : Bool) =>
  ret (r0)
 else
  ret (Bool.false)
theorem impl_GoodRow.k (v0 : List Int) : topL E (callT E tab) 114 Try.f114 (impl_GoodRow.c v0) = impl_GoodRow.t (fun b => some (impl_GoodRow.mk b)) v0 := by kernel_rfl
theorem impl_GoodRow.eq (v0 : List Int) {b : Bool} (h : impl_GoodRow.t some v0 = some b) : impl_GoodRow v0 = some b := tOf_intro impl_GoodRow.un (fun _ => by kernel_rfl) (vlim_fn (callT_le E tab) rfl rfl rfl ((impl_GoodRow.k v0).trans ((by unfold impl_GoodRow.t; repeat' first | exact Sub.ret | exact Sub.none | exact Sub.loop | apply Sub.cond | (apply Sub.bind; intro _) : Sub impl_GoodRow.mk _ _) b h)))
noncomputable def xi04.t {γ : Type} (ret : (Bool) → Option γ) (v0 : List Int) : Option γ :=
 (xs00 (v0)).bind fun (r0 : Bool) =>
 ret (!r0)
theorem xi04.k (v0 : List Int) : topL E (callT E tab) 62 Try.f62 (xi04.c v0) = xi04.t (fun b => some (xi04.mk b)) v0 := by kernel_rfl
theorem xi04.eq (v0 : List Int) {b : Bool} (h : xi04.t some v0 = some b) : xi04 v0 = some b := tOf_intro xi04.un (fun _ => by kernel_rfl) (vlim_fn (callT_le E tab) rfl rfl rfl ((xi04.k v0).trans ((by unfold xi04.t; repeat' first | exact Sub.ret | exact Sub.none | exact Sub.loop | apply Sub.cond | (apply Sub.bind; intro _) : Sub xi04.mk _ _) b h)))
noncomputable def xs00.t {γ : Type} (ret : (Bool) → Option γ) (v0 : List Int) : Option γ :=
 (xs02 (v0)).bind fun (r0 : Int) =>
 ret (decide (r0 ≥ (0 : Int)))
theorem xs00.k (v0 : List Int) : topL E (callT E tab) 95 Try.f95 (xs00.c v0) = xs00.t (fun b => some (xs00.mk b)) v0 := by kernel_rfl
theorem xs00.eq (v0 : List Int) {b : Bool} (h : xs00.t some v0 = some b) : xs00 v0 = some b := tOf_intro xs00.un (fun _ => by kernel_rfl) (vlim_fn (callT_le E tab) rfl rfl rfl ((xs00.k v0).trans ((by unfold xs00.t; repeat' first | exact Sub.ret | exact Sub.none | exact Sub.loop | apply Sub.cond | (apply Sub.bind; intro _) : Sub xs00.mk _ _) b h)))
noncomputable def xs02.q2 (v0 : List Int) (v1 : Int) (v2 : Int) : Option R := loopAtL E (callT E tab) 117 Try.f117 2 [.r, .l, .r, .b] (vc (.d .fro (.sl (.int .i64)) v0) :: vc (.fn 96 [.rp [.fn 79 []] 0]) :: nn 5 (vc (iL v1) :: vc (iL v2) :: nn 10 ([])))
noncomputable def xs02.l2 (v0 : List Int) (v1 : Int) (v2 : Int) : Option (Int) := tOf xs02.mk (xs02.q2 v0 v1 v2)
noncomputable def xs02.t {γ : Type} (ret : (Int) → Option γ) (lp2 : (List Int) → Int → Int → Option γ) (v0 : List Int) : Option γ :=
 lp2 (v0) ((↑v0.length : Int)) ((0 : Int))
noncomputable def xs02.t2 {γ : Type} (ret : (Int) → Option γ) (lp2 : (List Int) → Int → Int → Option γ) (v0 : List Int) (v1 : Int) (v2 : Int) : Option γ :=
 bif decide (v2 < v1) then
  bif decide ((0 : Int) ≤ v2) then
   bif decide (v2.toNat < v0.length) then
    (xi03 (v0.getD v2.toNat (0 : Int))).bind fun (r0 : Bool) =>
    bif r0 then
     ret (v2)
    else
     lp2 (v0) (v1) (IntKind.i64.wrap (v2 + (1 : Int)))
   else
    none
  else
   none
 else
  ret ((-1 : Int))
theorem xs02.k (v0 : List Int) : topL E (callT E tab) 117 Try.f117 (xs02.c v0) = xs02.t (fun b => some (xs02.mk b)) xs02.q2 v0 := by kernel_rfl
theorem xs02.k2 (v0 : List Int) (v1 : Int) (v2 : Int) : roundL E (callT E tab) 117 Try.f117 2 [.r, .l, .r, .b] (vc (.d .fro (.sl (.int .i64)) v0) :: vc (.fn 96 [.rp [.fn 79 []] 0]) :: nn 5 (vc (iL v1) :: vc (iL v2) :: nn 10 ([]))) = xs02.t2 (fun b => some (xs02.mk b)) xs02.q2 v0 v1 v2 := by kernel_rfl
theorem xs02.eq (v0 : List Int) {b : Int} (h : xs02.t some xs02.l2 v0 = some b) : xs02 v0 = some b := tOf_intro xs02.un (fun _ => by kernel_rfl) (vlim_fn (callT_le E tab) rfl rfl rfl ((xs02.k v0).trans ((by unfold xs02.t; repeat' first | exact Sub.ret | exact Sub.none | exact Sub.loop | apply Sub.cond | (apply Sub.bind; intro _) : Sub xs02.mk _ _) b h)))
theorem xs02.eq2 (v0 : List Int) (v1 : Int) (v2 : Int) {b : Int} (h : xs02.t2 some xs02.l2 v0 v1 v2 = some b) : xs02.l2 v0 v1 v2 = some b := tOf_intro xs02.un (fun _ => by kernel_rfl) (loopAtL_step ((xs02.k2 v0 v1 v2).trans ((by unfold xs02.t2; repeat' first | exact Sub.ret | exact Sub.none | exact Sub.loop | apply Sub.cond | (apply Sub.bind; intro _) : Sub xs02.mk _ _) b h)))
noncomputable def xi03.t {γ : Type} (ret : (Bool) → Option γ) (v0 : Int) : Option γ :=
 (impl_isCell (v0)).bind fun (r0 : Bool) =>
 ret (!r0)
theorem xi03.k (v0 : Int) : topL E (callT E tab) 96 Try.f96 (xi03.c v0) = xi03.t (fun b => some (xi03.mk b)) v0 := by kernel_rfl
theorem xi03.eq (v0 : Int) {b : Bool} (h : xi03.t some v0 = some b) : xi03 v0 = some b := tOf_intro xi03.un (fun _ => by kernel_rfl) (vlim_fn (callT_le E tab) rfl rfl rfl ((xi03.k v0).trans ((by unfold xi03.t; repeat' first | exact Sub.ret | exact Sub.none | exact Sub.loop | apply Sub.cond | (apply Sub.bind; intro _) : Sub xi03.mk _ _) b h)))
noncomputable def impl_isCell.t {γ : Type} (ret : (Bool) → Option γ) (v0 : Int) : Option γ :=
 (impl_within (v0) ((-100000 : Int)) ((100000 : Int))).bind fun (r0 : Bool) =>
 ret (r0)
theorem impl_isCell.k (v0 : Int) : topL E (callT E tab) 79 Try.f79 (impl_isCell.c v0) = impl_isCell.t (fun b => some (impl_isCell.mk b)) v0 := by kernel_rfl
theorem impl_isCell.eq (v0 : Int) {b : Bool} (h : impl_isCell.t some v0 = some b) : impl_isCell v0 = some b := tOf_intro impl_isCell.un (fun _ => by kernel_rfl) (vlim_fn (callT_le E tab) rfl rfl rfl ((impl_isCell.k v0).trans ((by unfold impl_isCell.t; repeat' first | exact Sub.ret | exact Sub.none | exact Sub.loop | apply Sub.cond | (apply Sub.bind; intro _) : Sub impl_isCell.mk _ _) b h)))
noncomputable def impl_within.t {γ : Type} (ret : (Bool) → Option γ) (v0 : Int) (v1 : Int) (v2 : Int) : Option γ :=
 bif decide (v1 ≤ v0) then
  ret (decide (v0 ≤ v2))
 else
  ret (Bool.false)
theorem impl_within.k (v0 : Int) (v1 : Int) (v2 : Int) : topL E (callT E tab) 70 Try.f70 (impl_within.c v0 v1 v2) = impl_within.t (fun b => some (impl_within.mk b)) v0 v1 v2 := by kernel_rfl
theorem impl_within.eq (v0 : Int) (v1 : Int) (v2 : Int) {b : Bool} (h : impl_within.t some v0 v1 v2 = some b) : impl_within v0 v1 v2 = some b := tOf_intro impl_within.un (fun _ => by kernel_rfl) (vlim_fn (callT_le E tab) rfl rfl rfl ((impl_within.k v0 v1 v2).trans ((by unfold impl_within.t; repeat' first | exact Sub.ret | exact Sub.none | exact Sub.loop | apply Sub.cond | (apply Sub.bind; intro _) : Sub impl_within.mk _ _) b h)))
noncomputable def impl_isSum.t {γ : Type} (ret : (Bool) → Option γ) (v0 : Int) : Option γ :=
 (impl_within (v0) ((-100000000000000 : Int)) ((100000000000000 : Int))).bind fun (r0 : Bool) =>
 ret (r0)
theorem impl_isSum.k (v0 : Int) : topL E (callT E tab) 77 Try.f77 (impl_isSum.c v0) = impl_isSum.t (fun b => some (impl_isSum.mk b)) v0 := by kernel_rfl
theorem impl_isSum.eq (v0 : Int) {b : Bool} (h : impl_isSum.t some v0 = some b) : impl_isSum v0 = some b := tOf_intro impl_isSum.un (fun _ => by kernel_rfl) (vlim_fn (callT_le E tab) rfl rfl rfl ((impl_isSum.k v0).trans ((by unfold impl_isSum.t; repeat' first | exact Sub.ret | exact Sub.none | exact Sub.loop | apply Sub.cond | (apply Sub.bind; intro _) : Sub impl_isSum.mk _ _) b h)))
noncomputable def impl_Row_own.t {γ : Type} (ret : ((List Int)) → Option γ) (v0 : List Int) : Option γ :=
 (xs07 (v0)).bind fun (r0 : (List Int)) =>
 ret (r0)
theorem impl_Row_own.k (v0 : List Int) : topL E (callT E tab) 53 Try.f53 (impl_Row_own.c v0) = impl_Row_own.t (fun b => some (impl_Row_own.mk b)) v0 := by kernel_rfl
theorem impl_Row_own.eq (v0 : List Int) {b : (List Int)} (h : impl_Row_own.t some v0 = some b) : impl_Row_own v0 = some b := tOf_intro impl_Row_own.un (fun _ => by kernel_rfl) (vlim_fn (callT_le E tab) rfl rfl rfl ((impl_Row_own.k v0).trans ((by unfold impl_Row_own.t; repeat' first | exact Sub.ret | exact Sub.none | exact Sub.loop | apply Sub.cond | (apply Sub.bind; intro _) : Sub impl_Row_own.mk _ _) b h)))
noncomputable def xs07.t {γ : Type} (ret : ((List Int)) → Option γ) (v0 : List Int) : Option γ :=
 bif decide (v0.length ≤ (4294967296 : Nat)) then
  ret (v0)
 else
  none
theorem xs07.k (v0 : List Int) : extOf 87 (xs07.c v0) = xs07.t (fun b => some (xs07.mk b)) v0 := by kernel_rfl
theorem xs07.eq (v0 : List Int) {b : (List Int)} (h : xs07.t some v0 = some b) : xs07 v0 = some b := tOf_intro xs07.un (fun _ => by kernel_rfl) (vlim_ext (g := extOf 87) rfl ((xs07.k v0).trans ((by unfold xs07.t; repeat' first | exact Sub.ret | exact Sub.none | exact Sub.loop | apply Sub.cond | (apply Sub.bind; intro _) : Sub xs07.mk _ _) b h)))
noncomputable def laws_eqGroup.t {γ : Type} (ret : (Bool) → Option γ) (v0 : List Int) (v1 : Int) (v2 : Int) (v3 : List Int) (v4 : Int) (v5 : Int) : Option γ :=
 (laws_eqRow (v0) (v3)).bind fun (r0 : Bool) =>
 bif !r0 then
  ret (Bool.false)
 else
  bif v1 != v4 then
   ret (Bool.false)
  else
   bif v2 != v5 then
    ret (Bool.false)
   else
    ret (Bool.true)
theorem laws_eqGroup.k (v0 : List Int) (v1 : Int) (v2 : Int) (v3 : List Int) (v4 : Int) (v5 : Int) : topL E (callT E tab) 14 Try.f14 (laws_eqGroup.c v0 v1 v2 v3 v4 v5) = laws_eqGroup.t (fun b => some (laws_eqGroup.mk b)) v0 v1 v2 v3 v4 v5 := by kernel_rfl
theorem laws_eqGroup.eq (v0 : List Int) (v1 : Int) (v2 : Int) (v3 : List Int) (v4 : Int) (v5 : Int) {b : Bool} (h : laws_eqGroup.t some v0 v1 v2 v3 v4 v5 = some b) : laws_eqGroup v0 v1 v2 v3 v4 v5 = some b := tOf_intro laws_eqGroup.un (fun _ => by kernel_rfl) (vlim_fn (callT_le E tab) rfl rfl rfl ((laws_eqGroup.k v0 v1 v2 v3 v4 v5).trans ((by unfold laws_eqGroup.t; repeat' first | exact Sub.ret | exact Sub.none | exact Sub.loop | apply Sub.cond | (apply Sub.bind; intro _) : Sub laws_eqGroup.mk _ _) b h)))
noncomputable def laws_eqRow.t {γ : Type} (ret : (Bool) → Option γ) (v0 : List Int) (v1 : List Int) : Option γ :=
 (laws_eqIntS (v0) (v1)).bind fun (r0 : Bool) =>
 bif !r0 then
  ret (Bool.false)
 else
  ret (Bool.true)
theorem laws_eqRow.k (v0 : List Int) (v1 : List Int) : topL E (callT E tab) 16 Try.f16 (laws_eqRow.c v0 v1) = laws_eqRow.t (fun b => some (laws_eqRow.mk b)) v0 v1 := by kernel_rfl
theorem laws_eqRow.eq (v0 : List Int) (v1 : List Int) {b : Bool} (h : laws_eqRow.t some v0 v1 = some b) : laws_eqRow v0 v1 = some b := tOf_intro laws_eqRow.un (fun _ => by kernel_rfl) (vlim_fn (callT_le E tab) rfl rfl rfl ((laws_eqRow.k v0 v1).trans ((by unfold laws_eqRow.t; repeat' first | exact Sub.ret | exact Sub.none | exact Sub.loop | apply Sub.cond | (apply Sub.bind; intro _) : Sub laws_eqRow.mk _ _) b h)))
noncomputable def laws_eqIntS.q4 (v0 : List Int) (v1 : List Int) (v2 : Int) : Option R := loopAtL E (callT E tab) 27 Try.f27 2 [.r, .r, .l, .r, .b] (vc (.d .fro (.sl (.int .i64)) v0) :: vc (.d .fro (.sl (.int .i64)) v1) :: nn 3 (vc (iL v2) :: nn 20 ([])))
noncomputable def laws_eqIntS.l4 (v0 : List Int) (v1 : List Int) (v2 : Int) : Option (Bool) := tOf laws_eqIntS.mk (laws_eqIntS.q4 v0 v1 v2)
noncomputable def laws_eqIntS.t {γ : Type} (ret : (Bool) → Option γ) (lp4 : (List Int) → (List Int) → Int → Option γ) (v0 : List Int) (v1 : List Int) : Option γ :=
 bif (↑v0.length : Int) != (↑v1.length : Int) then
  ret (Bool.false)
 else
  lp4 (v0) (v1) ((0 : Int))
noncomputable def laws_eqIntS.t4 {γ : Type} (ret : (Bool) → Option γ) (lp4 : (List Int) → (List Int) → Int → Option γ) (v0 : List Int) (v1 : List Int) (v2 : Int) : Option γ :=
 bif decide (v2 < (↑v0.length : Int)) then
  bif decide ((0 : Int) ≤ v2) then
   bif decide (v2.toNat < v0.length) then
    bif decide ((0 : Int) ≤ v2) then
     bif decide (v2.toNat < v1.length) then
      bif v0.getD v2.toNat (0 : Int) != v1.getD v2.toNat (0 : Int) then
       ret (Bool.false)
      else
       lp4 (v0) (v1) (IntKind.i64.wrap (v2 + (1 : Int)))
     else
      none
    else
     none
   else
    none
  else
   none
 else
  ret (Bool.true)
theorem laws_eqIntS.k (v0 : List Int) (v1 : List Int) : topL E (callT E tab) 27 Try.f27 (laws_eqIntS.c v0 v1) = laws_eqIntS.t (fun b => some (laws_eqIntS.mk b)) laws_eqIntS.q4 v0 v1 := by kernel_rfl
theorem laws_eqIntS.k4 (v0 : List Int) (v1 : List Int) (v2 : Int) : roundL E (callT E tab) 27 Try.f27 2 [.r, .r, .l, .r, .b] (vc (.d .fro (.sl (.int .i64)) v0) :: vc (.d .fro (.sl (.int .i64)) v1) :: nn 3 (vc (iL v2) :: nn 20 ([]))) = laws_eqIntS.t4 (fun b => some (laws_eqIntS.mk b)) laws_eqIntS.q4 v0 v1 v2 := by kernel_rfl
theorem laws_eqIntS.eq (v0 : List Int) (v1 : List Int) {b : Bool} (h : laws_eqIntS.t some laws_eqIntS.l4 v0 v1 = some b) : laws_eqIntS v0 v1 = some b := tOf_intro laws_eqIntS.un (fun _ => by kernel_rfl) (vlim_fn (callT_le E tab) rfl rfl rfl ((laws_eqIntS.k v0 v1).trans ((by unfold laws_eqIntS.t; repeat' first | exact Sub.ret | exact Sub.none | exact Sub.loop | apply Sub.cond | (apply Sub.bind; intro _) : Sub laws_eqIntS.mk _ _) b h)))
theorem laws_eqIntS.eq4 (v0 : List Int) (v1 : List Int) (v2 : Int) {b : Bool} (h : laws_eqIntS.t4 some laws_eqIntS.l4 v0 v1 v2 = some b) : laws_eqIntS.l4 v0 v1 v2 = some b := tOf_intro laws_eqIntS.un (fun _ => by kernel_rfl) (loopAtL_step ((laws_eqIntS.k4 v0 v1 v2).trans ((by unfold laws_eqIntS.t4; repeat' first | exact Sub.ret | exact Sub.none | exact Sub.loop | apply Sub.cond | (apply Sub.bind; intro _) : Sub laws_eqIntS.mk _ _) b h)))
noncomputable def laws_eqGroupS.q4 (v0 : List (List Int × Int × Int)) (v1 : List (List Int × Int × Int)) (v2 : Int) : Option R := loopAtL E (callT E tab) 15 Try.f15 2 [.r, .r, .l, .r, .b] (vc (.d .fro (.sl (.pair (.sl (.int .i64)) (.pair (.int .i64) (.int .i64)))) v0) :: vc (.d .fro (.sl (.pair (.sl (.int .i64)) (.pair (.int .i64) (.int .i64)))) v1) :: nn 3 (vc (iL v2) :: nn 21 ([])))
noncomputable def laws_eqGroupS.l4 (v0 : List (List Int × Int × Int)) (v1 : List (List Int × Int × Int)) (v2 : Int) : Option (Bool) := tOf laws_eqGroupS.mk (laws_eqGroupS.q4 v0 v1 v2)
noncomputable def laws_eqGroupS.t {γ : Type} (ret : (Bool) → Option γ) (lp4 : (List (List Int × Int × Int)) → (List (List Int × Int × Int)) → Int → Option γ) (v0 : List (List Int × Int × Int)) (v1 : List (List Int × Int × Int)) : Option γ :=
 bif (↑v0.length : Int) != (↑v1.length : Int) then
  ret (Bool.false)
 else
  lp4 (v0) (v1) ((0 : Int))
noncomputable def laws_eqGroupS.t4 {γ : Type} (ret : (Bool) → Option γ) (lp4 : (List (List Int × Int × Int)) → (List (List Int × Int × Int)) → Int → Option γ) (v0 : List (List Int × Int × Int)) (v1 : List (List Int × Int × Int)) (v2 : Int) : Option γ :=
 bif decide (v2 < (↑v0.length : Int)) then
  bif decide ((0 : Int) ≤ v2) then
   bif decide (v2.toNat < v0.length) then
    bif decide ((0 : Int) ≤ v2) then
     bif decide (v2.toNat < v1.length) then
      (laws_eqGroup ((v0.getD v2.toNat ([], (0 : Int), (0 : Int))).fst) ((v0.getD v2.toNat ([], (0 : Int), (0 : Int))).snd.fst) ((v0.getD v2.toNat ([], (0 : Int), (0 : Int))).snd.snd) ((v1.getD v2.toNat ([], (0 : Int), (0 : Int))).fst) ((v1.getD v2.toNat ([], (0 : Int), (0 : Int))).snd.fst) ((v1.getD v2.toNat ([], (0 : Int), (0 : Int))).snd.snd)).bind fun (r0 : Bool) =>
      bif !r0 then
       ret (Bool.false)
      else
       lp4 (v0) (v1) (IntKind.i64.wrap (v2 + (1 : Int)))
     else
      none
    else
     none
   else
    none
  else
   none
 else
  ret (Bool.true)
theorem laws_eqGroupS.k (v0 : List (List Int × Int × Int)) (v1 : List (List Int × Int × Int)) : topL E (callT E tab) 15 Try.f15 (laws_eqGroupS.c v0 v1) = laws_eqGroupS.t (fun b => some (laws_eqGroupS.mk b)) laws_eqGroupS.q4 v0 v1 := by kernel_rfl
theorem laws_eqGroupS.k4 (v0 : List (List Int × Int × Int)) (v1 : List (List Int × Int × Int)) (v2 : Int) : roundL E (callT E tab) 15 Try.f15 2 [.r, .r, .l, .r, .b] (vc (.d .fro (.sl (.pair (.sl (.int .i64)) (.pair (.int .i64) (.int .i64)))) v0) :: vc (.d .fro (.sl (.pair (.sl (.int .i64)) (.pair (.int .i64) (.int .i64)))) v1) :: nn 3 (vc (iL v2) :: nn 21 ([]))) = laws_eqGroupS.t4 (fun b => some (laws_eqGroupS.mk b)) laws_eqGroupS.q4 v0 v1 v2 := by kernel_rfl
theorem laws_eqGroupS.eq (v0 : List (List Int × Int × Int)) (v1 : List (List Int × Int × Int)) {b : Bool} (h : laws_eqGroupS.t some laws_eqGroupS.l4 v0 v1 = some b) : laws_eqGroupS v0 v1 = some b := tOf_intro laws_eqGroupS.un (fun _ => by kernel_rfl) (vlim_fn (callT_le E tab) rfl rfl rfl ((laws_eqGroupS.k v0 v1).trans ((by unfold laws_eqGroupS.t; repeat' first | exact Sub.ret | exact Sub.none | exact Sub.loop | apply Sub.cond | (apply Sub.bind; intro _) : Sub laws_eqGroupS.mk _ _) b h)))
theorem laws_eqGroupS.eq4 (v0 : List (List Int × Int × Int)) (v1 : List (List Int × Int × Int)) (v2 : Int) {b : Bool} (h : laws_eqGroupS.t4 some laws_eqGroupS.l4 v0 v1 v2 = some b) : laws_eqGroupS.l4 v0 v1 v2 = some b := tOf_intro laws_eqGroupS.un (fun _ => by kernel_rfl) (loopAtL_step ((laws_eqGroupS.k4 v0 v1 v2).trans ((by unfold laws_eqGroupS.t4; repeat' first | exact Sub.ret | exact Sub.none | exact Sub.loop | apply Sub.cond | (apply Sub.bind; intro _) : Sub laws_eqGroupS.mk _ _) b h)))
end GoV

/- Equations of the program's functions (printed by wip/tools/emit.py). -/
namespace GoV
open Go Go.Proofs
set_option maxRecDepth 100000

noncomputable def xl08.q2 (v0 : List (List Int × Int × Int)) (v1 : Int) (v2 : Int) : Option R := loopAtL E (callT E tab) 17 Try.f17 2 [.r, .l, .r, .b] (⟨(.val .one), [.d .deep (.sl (.pair (.sl (.int .i64)) (.pair (.int .i64) (.int .i64)))) v0], true, false, false, 0, 0⟩ :: vc (iL v1) :: nn 3 (vc (iL v2) :: nn 29 ([])))
noncomputable def xl08.l2 (v0 : List (List Int × Int × Int)) (v1 : Int) (v2 : Int) : Option (Int × (List (List Int × Int × Int))) := tOf xl08.mk (xl08.q2 v0 v1 v2)
noncomputable def xl08.t {γ : Type} (ret : (Int × (List (List Int × Int × Int))) → Option γ) (lp2 : (List (List Int × Int × Int)) → Int → Int → Option γ) (v0 : List (List Int × Int × Int)) (v1 : Int) : Option γ :=
 lp2 (v0) (v1) ((0 : Int))
noncomputable def xl08.t2 {γ : Type} (ret : (Int × (List (List Int × Int × Int))) → Option γ) (lp2 : (List (List Int × Int × Int)) → Int → Int → Option γ) (v0 : List (List Int × Int × Int)) (v1 : Int) (v2 : Int) : Option γ :=
 bif decide (v2 < (↑v0.length : Int)) then
  bif decide ((0 : Int) ≤ v2) then
   bif decide (v2.toNat < v0.length) then
    bif decide (v2.toNat < v0.length) then
     bif decide (v2.toNat < v0.length) then
      (laws_markIntS_83f ((v0.getD v2.toNat ([], (0 : Int), (0 : Int))).fst) (v1)).bind fun (r0 : Int × (List Int)) =>
      bif decide (v2.toNat = v2.toNat) &&   (decide ((0 : Nat) + (0 : Nat) + (0 : Nat) = (0 : Nat) + (0 : Nat) + (0 : Nat)) &&     decide ((1 : Nat) + ((1 : Nat) + (1 : Nat)) = (1 : Nat) + ((1 : Nat) + (1 : Nat)))) then
       bif decide (v2.toNat < v0.length) then
        bif decide ((0 : Int) ≤ v2) then
         bif decide (v2.toNat < (v0.set v2.toNat (r0.snd, (v0.getD v2.toNat ([], (0 : Int), (0 : Int))).snd)).length) then
          bif decide (v2.toNat < (v0.set v2.toNat (r0.snd, (v0.getD v2.toNat ([], (0 : Int), (0 : Int))).snd)).length) then
           bif decide ((0 : Int) ≤ v2) then
            bif decide   (v2.toNat <     ((v0.set v2.toNat (r0.snd, (v0.getD v2.toNat ([], (0 : Int), (0 : Int))).snd)).set v2.toNat         (((v0.set v2.toNat (r0.snd, (v0.getD v2.toNat ([], (0 : Int), (0 : Int))).snd)).getD v2.toNat               ([], (0 : Int), (0 : Int))).fst,           r0.fst,           ((v0.set v2.toNat (r0.snd, (v0.getD v2.toNat ([], (0 : Int), (0 : Int))).snd)).getD v2.toNat                 ([], (0 : Int), (0 : Int))).snd.snd)).length) then
             bif decide   (v2.toNat <     ((v0.set v2.toNat (r0.snd, (v0.getD v2.toNat ([], (0 : Int), (0 : Int))).snd)).set v2.toNat         (((v0.set v2.toNat (r0.snd, (v0.getD v2.toNat ([], (0 : Int), (0 : Int))).snd)).getD v2.toNat               ([], (0 : Int), (0 : Int))).fst,           r0.fst,           ((v0.set v2.toNat (r0.snd, (v0.getD v2.toNat ([], (0 : Int), (0 : Int))).snd)).getD v2.toNat                 ([], (0 : Int), (0 : Int))).snd.snd)).length) then
              lp2 (((v0.set v2.toNat (r0.snd, (v0.getD v2.toNat ([], (0 : Int), (0 : Int))).snd)).set v2.toNat       (((v0.set v2.toNat (r0.snd, (v0.getD v2.toNat ([], (0 : Int), (0 : Int))).snd)).getD v2.toNat             ([], (0 : Int), (0 : Int))).fst,         r0.fst,         ((v0.set v2.toNat (r0.snd, (v0.getD v2.toNat ([], (0 : Int), (0 : Int))).snd)).getD v2.toNat               ([], (0 : Int), (0 : Int))).snd.snd)).set   v2.toNat   ((((v0.set v2.toNat (r0.snd, (v0.getD v2.toNat ([], (0 : Int), (0 : Int))).snd)).set v2.toNat             (((v0.set v2.toNat (r0.snd, (v0.getD v2.toNat ([], (0 : Int), (0 : Int))).snd)).getD v2.toNat                   ([], (0 : Int), (0 : Int))).fst,               r0.fst,               ((v0.set v2.toNat (r0.snd, (v0.getD v2.toNat ([], (0 : Int), (0 : Int))).snd)).getD v2.toNat                     ([], (0 : Int), (0 : Int))).snd.snd)).getD         v2.toNat ([], (0 : Int), (0 : Int))).fst,     (((v0.set v2.toNat (r0.snd, (v0.getD v2.toNat ([], (0 : Int), (0 : Int))).snd)).set v2.toNat               (((v0.set v2.toNat (r0.snd, (v0.getD v2.toNat ([], (0 : Int), (0 : Int))).snd)).getD v2.toNat                     ([], (0 : Int), (0 : Int))).fst,                 r0.fst,                 ((v0.set v2.toNat (r0.snd, (v0.getD v2.toNat ([], (0 : Int), (0 : Int))).snd)).getD v2.toNat                       ([], (0 : Int), (0 : Int))).snd.snd)).getD           v2.toNat ([], (0 : Int), (0 : Int))).snd.fst,     IntKind.i64.wrap (r0.fst + (1 : Int)))) (IntKind.i64.wrap (IntKind.i64.wrap (r0.fst + (1 : Int)) + (1 : Int))) (IntKind.i64.wrap (v2 + (1 : Int)))
             else
              none
            else
             none
           else
            none
          else
           none
         else
          none
        else
         none
       else
        none
      else
       none
     else
      none
    else
     none
   else
    none
  else
   none
 else
  ret (v1, v0)
theorem xl08.k (v0 : List (List Int × Int × Int)) (v1 : Int) : topL E (callT E tab) 17 Try.f17 (xl08.c v0 v1) = xl08.t (fun b => some (xl08.mk b)) xl08.q2 v0 v1 := by kernel_rfl
theorem xl08.k2 (v0 : List (List Int × Int × Int)) (v1 : Int) (v2 : Int) : roundL E (callT E tab) 17 Try.f17 2 [.r, .l, .r, .b] (⟨(.val .one), [.d .deep (.sl (.pair (.sl (.int .i64)) (.pair (.int .i64) (.int .i64)))) v0], true, false, false, 0, 0⟩ :: vc (iL v1) :: nn 3 (vc (iL v2) :: nn 29 ([]))) = xl08.t2 (fun b => some (xl08.mk b)) xl08.q2 v0 v1 v2 := by kernel_rfl
theorem xl08.eq (v0 : List (List Int × Int × Int)) (v1 : Int) {b : Int × (List (List Int × Int × Int))} (h : xl08.t some xl08.l2 v0 v1 = some b) : xl08 v0 v1 = some b := tOf_intro xl08.un (fun _ => by kernel_rfl) (vlim_fn (callT_le E tab) rfl rfl rfl ((xl08.k v0 v1).trans ((by unfold xl08.t; repeat' first | exact Sub.ret | exact Sub.none | exact Sub.loop | apply Sub.cond | (apply Sub.bind; intro _) : Sub xl08.mk _ _) b h)))
theorem xl08.eq2 (v0 : List (List Int × Int × Int)) (v1 : Int) (v2 : Int) {b : Int × (List (List Int × Int × Int))} (h : xl08.t2 some xl08.l2 v0 v1 v2 = some b) : xl08.l2 v0 v1 v2 = some b := tOf_intro xl08.un (fun _ => by kernel_rfl) (loopAtL_step ((xl08.k2 v0 v1 v2).trans ((by unfold xl08.t2; repeat' first | exact Sub.ret | exact Sub.none | exact Sub.loop | apply Sub.cond | (apply Sub.bind; intro _) : Sub xl08.mk _ _) b h)))
noncomputable def laws_markIntS_83f.q2 (v0 : List Int) (v1 : Int) (v2 : Int) : Option R := loopAtL E (callT E tab) 28 Try.f28 2 [.r, .l, .r, .b] (⟨(.val .one), [.d .deep (.sl (.int .i64)) v0], true, false, false, 0, 0⟩ :: vc (iL v1) :: nn 3 (vc (iL v2) :: nn 13 ([])))
noncomputable def laws_markIntS_83f.l2 (v0 : List Int) (v1 : Int) (v2 : Int) : Option (Int × (List Int)) := tOf laws_markIntS_83f.mk (laws_markIntS_83f.q2 v0 v1 v2)
noncomputable def laws_markIntS_83f.t {γ : Type} (ret : (Int × (List Int)) → Option γ) (lp2 : (List Int) → Int → Int → Option γ) (v0 : List Int) (v1 : Int) : Option γ :=
 lp2 (v0) (v1) ((0 : Int))
noncomputable def laws_markIntS_83f.t2 {γ : Type} (ret : (Int × (List Int)) → Option γ) (lp2 : (List Int) → Int → Int → Option γ) (v0 : List Int) (v1 : Int) (v2 : Int) : Option γ :=
 bif decide (v2 < (↑v0.length : Int)) then
  bif decide ((0 : Int) ≤ v2) then
   bif decide (v2.toNat < v0.length) then
    bif decide (v2.toNat < v0.length) then
     lp2 (v0.set v2.toNat v1) (IntKind.i64.wrap (v1 + (1 : Int))) (IntKind.i64.wrap (v2 + (1 : Int)))
    else
     none
   else
    none
  else
   none
 else
  ret (v1, v0)
theorem laws_markIntS_83f.k (v0 : List Int) (v1 : Int) : topL E (callT E tab) 28 Try.f28 (laws_markIntS_83f.c v0 v1) = laws_markIntS_83f.t (fun b => some (laws_markIntS_83f.mk b)) laws_markIntS_83f.q2 v0 v1 := by kernel_rfl
theorem laws_markIntS_83f.k2 (v0 : List Int) (v1 : Int) (v2 : Int) : roundL E (callT E tab) 28 Try.f28 2 [.r, .l, .r, .b] (⟨(.val .one), [.d .deep (.sl (.int .i64)) v0], true, false, false, 0, 0⟩ :: vc (iL v1) :: nn 3 (vc (iL v2) :: nn 13 ([]))) = laws_markIntS_83f.t2 (fun b => some (laws_markIntS_83f.mk b)) laws_markIntS_83f.q2 v0 v1 v2 := by kernel_rfl
theorem laws_markIntS_83f.eq (v0 : List Int) (v1 : Int) {b : Int × (List Int)} (h : laws_markIntS_83f.t some laws_markIntS_83f.l2 v0 v1 = some b) : laws_markIntS_83f v0 v1 = some b := tOf_intro laws_markIntS_83f.un (fun _ => by kernel_rfl) (vlim_fn (callT_le E tab) rfl rfl rfl ((laws_markIntS_83f.k v0 v1).trans ((by unfold laws_markIntS_83f.t; repeat' first | exact Sub.ret | exact Sub.none | exact Sub.loop | apply Sub.cond | (apply Sub.bind; intro _) : Sub laws_markIntS_83f.mk _ _) b h)))
theorem laws_markIntS_83f.eq2 (v0 : List Int) (v1 : Int) (v2 : Int) {b : Int × (List Int)} (h : laws_markIntS_83f.t2 some laws_markIntS_83f.l2 v0 v1 v2 = some b) : laws_markIntS_83f.l2 v0 v1 v2 = some b := tOf_intro laws_markIntS_83f.un (fun _ => by kernel_rfl) (loopAtL_step ((laws_markIntS_83f.k2 v0 v1 v2).trans ((by unfold laws_markIntS_83f.t2; repeat' first | exact Sub.ret | exact Sub.none | exact Sub.loop | apply Sub.cond | (apply Sub.bind; intro _) : Sub laws_markIntS_83f.mk _ _) b h)))
noncomputable def laws_markRow_2a2.t {γ : Type} (ret : (Int × (List Int)) → Option γ) (v0 : List Int) (v1 : Int) : Option γ :=
 (laws_markIntS_83f (v0) (v1)).bind fun (r0 : Int × (List Int)) =>
 ret (r0.fst, r0.snd)
theorem laws_markRow_2a2.k (v0 : List Int) (v1 : Int) : topL E (callT E tab) 18 Try.f18 (laws_markRow_2a2.c v0 v1) = laws_markRow_2a2.t (fun b => some (laws_markRow_2a2.mk b)) v0 v1 := by kernel_rfl
theorem laws_markRow_2a2.eq (v0 : List Int) (v1 : Int) {b : Int × (List Int)} (h : laws_markRow_2a2.t some v0 v1 = some b) : laws_markRow_2a2 v0 v1 = some b := tOf_intro laws_markRow_2a2.un (fun _ => by kernel_rfl) (vlim_fn (callT_le E tab) rfl rfl rfl ((laws_markRow_2a2.k v0 v1).trans ((by unfold laws_markRow_2a2.t; repeat' first | exact Sub.ret | exact Sub.none | exact Sub.loop | apply Sub.cond | (apply Sub.bind; intro _) : Sub laws_markRow_2a2.mk _ _) b h)))
noncomputable def laws_markGroup_e42.t {γ : Type} (ret : (Int × (List Int) × Int × Int) → Option γ) (v0 : List Int) (v1 : Int) (v2 : Int) (v3 : Int) : Option γ :=
 (laws_markRow_2a2 (v0) (v3)).bind fun (r0 : Int × (List Int)) =>
 ret (r0.fst, r0.snd, v1, v2)
theorem laws_markGroup_e42.k (v0 : List Int) (v1 : Int) (v2 : Int) (v3 : Int) : topL E (callT E tab) 19 Try.f19 (laws_markGroup_e42.c v0 v1 v2 v3) = laws_markGroup_e42.t (fun b => some (laws_markGroup_e42.mk b)) v0 v1 v2 v3 := by kernel_rfl
theorem laws_markGroup_e42.eq (v0 : List Int) (v1 : Int) (v2 : Int) (v3 : Int) {b : Int × (List Int) × Int × Int} (h : laws_markGroup_e42.t some v0 v1 v2 v3 = some b) : laws_markGroup_e42 v0 v1 v2 v3 = some b := tOf_intro laws_markGroup_e42.un (fun _ => by kernel_rfl) (vlim_fn (callT_le E tab) rfl rfl rfl ((laws_markGroup_e42.k v0 v1 v2 v3).trans ((by unfold laws_markGroup_e42.t; repeat' first | exact Sub.ret | exact Sub.none | exact Sub.loop | apply Sub.cond | (apply Sub.bind; intro _) : Sub laws_markGroup_e42.mk _ _) b h)))
noncomputable def laws_heldGroup.t {γ : Type} (ret : (Int) → Option γ) (v0 : List Int) (v1 : Int) (v2 : Int) (v3 : Int) : Option γ :=
 (laws_heldRow (v0) (v3)).bind fun (r0 : Int) =>
 bif decide (r0 < (0 : Int)) then
  ret ((-1 : Int))
 else
  ret (r0)
theorem laws_heldGroup.k (v0 : List Int) (v1 : Int) (v2 : Int) (v3 : Int) : topL E (callT E tab) 20 Try.f20 (laws_heldGroup.c v0 v1 v2 v3) = laws_heldGroup.t (fun b => some (laws_heldGroup.mk b)) v0 v1 v2 v3 := by kernel_rfl
theorem laws_heldGroup.eq (v0 : List Int) (v1 : Int) (v2 : Int) (v3 : Int) {b : Int} (h : laws_heldGroup.t some v0 v1 v2 v3 = some b) : laws_heldGroup v0 v1 v2 v3 = some b := tOf_intro laws_heldGroup.un (fun _ => by kernel_rfl) (vlim_fn (callT_le E tab) rfl rfl rfl ((laws_heldGroup.k v0 v1 v2 v3).trans ((by unfold laws_heldGroup.t; repeat' first | exact Sub.ret | exact Sub.none | exact Sub.loop | apply Sub.cond | (apply Sub.bind; intro _) : Sub laws_heldGroup.mk _ _) b h)))
noncomputable def laws_heldRow.t {γ : Type} (ret : (Int) → Option γ) (v0 : List Int) (v1 : Int) : Option γ :=
 (laws_heldIntS (v0) (v1)).bind fun (r0 : Int) =>
 bif decide (r0 < (0 : Int)) then
  ret ((-1 : Int))
 else
  ret (r0)
theorem laws_heldRow.k (v0 : List Int) (v1 : Int) : topL E (callT E tab) 54 Try.f54 (laws_heldRow.c v0 v1) = laws_heldRow.t (fun b => some (laws_heldRow.mk b)) v0 v1 := by kernel_rfl
theorem laws_heldRow.eq (v0 : List Int) (v1 : Int) {b : Int} (h : laws_heldRow.t some v0 v1 = some b) : laws_heldRow v0 v1 = some b := tOf_intro laws_heldRow.un (fun _ => by kernel_rfl) (vlim_fn (callT_le E tab) rfl rfl rfl ((laws_heldRow.k v0 v1).trans ((by unfold laws_heldRow.t; repeat' first | exact Sub.ret | exact Sub.none | exact Sub.loop | apply Sub.cond | (apply Sub.bind; intro _) : Sub laws_heldRow.mk _ _) b h)))
noncomputable def laws_heldIntS.q2 (v0 : List Int) (v1 : Int) (v2 : Int) : Option R := loopAtL E (callT E tab) 59 Try.f59 2 [.r, .l, .r, .b] (vc (.d .fro (.sl (.int .i64)) v0) :: vc (iL v1) :: nn 3 (vc (iL v2) :: nn 15 ([])))
noncomputable def laws_heldIntS.l2 (v0 : List Int) (v1 : Int) (v2 : Int) : Option (Int) := tOf laws_heldIntS.mk (laws_heldIntS.q2 v0 v1 v2)
noncomputable def laws_heldIntS.t {γ : Type} (ret : (Int) → Option γ) (lp2 : (List Int) → Int → Int → Option γ) (v0 : List Int) (v1 : Int) : Option γ :=
 lp2 (v0) (v1) ((0 : Int))
noncomputable def laws_heldIntS.t2 {γ : Type} (ret : (Int) → Option γ) (lp2 : (List Int) → Int → Int → Option γ) (v0 : List Int) (v1 : Int) (v2 : Int) : Option γ :=
 bif decide (v2 < (↑v0.length : Int)) then
  bif decide ((0 : Int) ≤ v2) then
   bif decide (v2.toNat < v0.length) then
    bif v0.getD v2.toNat (0 : Int) != v1 then
     ret ((-1 : Int))
    else
     lp2 (v0) (IntKind.i64.wrap (v1 + (1 : Int))) (IntKind.i64.wrap (v2 + (1 : Int)))
   else
    none
  else
   none
 else
  ret (v1)
theorem laws_heldIntS.k (v0 : List Int) (v1 : Int) : topL E (callT E tab) 59 Try.f59 (laws_heldIntS.c v0 v1) = laws_heldIntS.t (fun b => some (laws_heldIntS.mk b)) laws_heldIntS.q2 v0 v1 := by kernel_rfl
theorem laws_heldIntS.k2 (v0 : List Int) (v1 : Int) (v2 : Int) : roundL E (callT E tab) 59 Try.f59 2 [.r, .l, .r, .b] (vc (.d .fro (.sl (.int .i64)) v0) :: vc (iL v1) :: nn 3 (vc (iL v2) :: nn 15 ([]))) = laws_heldIntS.t2 (fun b => some (laws_heldIntS.mk b)) laws_heldIntS.q2 v0 v1 v2 := by kernel_rfl
theorem laws_heldIntS.eq (v0 : List Int) (v1 : Int) {b : Int} (h : laws_heldIntS.t some laws_heldIntS.l2 v0 v1 = some b) : laws_heldIntS v0 v1 = some b := tOf_intro laws_heldIntS.un (fun _ => by kernel_rfl) (vlim_fn (callT_le E tab) rfl rfl rfl ((laws_heldIntS.k v0 v1).trans ((by unfold laws_heldIntS.t; repeat' first | exact Sub.ret | exact Sub.none | exact Sub.loop | apply Sub.cond | (apply Sub.bind; intro _) : Sub laws_heldIntS.mk _ _) b h)))
theorem laws_heldIntS.eq2 (v0 : List Int) (v1 : Int) (v2 : Int) {b : Int} (h : laws_heldIntS.t2 some laws_heldIntS.l2 v0 v1 v2 = some b) : laws_heldIntS.l2 v0 v1 v2 = some b := tOf_intro laws_heldIntS.un (fun _ => by kernel_rfl) (loopAtL_step ((laws_heldIntS.k2 v0 v1 v2).trans ((by unfold laws_heldIntS.t2; repeat' first | exact Sub.ret | exact Sub.none | exact Sub.loop | apply Sub.cond | (apply Sub.bind; intro _) : Sub laws_heldIntS.mk _ _) b h)))
end GoV
