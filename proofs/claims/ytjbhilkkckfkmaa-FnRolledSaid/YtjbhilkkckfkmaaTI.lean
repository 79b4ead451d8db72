/- A part of the proof of FnRolled: an interpreter of the model over plain data, its soundness, and what it makes of the functions that the statement reaches. Conditions: none beyond what the given statement itself says. -/
import Derived.Test.YtjbhilkkckfkmaaTH
set_option linter.unusedVariables false
set_option linter.unusedSimpArgs false
set_option linter.unnecessarySimpa false
set_option linter.unusedSectionVars false
/- The functions of the program, each told by what it answers in the end (printed by wip/tools/emit.py). -/
/-! Names of functions here: xs00 = slices_ContainsFunc_impl_Weighted_impl_Weighted_impl_areAll_impl_Weighted_1_impl_IsPlain_1, xs01 = slices_IndexFunc_impl_Weighted_impl_Weighted_impl_areAll_impl_Weighted_1_impl_IsPlain_1, xs02 = slices_ContainsFunc_int_int_impl_areAll_int_1_impl_areColumns_1, xs03 = slices_SortStableFunc_impl_Group_impl_Group_impl_grouped_1_254, xs04 = slices_IndexFunc_int_int_impl_areAll_int_1_impl_areColumns_1, xs05 = slices_ContainsFunc_int_int_impl_areAll_int_1_impl_RollUp_1, xs06 = slices_DeleteFunc_impl_Group_impl_Group_impl_grouped_2_d69, xs07 = slices_ContainsFunc_int_int_impl_areAll_int_1_impl_isCell, xs08 = slices_insertionSortCmpFunc_impl_Group_impl_grouped_1_e85, xs09 = slices_IndexFunc_int_int_impl_areAll_int_1_impl_RollUp_1, xs0a = slices_IndexFunc_int_int_impl_areAll_int_1_impl_isCell, xs0b = slices_IndexFunc_impl_Group_impl_Group_impl_grouped_2, xs0c = slices_swapRangeCmpFunc_impl_Group_impl_grouped_1_c25, xs0d = slices_symMergeCmpFunc_impl_Group_impl_grouped_1_c25, xs0e = slices_rotateCmpFunc_impl_Group_impl_grouped_1_c25, xs0f = slices_stableCmpFunc_impl_Group_impl_grouped_1_5fb, xi0g = impl_areAll_impl_Weighted_1_impl_IsPlain_1, xi0h = impl_areAll_impl_Weighted_impl_IsPlain_1, xs0i = slices_Grow_impl_Group_impl_Group_abe, xi0j = impl_areAll_int_1_impl_areColumns_1, xs0k = slices_Concat_impl_Group_impl_Group, xi0l = impl_areAll_int_impl_areColumns_1, xi0m = impl_areAll_int_1_impl_RollUp_1, xi0n = impl_areAll_int_1_impl_isCell, xi0o = impl_areAll_int_impl_RollUp_1, xi0p = impl_areAll_int_impl_isCell, xs0q = slices_Grow_int_int_c0f, xs0r = spec_l1Cur_weighted_f6e, xs0s = slices_Compare_int_int, xs0t = spec_DrawGroupsAsTable, xs0u = spec_l1Cur_columns_e61, xs0v = slices_Concat_int_int, xs0w = spec_l1Cur_groups_e61, xs0x = spec_l1Cur_weight_fee, xs0y = slices_Clone_int_int, xs0z = spec_l1Cur_among_a22, xs10 = spec_l1Cur_clean_e61, xs11 = spec_DrawGoodGroups, xs12 = spec_l1Cur_cell_fee, xs13 = spec_l1Cur_next_fee, xs14 = spec_l1Cur_pick_e61, xi15 = impl_GroupsAsTable, xs16 = spec_GroupsAsTable, xs17 = spec_l1Cur_few_fee, xs18 = spec_l1Cur_one_e61, xs19 = spec_l1Cur_row_e61, xi1a = impl_areColumns_1, xi1b = impl_compareRows, xc1c = cmp_Compare_int, xi1d = impl_GoodGroups, xi1e = impl_Row_picked, xi1f = impl_areColumns, xl1g = laws_sameGroups, xs1h = spec_DrawRollUp, xs1i = spec_EmptyTable, xs1j = spec_GoodGroups, xs1k = spec_GroupTable, xi1l = impl_GoodTable, xi1m = impl_IsPlain_1, xi1n = impl_grouped_1, xi1o = impl_grouped_2, xi1p = impl_isColumns, xi1q = impl_keyLength, xs1r = spec_GoodTable, xs1s = spec_l1Columns, xs1t = spec_l1Compare, xc1u = cmp_isNaN_int, xi1v = impl_RollUp_1, xi1w = impl_TotalsOf, xi1x = impl_isWeight, xl1y = laws_FnRolled, xl1z = laws_sameInts, xs20 = spec_NewTable, xs21 = spec_l2OwnRow, xs22 = spec_l2Weight, xi23 = impl_GoodRow, xi24 = impl_IsPlain, xi25 = impl_Row_own, xi26 = impl_grouped, xi27 = impl_isPlace, xi28 = impl_isRowOf, xl29 = laws_sameRow, xs2a = spec_GoodRow, xi2b = impl_RollUp, xi2c = impl_isCell, xi2d = impl_within, xs2e = spec_RollUp, xs2f = spec_l1Pick, xs2g = spec_l2Tell, xs2h = spec_l5Tell, xi2i = impl_isSum, xs2j = spec_l2Put, xs2k = spec_l5Put, xs2l = spec_l5Sum, xl2m = laws_same, xs2n = spec_l1In -/
namespace GoV
abbrev Zc := List (List Int × Int × Int)
abbrev Zd := List (List Int × Int)
open Go Go.Proofs
set_option maxRecDepth 100000

def isNilL : L → Bool
 | .nil _ => true
 | _ => false
def xl1y.c (v0 : List Int) (v1 : List Int) : List Cell := vc (.d .fro (.sl (.int .u8)) v0) :: vc (.d .fro (.sl (.int .u8)) v1) :: []
def xl1y.mk (b : Bool) : R := (⟨.one, [bL b]⟩, nn 2 ([]))
def xl1y.un (r : R) : Bool := ((leafR r 0).dat .bool)
noncomputable def xl1y (v0 : List Int) (v1 : List Int) : Option (Bool) := tOf xl1y.mk (vlim E 6 (xl1y.c v0 v1))
def xs1h.c (v0 : List Int) : List Cell := vc (.d .fro (.sl (.int .u8)) v0) :: []
def xs1h.mk (b : Zc × (List Int)) : R := (⟨(.tup [none, none]), [.d .deep (.sl (.pair (.sl (.int .i64)) (.pair (.int .i64) (.int .i64)))) b.1, .d .deep (.sl (.int .i64)) b.2]⟩, nn 1 ([]))
def xs1h.un (r : R) : Zc × (List Int) := ((leafR r 0).dat (.sl (.pair (.sl (.int .i64)) (.pair (.int .i64) (.int .i64)))), (leafR r 1).dat (.sl (.int .i64)))
noncomputable def xs1h (v0 : List Int) : Option (Zc × (List Int)) := tOf xs1h.mk (vlim E 25 (xs1h.c v0))
def xs17.c (v0 : List Int) (v1 : Int) (v2 : Int) : List Cell := ⟨(.box false), [.d .fro (.sl (.int .u8)) v0, iL v1, .d .fro (.int .u64) v2], true, false, false, 0, 0⟩ :: []
def xs17.mk (b : Int × (List Int) × Int × Int) : R := (⟨.one, [iL b.1]⟩, ⟨(.box false), [.d .fro (.sl (.int .u8)) b.2.1, iL b.2.2.1, .d .fro (.int .u64) b.2.2.2], true, false, false, 0, 0⟩ :: [])
def xs17.un (r : R) : Int × (List Int) × Int × Int := ((leafR r 0).dat (.int .i64), (leafF r 0 0).dat (.sl (.int .u8)), (leafF r 0 1).dat (.int .i64), (leafF r 0 2).dat (.int .u64))
noncomputable def xs17 (v0 : List Int) (v1 : Int) (v2 : Int) : Option (Int × (List Int) × Int × Int) := tOf xs17.mk (vlim E 56 (xs17.c v0 v1 v2))
def xs14.c (v0 : List Int) (v1 : Int) (v2 : Int) (v3 : Int) : List Cell := ⟨(.box false), [.d .fro (.sl (.int .u8)) v0, iL v1, .d .fro (.int .u64) v2], true, false, false, 0, 0⟩ :: vc (iL v3) :: []
def xs14.mk (b : Int × (List Int) × Int × Int) : R := (⟨.one, [iL b.1]⟩, ⟨(.box false), [.d .fro (.sl (.int .u8)) b.2.1, iL b.2.2.1, .d .fro (.int .u64) b.2.2.2], true, false, false, 0, 0⟩ :: nn 1 ([]))
def xs14.un (r : R) : Int × (List Int) × Int × Int := ((leafR r 0).dat (.int .i64), (leafF r 0 0).dat (.sl (.int .u8)), (leafF r 0 1).dat (.int .i64), (leafF r 0 2).dat (.int .u64))
noncomputable def xs14 (v0 : List Int) (v1 : Int) (v2 : Int) (v3 : Int) : Option (Int × (List Int) × Int × Int) := tOf xs14.mk (vlim E 92 (xs14.c v0 v1 v2 v3))
def xs13.c (v0 : List Int) (v1 : Int) (v2 : Int) : List Cell := ⟨(.box false), [.d .fro (.sl (.int .u8)) v0, iL v1, .d .fro (.int .u64) v2], true, false, false, 0, 0⟩ :: []
def xs13.mk (b : Int × (List Int) × Int × Int) : R := (⟨.one, [iL b.1]⟩, ⟨(.box false), [.d .fro (.sl (.int .u8)) b.2.1, iL b.2.2.1, .d .fro (.int .u64) b.2.2.2], true, false, false, 0, 0⟩ :: [])
def xs13.un (r : R) : Int × (List Int) × Int × Int := ((leafR r 0).dat (.int .i64), (leafF r 0 0).dat (.sl (.int .u8)), (leafF r 0 1).dat (.int .i64), (leafF r 0 2).dat (.int .u64))
noncomputable def xs13 (v0 : List Int) (v1 : Int) (v2 : Int) : Option (Int × (List Int) × Int × Int) := tOf xs13.mk (vlim E 109 (xs13.c v0 v1 v2))
def xs0w.c (v0 : List Int) (v1 : Int) (v2 : Int) (v3 : Int) : List Cell := ⟨(.box false), [.d .fro (.sl (.int .u8)) v0, iL v1, .d .fro (.int .u64) v2], true, false, false, 0, 0⟩ :: vc (iL v3) :: []
def xs0w.mk (b : Zc × (List Int) × Int × Int) : R := (⟨.one, [.d .deep (.sl (.pair (.sl (.int .i64)) (.pair (.int .i64) (.int .i64)))) b.1]⟩, ⟨(.box false), [.d .fro (.sl (.int .u8)) b.2.1, iL b.2.2.1, .d .fro (.int .u64) b.2.2.2], true, false, false, 0, 0⟩ :: nn 1 ([]))
def xs0w.un (r : R) : Zc × (List Int) × Int × Int := ((leafR r 0).dat (.sl (.pair (.sl (.int .i64)) (.pair (.int .i64) (.int .i64)))), (leafF r 0 0).dat (.sl (.int .u8)), (leafF r 0 1).dat (.int .i64), (leafF r 0 2).dat (.int .u64))
noncomputable def xs0w (v0 : List Int) (v1 : Int) (v2 : Int) (v3 : Int) : Option (Zc × (List Int) × Int × Int) := tOf xs0w.mk (vlim E 57 (xs0w.c v0 v1 v2 v3))
def xs10.c (v0 : List Int) (v1 : Int) (v2 : Int) (v3 : Int) : List Cell := ⟨(.box false), [.d .fro (.sl (.int .u8)) v0, iL v1, .d .fro (.int .u64) v2], true, false, false, 0, 0⟩ :: vc (iL v3) :: []
def xs10.mk (b : Int × Zd × (List Int) × Int × Int) : R := (⟨.agg, [iL b.1, .d .deep (.sl (.pair (.sl (.int .i64)) (.int .i64))) b.2.1]⟩, ⟨(.box false), [.d .fro (.sl (.int .u8)) b.2.2.1, iL b.2.2.2.1, .d .fro (.int .u64) b.2.2.2.2], true, false, false, 0, 0⟩ :: nn 1 ([]))
def xs10.un (r : R) : Int × Zd × (List Int) × Int × Int := ((leafR r 0).dat (.int .i64), (leafR r 1).dat (.sl (.pair (.sl (.int .i64)) (.int .i64))), (leafF r 0 0).dat (.sl (.int .u8)), (leafF r 0 1).dat (.int .i64), (leafF r 0 2).dat (.int .u64))
noncomputable def xs10 (v0 : List Int) (v1 : Int) (v2 : Int) (v3 : Int) : Option (Int × Zd × (List Int) × Int × Int) := tOf xs10.mk (vlim E 93 (xs10.c v0 v1 v2 v3))
def xs0r.c (v0 : List Int) (v1 : Int) (v2 : Int) (v3 : Int) (v4 : Int) : List Cell := ⟨(.box false), [.d .fro (.sl (.int .u8)) v0, iL v1, .d .fro (.int .u64) v2], true, false, false, 0, 0⟩ :: vc (iL v3) :: vc (iL v4) :: []
def xs0r.mk (b : Zd × (List Int) × Int × Int) : R := (⟨.one, [.d .deep (.sl (.pair (.sl (.int .i64)) (.int .i64))) b.1]⟩, ⟨(.box false), [.d .fro (.sl (.int .u8)) b.2.1, iL b.2.2.1, .d .fro (.int .u64) b.2.2.2], true, false, false, 0, 0⟩ :: nn 2 ([]))
def xs0r.un (r : R) : Zd × (List Int) × Int × Int := ((leafR r 0).dat (.sl (.pair (.sl (.int .i64)) (.int .i64))), (leafF r 0 0).dat (.sl (.int .u8)), (leafF r 0 1).dat (.int .i64), (leafF r 0 2).dat (.int .u64))
noncomputable def xs0r (v0 : List Int) (v1 : Int) (v2 : Int) (v3 : Int) (v4 : Int) : Option (Zd × (List Int) × Int × Int) := tOf xs0r.mk (vlim E 111 (xs0r.c v0 v1 v2 v3 v4))
def xs0x.c (v0 : List Int) (v1 : Int) (v2 : Int) : List Cell := ⟨(.box false), [.d .fro (.sl (.int .u8)) v0, iL v1, .d .fro (.int .u64) v2], true, false, false, 0, 0⟩ :: []
def xs0x.mk (b : Int × (List Int) × Int × Int) : R := (⟨.one, [iL b.1]⟩, ⟨(.box false), [.d .fro (.sl (.int .u8)) b.2.1, iL b.2.2.1, .d .fro (.int .u64) b.2.2.2], true, false, false, 0, 0⟩ :: [])
def xs0x.un (r : R) : Int × (List Int) × Int × Int := ((leafR r 0).dat (.int .i64), (leafF r 0 0).dat (.sl (.int .u8)), (leafF r 0 1).dat (.int .i64), (leafF r 0 2).dat (.int .u64))
noncomputable def xs0x (v0 : List Int) (v1 : Int) (v2 : Int) : Option (Int × (List Int) × Int × Int) := tOf xs0x.mk (vlim E 120 (xs0x.c v0 v1 v2))
def xs18.c (v0 : List Int) (v1 : Int) (v2 : Int) (v3 : Int) : List Cell := ⟨(.box false), [.d .fro (.sl (.int .u8)) v0, iL v1, .d .fro (.int .u64) v2], true, false, false, 0, 0⟩ :: vc (iL v3) :: []
def xs18.mk (b : Bool × (List Int) × Int × Int) : R := (⟨.one, [bL b.1]⟩, ⟨(.box false), [.d .fro (.sl (.int .u8)) b.2.1, iL b.2.2.1, .d .fro (.int .u64) b.2.2.2], true, false, false, 0, 0⟩ :: nn 1 ([]))
def xs18.un (r : R) : Bool × (List Int) × Int × Int := ((leafR r 0).dat .bool, (leafF r 0 0).dat (.sl (.int .u8)), (leafF r 0 1).dat (.int .i64), (leafF r 0 2).dat (.int .u64))
noncomputable def xs18 (v0 : List Int) (v1 : Int) (v2 : Int) (v3 : Int) : Option (Bool × (List Int) × Int × Int) := tOf xs18.mk (vlim E 94 (xs18.c v0 v1 v2 v3))
def xs0z.c (v0 : List Int) (v1 : Int) (v2 : Int) (v3 : List Int) : List Cell := ⟨(.box false), [.d .fro (.sl (.int .u8)) v0, iL v1, .d .fro (.int .u64) v2], true, false, false, 0, 0⟩ :: vc (.d .fro (.sl (.int .i64)) v3) :: []
def xs0z.mk (b : Int × (List Int) × Int × Int) : R := (⟨.one, [iL b.1]⟩, ⟨(.box false), [.d .fro (.sl (.int .u8)) b.2.1, iL b.2.2.1, .d .fro (.int .u64) b.2.2.2], true, false, false, 0, 0⟩ :: nn 1 ([]))
def xs0z.un (r : R) : Int × (List Int) × Int × Int := ((leafR r 0).dat (.int .i64), (leafF r 0 0).dat (.sl (.int .u8)), (leafF r 0 1).dat (.int .i64), (leafF r 0 2).dat (.int .u64))
noncomputable def xs0z (v0 : List Int) (v1 : Int) (v2 : Int) (v3 : List Int) : Option (Int × (List Int) × Int × Int) := tOf xs0z.mk (vlim E 95 (xs0z.c v0 v1 v2 v3))
def xs20.c (v0 : Int) (v1 : Zd) : List Cell := vc (iL v0) :: vc (.d .fro (.sl (.pair (.sl (.int .i64)) (.int .i64))) v1) :: []
def xs20.mk (b : Int × Zd × Bool) : R := (⟨(.tup [some 2, none]), [iL b.1, .d .deep (.sl (.pair (.sl (.int .i64)) (.int .i64))) b.2.1, bL b.2.2]⟩, nn 2 ([]))
def xs20.un (r : R) : Int × Zd × Bool := ((leafR r 0).dat (.int .i64), (leafR r 1).dat (.sl (.pair (.sl (.int .i64)) (.int .i64))), (leafR r 2).dat .bool)
noncomputable def xs20 (v0 : Int) (v1 : Zd) : Option (Int × Zd × Bool) := tOf xs20.mk (vlim E 110 (xs20.c v0 v1))
def xs2n.c (v0 : Int) (v1 : Int) (v2 : Int) : List Cell := vc (iL v0) :: vc (iL v1) :: vc (iL v2) :: []
def xs2n.mk (b : Bool) : R := (⟨.one, [bL b]⟩, nn 3 ([]))
def xs2n.un (r : R) : Bool := ((leafR r 0).dat .bool)
noncomputable def xs2n (v0 : Int) (v1 : Int) (v2 : Int) : Option (Bool) := tOf xs2n.mk (vlim E 87 (xs2n.c v0 v1 v2))
def xs2a.c (v0 : List Int) : List Cell := ac [.d .fro (.sl (.int .i64)) v0] :: []
def xs2a.mk (b : Bool) : R := (⟨.one, [bL b]⟩, nn 1 ([]))
def xs2a.un (r : R) : Bool := ((leafR r 0).dat .bool)
noncomputable def xs2a (v0 : List Int) : Option (Bool) := tOf xs2a.mk (vlim E 67 (xs2a.c v0))
def xs22.c (v0 : Int) : List Cell := vc (iL v0) :: []
def xs22.mk (b : Bool) : R := (⟨.one, [bL b]⟩, nn 1 ([]))
def xs22.un (r : R) : Bool := ((leafR r 0).dat .bool)
noncomputable def xs22 (v0 : Int) : Option (Bool) := tOf xs22.mk (vlim E 86 (xs22.c v0))
def xs2j.c (v0 : Zd) (v1 : List Int) (v2 : Int) : List Cell := vc (.d .fro (.sl (.pair (.sl (.int .i64)) (.int .i64))) v0) :: ac [.d .fro (.sl (.int .i64)) v1] :: vc (iL v2) :: []
def xs2j.mk (b : Zd) : R := (⟨.one, [.d .sha (.sl (.pair (.sl (.int .i64)) (.int .i64))) b]⟩, nn 3 ([]))
def xs2j.un (r : R) : Zd := ((leafR r 0).dat (.sl (.pair (.sl (.int .i64)) (.int .i64))))
noncomputable def xs2j (v0 : Zd) (v1 : List Int) (v2 : Int) : Option (Zd) := tOf xs2j.mk (vlim E 118 (xs2j.c v0 v1 v2))
def xs1t.c (v0 : List Int) (v1 : List Int) : List Cell := ac [.d .fro (.sl (.int .i64)) v0] :: ac [.d .fro (.sl (.int .i64)) v1] :: []
def xs1t.mk (b : Int) : R := (⟨.one, [iL b]⟩, nn 2 ([]))
def xs1t.un (r : R) : Int := ((leafR r 0).dat (.int .i64))
noncomputable def xs1t (v0 : List Int) (v1 : List Int) : Option (Int) := tOf xs1t.mk (vlim E 69 (xs1t.c v0 v1))
def xs21.c (v0 : List Int) : List Cell := ac [.d .fro (.sl (.int .i64)) v0] :: []
def xs21.mk (b : (List Int)) : R := (⟨.agg, [.d .deep (.sl (.int .i64)) b]⟩, nn 1 ([]))
def xs21.un (r : R) : (List Int) := ((leafR r 0).dat (.sl (.int .i64)))
noncomputable def xs21 (v0 : List Int) : Option ((List Int)) := tOf xs21.mk (vlim E 70 (xs21.c v0))
def xs2g.c (v0 : Int) (v1 : Zd) : List Cell := vc (iL v0) :: vc (.d .fro (.sl (.pair (.sl (.int .i64)) (.int .i64))) v1) :: []
def xs2g.mk (b : Int × Zd × Bool) : R := (⟨(.tup [some 2, none]), [iL b.1, .d .deep (.sl (.pair (.sl (.int .i64)) (.int .i64))) b.2.1, bL b.2.2]⟩, nn 2 ([]))
def xs2g.un (r : R) : Int × Zd × Bool := ((leafR r 0).dat (.int .i64), (leafR r 1).dat (.sl (.pair (.sl (.int .i64)) (.int .i64))), (leafR r 2).dat .bool)
noncomputable def xs2g (v0 : Int) (v1 : Zd) : Option (Int × Zd × Bool) := tOf xs2g.mk (vlim E 119 (xs2g.c v0 v1))
def xs1r.c (v0 : Int) (v1 : Zd) : List Cell := ac [iL v0, .d .fro (.sl (.pair (.sl (.int .i64)) (.int .i64))) v1] :: []
def xs1r.mk (b : Bool) : R := (⟨.one, [bL b]⟩, nn 1 ([]))
def xs1r.un (r : R) : Bool := ((leafR r 0).dat .bool)
noncomputable def xs1r (v0 : Int) (v1 : Zd) : Option (Bool) := tOf xs1r.mk (vlim E 49 (xs1r.c v0 v1))
def xs1i.c (v0 : Int) : List Cell := vc (iL v0) :: []
def xs1i.mk (b : Int × Zd × Bool) : R := (⟨(.tup [some 2, none]), [iL b.1, .d .deep (.sl (.pair (.sl (.int .i64)) (.int .i64))) b.2.1, bL b.2.2]⟩, nn 1 ([]))
def xs1i.un (r : R) : Int × Zd × Bool := ((leafR r 0).dat (.int .i64), (leafR r 1).dat (.sl (.pair (.sl (.int .i64)) (.int .i64))), (leafR r 2).dat .bool)
noncomputable def xs1i (v0 : Int) : Option (Int × Zd × Bool) := tOf xs1i.mk (vlim E 112 (xs1i.c v0))
def xs1k.c (v0 : Int) (v1 : Zd) (v2 : List Int) (v3 : Int) : List Cell := ac [iL v0, .d .fro (.sl (.pair (.sl (.int .i64)) (.int .i64))) v1] :: vc (.d .fro (.sl (.int .i64)) v2) :: vc (iL v3) :: []
def xs1k.mk (b : Zc × Bool) : R := (⟨(.tup [none, none]), [.d .deep (.sl (.pair (.sl (.int .i64)) (.pair (.int .i64) (.int .i64)))) b.1, bL b.2]⟩, nn 3 ([]))
def xs1k.un (r : R) : Zc × Bool := ((leafR r 0).dat (.sl (.pair (.sl (.int .i64)) (.pair (.int .i64) (.int .i64)))), (leafR r 1).dat .bool)
noncomputable def xs1k (v0 : Int) (v1 : Zd) (v2 : List Int) (v3 : Int) : Option (Zc × Bool) := tOf xs1k.mk (vlim E 20 (xs1k.c v0 v1 v2 v3))
def xs1s.c (v0 : List Int) (v1 : Int) : List Cell := vc (.d .fro (.sl (.int .i64)) v0) :: vc (iL v1) :: []
def xs1s.mk (b : Bool) : R := (⟨.one, [bL b]⟩, nn 2 ([]))
def xs1s.un (r : R) : Bool := ((leafR r 0).dat .bool)
noncomputable def xs1s (v0 : List Int) (v1 : Int) : Option (Bool) := tOf xs1s.mk (vlim E 50 (xs1s.c v0 v1))
def xs2f.c (v0 : List Int) (v1 : List Int) : List Cell := ac [.d .fro (.sl (.int .i64)) v0] :: vc (.d .fro (.sl (.int .i64)) v1) :: []
def xs2f.mk (b : (List Int)) : R := (⟨.agg, [.d .deep (.sl (.int .i64)) b]⟩, nn 2 ([]))
def xs2f.un (r : R) : (List Int) := ((leafR r 0).dat (.sl (.int .i64)))
noncomputable def xs2f (v0 : List Int) (v1 : List Int) : Option ((List Int)) := tOf xs2f.mk (vlim E 43 (xs2f.c v0 v1))
def xs2k.c (v0 : Zc) (v1 : List Int) (v2 : Int) (v3 : Int) : List Cell := vc (.d .fro (.sl (.pair (.sl (.int .i64)) (.pair (.int .i64) (.int .i64)))) v0) :: ac [.d .fro (.sl (.int .i64)) v1, iL v2, iL v3] :: []
def xs2k.mk (b : Zc) : R := (⟨.one, [.d .sha (.sl (.pair (.sl (.int .i64)) (.pair (.int .i64) (.int .i64)))) b]⟩, nn 2 ([]))
def xs2k.un (r : R) : Zc := ((leafR r 0).dat (.sl (.pair (.sl (.int .i64)) (.pair (.int .i64) (.int .i64)))))
noncomputable def xs2k (v0 : Zc) (v1 : List Int) (v2 : Int) (v3 : Int) : Option (Zc) := tOf xs2k.mk (vlim E 35 (xs2k.c v0 v1 v2 v3))
def xs2h.c (v0 : Zc) : List Cell := vc (.d .fro (.sl (.pair (.sl (.int .i64)) (.pair (.int .i64) (.int .i64)))) v0) :: []
def xs2h.mk (b : Zc × Bool) : R := (⟨(.tup [none, none]), [.d .deep (.sl (.pair (.sl (.int .i64)) (.pair (.int .i64) (.int .i64)))) b.1, bL b.2]⟩, nn 1 ([]))
def xs2h.un (r : R) : Zc × Bool := ((leafR r 0).dat (.sl (.pair (.sl (.int .i64)) (.pair (.int .i64) (.int .i64)))), (leafR r 1).dat .bool)
noncomputable def xs2h (v0 : Zc) : Option (Zc × Bool) := tOf xs2h.mk (vlim E 36 (xs2h.c v0))
def xs1j.c (v0 : Zc) : List Cell := vc (.d .fro (.sl (.pair (.sl (.int .i64)) (.pair (.int .i64) (.int .i64)))) v0) :: []
def xs1j.mk (b : Bool) : R := (⟨.one, [bL b]⟩, nn 1 ([]))
def xs1j.un (r : R) : Bool := ((leafR r 0).dat .bool)
noncomputable def xs1j (v0 : Zc) : Option (Bool) := tOf xs1j.mk (vlim E 34 (xs1j.c v0))
def xs2l.c (v0 : Int) : List Cell := vc (iL v0) :: []
def xs2l.mk (b : Bool) : R := (⟨.one, [bL b]⟩, nn 1 ([]))
def xs2l.un (r : R) : Bool := ((leafR r 0).dat .bool)
noncomputable def xs2l (v0 : Int) : Option (Bool) := tOf xs2l.mk (vlim E 68 (xs2l.c v0))
def xs19.c (v0 : List Int) (v1 : Int) (v2 : Int) (v3 : Int) : List Cell := ⟨(.box false), [.d .fro (.sl (.int .u8)) v0, iL v1, .d .fro (.int .u64) v2], true, false, false, 0, 0⟩ :: vc (iL v3) :: []
def xs19.mk1 (b : (List Int) × (List Int) × Int × Int) : R := (⟨.agg, [.d .deep (.sl (.int .i64)) b.1]⟩, ⟨(.box false), [.d .fro (.sl (.int .u8)) b.2.1, iL b.2.2.1, .d .fro (.int .u64) b.2.2.2], true, false, false, 0, 0⟩ :: nn 1 ([]))
def xs19.mk2 (b : (List Int) × Int × Int) : R := (⟨.agg, [.nil (.int .i64)]⟩, ⟨(.box false), [.d .fro (.sl (.int .u8)) b.1, iL b.2.1, .d .fro (.int .u64) b.2.2], true, false, false, 0, 0⟩ :: nn 1 ([]))
def xs19.f (b : ((List Int) × (List Int) × Int × Int) ⊕ ((List Int) × Int × Int)) : R := xs19.mk1 (inL b ([], [], 0, 0))
def xs19.g (b : ((List Int) × (List Int) × Int × Int) ⊕ ((List Int) × Int × Int)) : R := xs19.mk2 (inR b ([], 0, 0))
def xs19.mk (b : ((List Int) × (List Int) × Int × Int) ⊕ ((List Int) × Int × Int)) : R := bif Sum.isLeft b then xs19.f b else xs19.g b
def xs19.un (r : R) : ((List Int) × (List Int) × Int × Int) ⊕ ((List Int) × Int × Int) := bif isNilL (leafR r 0) then .inr ((leafF r 0 0).dat (.sl (.int .u8)), (leafF r 0 1).dat (.int .i64), (leafF r 0 2).dat (.int .u64)) else .inl ((leafR r 0).dat (.sl (.int .i64)), (leafF r 0 0).dat (.sl (.int .u8)), (leafF r 0 1).dat (.int .i64), (leafF r 0 2).dat (.int .u64))
noncomputable def xs19 (v0 : List Int) (v1 : Int) (v2 : Int) (v3 : Int) : Option (((List Int) × (List Int) × Int × Int) ⊕ ((List Int) × Int × Int)) := tOf xs19.mk (vlim E 96 (xs19.c v0 v1 v2 v3))
def xs12.c (v0 : List Int) (v1 : Int) (v2 : Int) : List Cell := ⟨(.box false), [.d .fro (.sl (.int .u8)) v0, iL v1, .d .fro (.int .u64) v2], true, false, false, 0, 0⟩ :: []
def xs12.mk (b : Int × (List Int) × Int × Int) : R := (⟨.one, [iL b.1]⟩, ⟨(.box false), [.d .fro (.sl (.int .u8)) b.2.1, iL b.2.2.1, .d .fro (.int .u64) b.2.2.2], true, false, false, 0, 0⟩ :: [])
def xs12.un (r : R) : Int × (List Int) × Int × Int := ((leafR r 0).dat (.int .i64), (leafF r 0 0).dat (.sl (.int .u8)), (leafF r 0 1).dat (.int .i64), (leafF r 0 2).dat (.int .u64))
noncomputable def xs12 (v0 : List Int) (v1 : Int) (v2 : Int) : Option (Int × (List Int) × Int × Int) := tOf xs12.mk (vlim E 113 (xs12.c v0 v1 v2))
def xs0u.c (v0 : List Int) (v1 : Int) (v2 : Int) (v3 : Int) : List Cell := ⟨(.box false), [.d .fro (.sl (.int .u8)) v0, iL v1, .d .fro (.int .u64) v2], true, false, false, 0, 0⟩ :: vc (iL v3) :: []
def xs0u.mk (b : (List Int) × (List Int) × Int × Int) : R := (⟨.one, [.d .deep (.sl (.int .i64)) b.1]⟩, ⟨(.box false), [.d .fro (.sl (.int .u8)) b.2.1, iL b.2.2.1, .d .fro (.int .u64) b.2.2.2], true, false, false, 0, 0⟩ :: nn 1 ([]))
def xs0u.un (r : R) : (List Int) × (List Int) × Int × Int := ((leafR r 0).dat (.sl (.int .i64)), (leafF r 0 0).dat (.sl (.int .u8)), (leafF r 0 1).dat (.int .i64), (leafF r 0 2).dat (.int .u64))
noncomputable def xs0u (v0 : List Int) (v1 : Int) (v2 : Int) (v3 : Int) : Option ((List Int) × (List Int) × Int × Int) := tOf xs0u.mk (vlim E 58 (xs0u.c v0 v1 v2 v3))
def xi2b.c (v0 : Zc) (v1 : List Int) : List Cell := vc (.d .fro (.sl (.pair (.sl (.int .i64)) (.pair (.int .i64) (.int .i64)))) v0) :: vc (.d .fro (.sl (.int .i64)) v1) :: []
def xi2b.mk (b : Zc × Bool) : R := (⟨(.tup [none, none]), [.d .deep (.sl (.pair (.sl (.int .i64)) (.pair (.int .i64) (.int .i64)))) b.1, bL b.2]⟩, nn 2 ([]))
def xi2b.un (r : R) : Zc × Bool := ((leafR r 0).dat (.sl (.pair (.sl (.int .i64)) (.pair (.int .i64) (.int .i64)))), (leafR r 1).dat .bool)
noncomputable def xi2b (v0 : Zc) (v1 : List Int) : Option (Zc × Bool) := tOf xi2b.mk (vlim E 16 (xi2b.c v0 v1))
def xi1q.c (v0 : Zc) : List Cell := vc (.d .fro (.sl (.pair (.sl (.int .i64)) (.pair (.int .i64) (.int .i64)))) v0) :: []
def xi1q.mk (b : Int) : R := (⟨.one, [iL b]⟩, nn 1 ([]))
def xi1q.un (r : R) : Int := ((leafR r 0).dat (.int .i64))
noncomputable def xi1q (v0 : Zc) : Option (Int) := tOf xi1q.mk (vlim E 39 (xi1q.c v0))
def xi1f.c (v0 : List Int) (v1 : Int) : List Cell := vc (.d .fro (.sl (.int .i64)) v0) :: vc (iL v1) :: []
def xi1f.mk (b : Bool) : R := (⟨.one, [bL b]⟩, nn 2 ([]))
def xi1f.un (r : R) : Bool := ((leafR r 0).dat .bool)
noncomputable def xi1f (v0 : List Int) (v1 : Int) : Option (Bool) := tOf xi1f.mk (vlim E 44 (xi1f.c v0 v1))
def xi0l.c (v0 : List Int) (v1 : Int) : List Cell := vc (.d .fro (.sl (.int .i64)) v0) :: vc (.fn 81 [.rp [iL v1] 0]) :: []
def xi0l.mk (b : Bool) : R := (⟨.one, [bL b]⟩, nn 2 ([]))
def xi0l.un (r : R) : Bool := ((leafR r 0).dat .bool)
noncomputable def xi0l (v0 : List Int) (v1 : Int) : Option (Bool) := tOf xi0l.mk (vlim E 45 (xi0l.c v0 v1))
def xs02.c (v0 : List Int) (v1 : Int) : List Cell := vc (.d .fro (.sl (.int .i64)) v0) :: vc (.fn 84 [.rp [.fn 81 [.rp [iL v1] 0]] 0]) :: []
def xs02.mk (b : Bool) : R := (⟨.one, [bL b]⟩, nn 2 ([]))
def xs02.un (r : R) : Bool := ((leafR r 0).dat .bool)
noncomputable def xs02 (v0 : List Int) (v1 : Int) : Option (Bool) := tOf xs02.mk (vlim E 83 (xs02.c v0 v1))
def xs04.c (v0 : List Int) (v1 : Int) : List Cell := vc (.d .fro (.sl (.int .i64)) v0) :: vc (.fn 84 [.rp [.fn 81 [.rp [iL v1] 0]] 0]) :: []
def xs04.mk (b : Int) : R := (⟨.one, [iL b]⟩, nn 2 ([]))
def xs04.un (r : R) : Int := ((leafR r 0).dat (.int .i64))
noncomputable def xs04 (v0 : List Int) (v1 : Int) : Option (Int) := tOf xs04.mk (vlim E 108 (xs04.c v0 v1))
def xi0j.c (v0 : Int) (v1 : Int) : List Cell := vc (iL v0) :: vc (.rp [.fn 81 [.rp [iL v1] 0]] 0) :: []
def xi0j.mk (b : Bool) : R := (⟨.one, [bL b]⟩, nn 2 ([]))
def xi0j.un (r : R) : Bool := ((leafR r 0).dat .bool)
noncomputable def xi0j (v0 : Int) (v1 : Int) : Option (Bool) := tOf xi0j.mk (vlim E 84 (xi0j.c v0 v1))
def xi1a.c (v0 : Int) (v1 : Int) : List Cell := vc (iL v0) :: vc (.rp [iL v1] 0) :: []
def xi1a.mk (b : Bool) : R := (⟨.one, [bL b]⟩, nn 2 ([]))
def xi1a.un (r : R) : Bool := ((leafR r 0).dat .bool)
noncomputable def xi1a (v0 : Int) (v1 : Int) : Option (Bool) := tOf xi1a.mk (vlim E 81 (xi1a.c v0 v1))
def xi27.c (v0 : Int) (v1 : Int) : List Cell := vc (iL v0) :: vc (iL v1) :: []
def xi27.mk (b : Bool) : R := (⟨.one, [bL b]⟩, nn 2 ([]))
def xi27.un (r : R) : Bool := ((leafR r 0).dat .bool)
noncomputable def xi27 (v0 : Int) (v1 : Int) : Option (Bool) := tOf xi27.mk (vlim E 82 (xi27.c v0 v1))
def xi0o.c (v0 : List Int) : List Cell := vc (.d .fro (.sl (.int .i64)) v0) :: vc (.fn 46 []) :: []
def xi0o.mk (b : Bool) : R := (⟨.one, [bL b]⟩, nn 2 ([]))
def xi0o.un (r : R) : Bool := ((leafR r 0).dat .bool)
noncomputable def xi0o (v0 : List Int) : Option (Bool) := tOf xi0o.mk (vlim E 45 (xi0o.c v0))
def xs05.c (v0 : List Int) : List Cell := vc (.d .fro (.sl (.int .i64)) v0) :: vc (.fn 84 [.rp [.fn 46 []] 0]) :: []
def xs05.mk (b : Bool) : R := (⟨.one, [bL b]⟩, nn 2 ([]))
def xs05.un (r : R) : Bool := ((leafR r 0).dat .bool)
noncomputable def xs05 (v0 : List Int) : Option (Bool) := tOf xs05.mk (vlim E 83 (xs05.c v0))
def xs09.c (v0 : List Int) : List Cell := vc (.d .fro (.sl (.int .i64)) v0) :: vc (.fn 84 [.rp [.fn 46 []] 0]) :: []
def xs09.mk (b : Int) : R := (⟨.one, [iL b]⟩, nn 2 ([]))
def xs09.un (r : R) : Int := ((leafR r 0).dat (.int .i64))
noncomputable def xs09 (v0 : List Int) : Option (Int) := tOf xs09.mk (vlim E 108 (xs09.c v0))
def xi0m.c (v0 : Int) : List Cell := vc (iL v0) :: vc (.rp [.fn 46 []] 0) :: []
def xi0m.mk (b : Bool) : R := (⟨.one, [bL b]⟩, nn 2 ([]))
def xi0m.un (r : R) : Bool := ((leafR r 0).dat .bool)
noncomputable def xi0m (v0 : Int) : Option (Bool) := tOf xi0m.mk (vlim E 84 (xi0m.c v0))
def xi1v.c (v0 : Int) : List Cell := vc (iL v0) :: []
def xi1v.mk (b : Bool) : R := (⟨.one, [bL b]⟩, nn 1 ([]))
def xi1v.un (r : R) : Bool := ((leafR r 0).dat .bool)
noncomputable def xi1v (v0 : Int) : Option (Bool) := tOf xi1v.mk (vlim E 46 (xi1v.c v0))
def xi1d.c (v0 : Zc) : List Cell := vc (.d .fro (.sl (.pair (.sl (.int .i64)) (.pair (.int .i64) (.int .i64)))) v0) :: []
def xi1d.mk (b : Bool) : R := (⟨.one, [bL b]⟩, nn 1 ([]))
def xi1d.un (r : R) : Bool := ((leafR r 0).dat .bool)
noncomputable def xi1d (v0 : Zc) : Option (Bool) := tOf xi1d.mk (vlim E 38 (xi1d.c v0))
def xi28.c (v0 : List Int) (v1 : Int) : List Cell := ac [.d .fro (.sl (.int .i64)) v0] :: vc (iL v1) :: []
def xi28.mk (b : Bool) : R := (⟨.one, [bL b]⟩, nn 2 ([]))
def xi28.un (r : R) : Bool := ((leafR r 0).dat .bool)
noncomputable def xi28 (v0 : List Int) (v1 : Int) : Option (Bool) := tOf xi28.mk (vlim E 72 (xi28.c v0 v1))
def xi23.c (v0 : List Int) : List Cell := ac [.d .fro (.sl (.int .i64)) v0] :: []
def xi23.mk (b : Bool) : R := (⟨.one, [bL b]⟩, nn 1 ([]))
def xi23.un (r : R) : Bool := ((leafR r 0).dat .bool)
noncomputable def xi23 (v0 : List Int) : Option (Bool) := tOf xi23.mk (vlim E 102 (xi23.c v0))
def xi0p.c (v0 : List Int) : List Cell := vc (.d .fro (.sl (.int .i64)) v0) :: vc (.fn 62 []) :: []
def xi0p.mk (b : Bool) : R := (⟨.one, [bL b]⟩, nn 2 ([]))
def xi0p.un (r : R) : Bool := ((leafR r 0).dat .bool)
noncomputable def xi0p (v0 : List Int) : Option (Bool) := tOf xi0p.mk (vlim E 45 (xi0p.c v0))
def xs07.c (v0 : List Int) : List Cell := vc (.d .fro (.sl (.int .i64)) v0) :: vc (.fn 84 [.rp [.fn 62 []] 0]) :: []
def xs07.mk (b : Bool) : R := (⟨.one, [bL b]⟩, nn 2 ([]))
def xs07.un (r : R) : Bool := ((leafR r 0).dat .bool)
noncomputable def xs07 (v0 : List Int) : Option (Bool) := tOf xs07.mk (vlim E 83 (xs07.c v0))
def xs0a.c (v0 : List Int) : List Cell := vc (.d .fro (.sl (.int .i64)) v0) :: vc (.fn 84 [.rp [.fn 62 []] 0]) :: []
def xs0a.mk (b : Int) : R := (⟨.one, [iL b]⟩, nn 2 ([]))
def xs0a.un (r : R) : Int := ((leafR r 0).dat (.int .i64))
noncomputable def xs0a (v0 : List Int) : Option (Int) := tOf xs0a.mk (vlim E 108 (xs0a.c v0))
def xi0n.c (v0 : Int) : List Cell := vc (iL v0) :: vc (.rp [.fn 62 []] 0) :: []
def xi0n.mk (b : Bool) : R := (⟨.one, [bL b]⟩, nn 2 ([]))
def xi0n.un (r : R) : Bool := ((leafR r 0).dat .bool)
noncomputable def xi0n (v0 : Int) : Option (Bool) := tOf xi0n.mk (vlim E 84 (xi0n.c v0))
def xi2c.c (v0 : Int) : List Cell := vc (iL v0) :: []
def xi2c.mk (b : Bool) : R := (⟨.one, [bL b]⟩, nn 1 ([]))
def xi2c.un (r : R) : Bool := ((leafR r 0).dat .bool)
noncomputable def xi2c (v0 : Int) : Option (Bool) := tOf xi2c.mk (vlim E 62 (xi2c.c v0))
def xi2d.c (v0 : Int) (v1 : Int) (v2 : Int) : List Cell := vc (iL v0) :: vc (iL v1) :: vc (iL v2) :: []
def xi2d.mk (b : Bool) : R := (⟨.one, [bL b]⟩, nn 3 ([]))
def xi2d.un (r : R) : Bool := ((leafR r 0).dat .bool)
noncomputable def xi2d (v0 : Int) (v1 : Int) (v2 : Int) : Option (Bool) := tOf xi2d.mk (vlim E 53 (xi2d.c v0 v1 v2))
def xi2i.c (v0 : Int) : List Cell := vc (iL v0) :: []
def xi2i.mk (b : Bool) : R := (⟨.one, [bL b]⟩, nn 1 ([]))
def xi2i.un (r : R) : Bool := ((leafR r 0).dat .bool)
noncomputable def xi2i (v0 : Int) : Option (Bool) := tOf xi2i.mk (vlim E 60 (xi2i.c v0))
def xi1b.c (v0 : List Int) (v1 : List Int) : List Cell := ac [.d .fro (.sl (.int .i64)) v0] :: ac [.d .fro (.sl (.int .i64)) v1] :: []
def xi1b.mk (b : Int) : R := (⟨.one, [iL b]⟩, nn 2 ([]))
def xi1b.un (r : R) : Int := ((leafR r 0).dat (.int .i64))
noncomputable def xi1b (v0 : List Int) (v1 : List Int) : Option (Int) := tOf xi1b.mk (vlim E 73 (xi1b.c v0 v1))
def xs0s.c (v0 : List Int) (v1 : List Int) : List Cell := vc (.d .fro (.sl (.int .i64)) v0) :: vc (.d .fro (.sl (.int .i64)) v1) :: []
def xs0s.mk (b : Int) : R := (⟨.one, [iL b]⟩, nn 2 ([]))
def xs0s.un (r : R) : Int := ((leafR r 0).dat (.int .i64))
noncomputable def xs0s (v0 : List Int) (v1 : List Int) : Option (Int) := tOf xs0s.mk (vlim E 103 (xs0s.c v0 v1))
def xc1c.c (v0 : Int) (v1 : Int) : List Cell := vc (iL v0) :: vc (iL v1) :: []
def xc1c.mk (b : Int) : R := (⟨.one, [iL b]⟩, nn 2 ([]))
def xc1c.un (r : R) : Int := ((leafR r 0).dat (.int .i64))
noncomputable def xc1c (v0 : Int) (v1 : Int) : Option (Int) := tOf xc1c.mk (vlim E 115 (xc1c.c v0 v1))
def xc1u.c (v0 : Int) : List Cell := vc (iL v0) :: []
def xc1u.mk (b : Bool) : R := (⟨.one, [bL b]⟩, nn 1 ([]))
def xc1u.un (r : R) : Bool := ((leafR r 0).dat .bool)
noncomputable def xc1u (v0 : Int) : Option (Bool) := tOf xc1u.mk (vlim E 121 (xc1u.c v0))
def xi1e.c (v0 : List Int) (v1 : List Int) : List Cell := ac [.d .fro (.sl (.int .i64)) v0] :: vc (.d .fro (.sl (.int .i64)) v1) :: []
def xi1e.mk (b : (List Int)) : R := (⟨.agg, [.d .deep (.sl (.int .i64)) b]⟩, nn 2 ([]))
def xi1e.un (r : R) : (List Int) := ((leafR r 0).dat (.sl (.int .i64)))
noncomputable def xi1e (v0 : List Int) (v1 : List Int) : Option ((List Int)) := tOf xi1e.mk (vlim E 47 (xi1e.c v0 v1))
def xi26.c (v0 : List Zc) : List Cell := vc (.d .fro (.sl (.sl (.pair (.sl (.int .i64)) (.pair (.int .i64) (.int .i64))))) v0) :: []
def xi26.mk (b : Zc × Bool) : R := (⟨(.tup [none, none]), [.d .deep (.sl (.pair (.sl (.int .i64)) (.pair (.int .i64) (.int .i64)))) b.1, bL b.2]⟩, nn 1 ([]))
def xi26.un (r : R) : Zc × Bool := ((leafR r 0).dat (.sl (.pair (.sl (.int .i64)) (.pair (.int .i64) (.int .i64)))), (leafR r 1).dat .bool)
noncomputable def xi26 (v0 : List Zc) : Option (Zc × Bool) := tOf xi26.mk (vlim E 40 (xi26.c v0))
def xs0k.c (v0 : List Zc) : List Cell := vc (.d .fro (.sl (.sl (.pair (.sl (.int .i64)) (.pair (.int .i64) (.int .i64))))) v0) :: []
def xs0k.mk (b : Zc) : R := (⟨.one, [.d .sha (.sl (.pair (.sl (.int .i64)) (.pair (.int .i64) (.int .i64)))) b]⟩, nn 1 ([]))
def xs0k.un (r : R) : Zc := ((leafR r 0).dat (.sl (.pair (.sl (.int .i64)) (.pair (.int .i64) (.int .i64)))))
noncomputable def xs0k (v0 : List Zc) : Option (Zc) := tOf xs0k.mk (vlim E 74 (xs0k.c v0))
def xs0i.c (v0 : Int) : List Cell := vc (.nil (.pair (.sl (.int .i64)) (.pair (.int .i64) (.int .i64)))) :: vc (iL v0) :: []
def xs0i.mk (b : Zc) : R := (⟨.one, [.d .deep (.sl (.pair (.sl (.int .i64)) (.pair (.int .i64) (.int .i64)))) b]⟩, nn 2 ([]))
def xs0i.un (r : R) : Zc := ((leafR r 0).dat (.sl (.pair (.sl (.int .i64)) (.pair (.int .i64) (.int .i64)))))
noncomputable def xs0i (v0 : Int) : Option (Zc) := tOf xs0i.mk (vlim E 104 (xs0i.c v0))
def xs03.c (v0 : Zc) : List Cell := ⟨(.val .one), [.d .sha (.sl (.pair (.sl (.int .i64)) (.pair (.int .i64) (.int .i64)))) v0], true, false, false, 0, 0⟩ :: vc (.fn 76 []) :: []
def xs03.mk (b : Zc) : R := (⟨(.tup []), []⟩, ⟨(.val .one), [.d .sha (.sl (.pair (.sl (.int .i64)) (.pair (.int .i64) (.int .i64)))) b], true, false, false, 0, 0⟩ :: nn 1 ([]))
def xs03.un (r : R) : Zc := ((leafF r 0 0).dat (.sl (.pair (.sl (.int .i64)) (.pair (.int .i64) (.int .i64)))))
noncomputable def xs03 (v0 : Zc) : Option (Zc) := tOf xs03.mk (vlim E 75 (xs03.c v0))
def xs0f.c (v0 : Zc) (v1 : Int) : List Cell := ⟨(.val .one), [.d .sha (.sl (.pair (.sl (.int .i64)) (.pair (.int .i64) (.int .i64)))) v0], true, false, false, 0, 0⟩ :: vc (iL v1) :: vc (.fn 76 []) :: []
def xs0f.mk (b : Zc) : R := (⟨(.tup []), []⟩, ⟨(.val .one), [.d .sha (.sl (.pair (.sl (.int .i64)) (.pair (.int .i64) (.int .i64)))) b], true, false, false, 0, 0⟩ :: nn 2 ([]))
def xs0f.un (r : R) : Zc := ((leafF r 0 0).dat (.sl (.pair (.sl (.int .i64)) (.pair (.int .i64) (.int .i64)))))
noncomputable def xs0f (v0 : Zc) (v1 : Int) : Option (Zc) := tOf xs0f.mk (vlim E 105 (xs0f.c v0 v1))
def xs08.c (v0 : Zc) (v1 : Int) (v2 : Int) : List Cell := ⟨(.val .one), [.d .sha (.sl (.pair (.sl (.int .i64)) (.pair (.int .i64) (.int .i64)))) v0], true, false, false, 0, 0⟩ :: vc (iL v1) :: vc (iL v2) :: vc (.fn 76 []) :: []
def xs08.mk (b : Zc) : R := (⟨(.tup []), []⟩, ⟨(.val .one), [.d .sha (.sl (.pair (.sl (.int .i64)) (.pair (.int .i64) (.int .i64)))) b], true, false, false, 0, 0⟩ :: nn 3 ([]))
def xs08.un (r : R) : Zc := ((leafF r 0 0).dat (.sl (.pair (.sl (.int .i64)) (.pair (.int .i64) (.int .i64)))))
noncomputable def xs08 (v0 : Zc) (v1 : Int) (v2 : Int) : Option (Zc) := tOf xs08.mk (vlim E 116 (xs08.c v0 v1 v2))
def xi1n.c (v0 : List Int) (v1 : Int) (v2 : Int) (v3 : List Int) (v4 : Int) (v5 : Int) : List Cell := ac [.d .fro (.sl (.int .i64)) v0, iL v1, iL v2] :: ac [.d .fro (.sl (.int .i64)) v3, iL v4, iL v5] :: []
def xi1n.mk (b : Int) : R := (⟨.one, [iL b]⟩, nn 2 ([]))
def xi1n.un (r : R) : Int := ((leafR r 0).dat (.int .i64))
noncomputable def xi1n (v0 : List Int) (v1 : Int) (v2 : Int) (v3 : List Int) (v4 : Int) (v5 : Int) : Option (Int) := tOf xi1n.mk (vlim E 76 (xi1n.c v0 v1 v2 v3 v4 v5))
def xs0d.c (v0 : Zc) (v1 : Int) (v2 : Int) (v3 : Int) : List Cell := ⟨(.val .one), [.d .sha (.sl (.pair (.sl (.int .i64)) (.pair (.int .i64) (.int .i64)))) v0], true, false, false, 0, 0⟩ :: vc (iL v1) :: vc (iL v2) :: vc (iL v3) :: vc (.fn 76 []) :: []
def xs0d.mk (b : Zc) : R := (⟨(.tup []), []⟩, ⟨(.val .one), [.d .sha (.sl (.pair (.sl (.int .i64)) (.pair (.int .i64) (.int .i64)))) b], true, false, false, 0, 0⟩ :: nn 4 ([]))
def xs0d.un (r : R) : Zc := ((leafF r 0 0).dat (.sl (.pair (.sl (.int .i64)) (.pair (.int .i64) (.int .i64)))))
noncomputable def xs0d (v0 : Zc) (v1 : Int) (v2 : Int) (v3 : Int) : Option (Zc) := tOf xs0d.mk (vlim E 117 (xs0d.c v0 v1 v2 v3))
def xs0e.c (v0 : Zc) (v1 : Int) (v2 : Int) (v3 : Int) : List Cell := ⟨(.val .one), [.d .sha (.sl (.pair (.sl (.int .i64)) (.pair (.int .i64) (.int .i64)))) v0], true, false, false, 0, 0⟩ :: vc (iL v1) :: vc (iL v2) :: vc (iL v3) :: vc (.fn 76 []) :: []
def xs0e.mk (b : Zc) : R := (⟨(.tup []), []⟩, ⟨(.val .one), [.d .sha (.sl (.pair (.sl (.int .i64)) (.pair (.int .i64) (.int .i64)))) b], true, false, false, 0, 0⟩ :: nn 4 ([]))
def xs0e.un (r : R) : Zc := ((leafF r 0 0).dat (.sl (.pair (.sl (.int .i64)) (.pair (.int .i64) (.int .i64)))))
noncomputable def xs0e (v0 : Zc) (v1 : Int) (v2 : Int) (v3 : Int) : Option (Zc) := tOf xs0e.mk (vlim E 122 (xs0e.c v0 v1 v2 v3))
def xs0c.c (v0 : Zc) (v1 : Int) (v2 : Int) (v3 : Int) : List Cell := ⟨(.val .one), [.d .sha (.sl (.pair (.sl (.int .i64)) (.pair (.int .i64) (.int .i64)))) v0], true, false, false, 0, 0⟩ :: vc (iL v1) :: vc (iL v2) :: vc (iL v3) :: vc (.fn 76 []) :: []
def xs0c.mk (b : Zc) : R := (⟨(.tup []), []⟩, ⟨(.val .one), [.d .sha (.sl (.pair (.sl (.int .i64)) (.pair (.int .i64) (.int .i64)))) b], true, false, false, 0, 0⟩ :: nn 4 ([]))
def xs0c.un (r : R) : Zc := ((leafF r 0 0).dat (.sl (.pair (.sl (.int .i64)) (.pair (.int .i64) (.int .i64)))))
noncomputable def xs0c (v0 : Zc) (v1 : Int) (v2 : Int) (v3 : Int) : Option (Zc) := tOf xs0c.mk (vlim E 123 (xs0c.c v0 v1 v2 v3))
def xi25.c (v0 : List Int) : List Cell := ac [.d .fro (.sl (.int .i64)) v0] :: []
def xi25.mk (b : (List Int)) : R := (⟨.agg, [.d .deep (.sl (.int .i64)) b]⟩, nn 1 ([]))
def xi25.un (r : R) : (List Int) := ((leafR r 0).dat (.sl (.int .i64)))
noncomputable def xi25 (v0 : List Int) : Option ((List Int)) := tOf xi25.mk (vlim E 77 (xi25.c v0))
def xs0y.c (v0 : List Int) : List Cell := vc (.d .fro (.sl (.int .i64)) v0) :: []
def xs0y.mk (b : (List Int)) : R := (⟨.one, [.d .deep (.sl (.int .i64)) b]⟩, nn 1 ([]))
def xs0y.un (r : R) : (List Int) := ((leafR r 0).dat (.sl (.int .i64)))
noncomputable def xs0y (v0 : List Int) : Option ((List Int)) := tOf xs0y.mk (vlim E 106 (xs0y.c v0))
def xs06.c (v0 : Zc) : List Cell := vc (.d .deep (.sl (.pair (.sl (.int .i64)) (.pair (.int .i64) (.int .i64)))) v0) :: vc (.fn 79 []) :: []
def xs06.mk (b : Zc) : R := (⟨.one, [.d .deep (.sl (.pair (.sl (.int .i64)) (.pair (.int .i64) (.int .i64)))) b]⟩, nn 2 ([]))
def xs06.un (r : R) : Zc := ((leafR r 0).dat (.sl (.pair (.sl (.int .i64)) (.pair (.int .i64) (.int .i64)))))
noncomputable def xs06 (v0 : Zc) : Option (Zc) := tOf xs06.mk (vlim E 78 (xs06.c v0))
def xs0b.c (v0 : Zc) : List Cell := vc (.d .fro (.sl (.pair (.sl (.int .i64)) (.pair (.int .i64) (.int .i64)))) v0) :: vc (.fn 79 []) :: []
def xs0b.mk (b : Int) : R := (⟨.one, [iL b]⟩, nn 2 ([]))
def xs0b.un (r : R) : Int := ((leafR r 0).dat (.int .i64))
noncomputable def xs0b (v0 : Zc) : Option (Int) := tOf xs0b.mk (vlim E 107 (xs0b.c v0))
def xi1o.c (v0 : List Int) (v1 : Int) (v2 : Int) : List Cell := ac [.d .fro (.sl (.int .i64)) v0, iL v1, iL v2] :: []
def xi1o.mk (b : Bool) : R := (⟨.one, [bL b]⟩, nn 1 ([]))
def xi1o.un (r : R) : Bool := ((leafR r 0).dat .bool)
noncomputable def xi1o (v0 : List Int) (v1 : Int) (v2 : Int) : Option (Bool) := tOf xi1o.mk (vlim E 79 (xi1o.c v0 v1 v2))
def xs2e.c (v0 : Zc) (v1 : List Int) : List Cell := vc (.d .fro (.sl (.pair (.sl (.int .i64)) (.pair (.int .i64) (.int .i64)))) v0) :: vc (.d .fro (.sl (.int .i64)) v1) :: []
def xs2e.mk (b : Zc × Bool) : R := (⟨(.tup [none, none]), [.d .deep (.sl (.pair (.sl (.int .i64)) (.pair (.int .i64) (.int .i64)))) b.1, bL b.2]⟩, nn 2 ([]))
def xs2e.un (r : R) : Zc × Bool := ((leafR r 0).dat (.sl (.pair (.sl (.int .i64)) (.pair (.int .i64) (.int .i64)))), (leafR r 1).dat .bool)
noncomputable def xs2e (v0 : Zc) (v1 : List Int) : Option (Zc × Bool) := tOf xs2e.mk (vlim E 14 (xs2e.c v0 v1))
def xl1g.c (v0 : Zc) (v1 : Zc) : List Cell := vc (.d .fro (.sl (.pair (.sl (.int .i64)) (.pair (.int .i64) (.int .i64)))) v0) :: vc (.d .fro (.sl (.pair (.sl (.int .i64)) (.pair (.int .i64) (.int .i64)))) v1) :: []
def xl1g.mk (b : Bool) : R := (⟨.one, [bL b]⟩, nn 2 ([]))
def xl1g.un (r : R) : Bool := ((leafR r 0).dat .bool)
noncomputable def xl1g (v0 : Zc) (v1 : Zc) : Option (Bool) := tOf xl1g.mk (vlim E 26 (xl1g.c v0 v1))
def xl29.c (v0 : List Int) (v1 : List Int) : List Cell := ac [.d .fro (.sl (.int .i64)) v0] :: ac [.d .fro (.sl (.int .i64)) v1] :: []
def xl29.mk (b : Bool) : R := (⟨.one, [bL b]⟩, nn 2 ([]))
def xl29.un (r : R) : Bool := ((leafR r 0).dat .bool)
noncomputable def xl29 (v0 : List Int) (v1 : List Int) : Option (Bool) := tOf xl29.mk (vlim E 59 (xl29.c v0 v1))
def xl1z.c (v0 : List Int) (v1 : List Int) : List Cell := vc (.d .fro (.sl (.int .i64)) v0) :: vc (.d .fro (.sl (.int .i64)) v1) :: []
def xl1z.mk (b : Bool) : R := (⟨.one, [bL b]⟩, nn 2 ([]))
def xl1z.un (r : R) : Bool := ((leafR r 0).dat .bool)
noncomputable def xl1z (v0 : List Int) (v1 : List Int) : Option (Bool) := tOf xl1z.mk (vlim E 97 (xl1z.c v0 v1))
def xi1w.c (v0 : Zc) : List Cell := vc (.d .fro (.sl (.pair (.sl (.int .i64)) (.pair (.int .i64) (.int .i64)))) v0) :: []
def xi1w.mk (b : Int × Int × Bool) : R := (⟨(.tup [none, none, none]), [iL b.1, iL b.2.1, bL b.2.2]⟩, nn 1 ([]))
def xi1w.un (r : R) : Int × Int × Bool := ((leafR r 0).dat (.int .i64), (leafR r 1).dat (.int .i64), (leafR r 2).dat .bool)
noncomputable def xi1w (v0 : Zc) : Option (Int × Int × Bool) := tOf xi1w.mk (vlim E 27 (xi1w.c v0))
def xs0t.c (v0 : List Int) : List Cell := vc (.d .fro (.sl (.int .u8)) v0) :: []
def xs0t.mk (b : Zc) : R := (⟨.one, [.d .deep (.sl (.pair (.sl (.int .i64)) (.pair (.int .i64) (.int .i64)))) b]⟩, nn 1 ([]))
def xs0t.un (r : R) : Zc := ((leafR r 0).dat (.sl (.pair (.sl (.int .i64)) (.pair (.int .i64) (.int .i64)))))
noncomputable def xs0t (v0 : List Int) : Option (Zc) := tOf xs0t.mk (vlim E 28 (xs0t.c v0))
def xs11.c (v0 : List Int) : List Cell := vc (.d .fro (.sl (.int .u8)) v0) :: []
def xs11.mk (b : Zc) : R := (⟨.one, [.d .deep (.sl (.pair (.sl (.int .i64)) (.pair (.int .i64) (.int .i64)))) b]⟩, nn 1 ([]))
def xs11.un (r : R) : Zc := ((leafR r 0).dat (.sl (.pair (.sl (.int .i64)) (.pair (.int .i64) (.int .i64)))))
noncomputable def xs11 (v0 : List Int) : Option (Zc) := tOf xs11.mk (vlim E 61 (xs11.c v0))
def xi15.c (v0 : Zc) : List Cell := vc (.d .fro (.sl (.pair (.sl (.int .i64)) (.pair (.int .i64) (.int .i64)))) v0) :: []
def xi15.mk (b : Int × Zd × Bool) : R := (⟨(.tup [some 2, none]), [iL b.1, .d .deep (.sl (.pair (.sl (.int .i64)) (.int .i64))) b.2.1, bL b.2.2]⟩, nn 1 ([]))
def xi15.un (r : R) : Int × Zd × Bool := ((leafR r 0).dat (.int .i64), (leafR r 1).dat (.sl (.pair (.sl (.int .i64)) (.int .i64))), (leafR r 2).dat .bool)
noncomputable def xi15 (v0 : Zc) : Option (Int × Zd × Bool) := tOf xi15.mk (vlim E 29 (xi15.c v0))
def xs0v.c (v0 : List (List Int)) : List Cell := vc (.d .fro (.sl (.sl (.int .i64))) v0) :: []
def xs0v.mk (b : (List Int)) : R := (⟨.one, [.d .deep (.sl (.int .i64)) b]⟩, nn 1 ([]))
def xs0v.un (r : R) : (List Int) := ((leafR r 0).dat (.sl (.int .i64)))
noncomputable def xs0v (v0 : List (List Int)) : Option ((List Int)) := tOf xs0v.mk (vlim E 63 (xs0v.c v0))
def xs0q.c (v0 : Int) : List Cell := vc (.nil (.int .i64)) :: vc (iL v0) :: []
def xs0q.mk (b : (List Int)) : R := (⟨.one, [.d .deep (.sl (.int .i64)) b]⟩, nn 2 ([]))
def xs0q.un (r : R) : (List Int) := ((leafR r 0).dat (.sl (.int .i64)))
noncomputable def xs0q (v0 : Int) : Option ((List Int)) := tOf xs0q.mk (vlim E 98 (xs0q.c v0))
def xs16.c (v0 : Zc) : List Cell := vc (.d .fro (.sl (.pair (.sl (.int .i64)) (.pair (.int .i64) (.int .i64)))) v0) :: []
def xs16.mk (b : Int × Zd × Bool) : R := (⟨(.tup [some 2, none]), [iL b.1, .d .deep (.sl (.pair (.sl (.int .i64)) (.int .i64))) b.2.1, bL b.2.2]⟩, nn 1 ([]))
def xs16.un (r : R) : Int × Zd × Bool := ((leafR r 0).dat (.int .i64), (leafR r 1).dat (.sl (.pair (.sl (.int .i64)) (.int .i64))), (leafR r 2).dat .bool)
noncomputable def xs16 (v0 : Zc) : Option (Int × Zd × Bool) := tOf xs16.mk (vlim E 30 (xs16.c v0))
def xl2m.c (v0 : Int) (v1 : Zd) (v2 : Int) (v3 : Zd) : List Cell := ac [iL v0, .d .fro (.sl (.pair (.sl (.int .i64)) (.int .i64))) v1] :: ac [iL v2, .d .fro (.sl (.pair (.sl (.int .i64)) (.int .i64))) v3] :: []
def xl2m.mk (b : Bool) : R := (⟨.one, [bL b]⟩, nn 2 ([]))
def xl2m.un (r : R) : Bool := ((leafR r 0).dat .bool)
noncomputable def xl2m (v0 : Int) (v1 : Zd) (v2 : Int) (v3 : Zd) : Option (Bool) := tOf xl2m.mk (vlim E 31 (xl2m.c v0 v1 v2 v3))
def xi24.c (v0 : Int) (v1 : Zd) : List Cell := ac [iL v0, .d .fro (.sl (.pair (.sl (.int .i64)) (.int .i64))) v1] :: []
def xi24.mk (b : Bool × Bool) : R := (⟨(.tup [none, none]), [bL b.1, bL b.2]⟩, nn 1 ([]))
def xi24.un (r : R) : Bool × Bool := ((leafR r 0).dat .bool, (leafR r 1).dat .bool)
noncomputable def xi24 (v0 : Int) (v1 : Zd) : Option (Bool × Bool) := tOf xi24.mk (vlim E 32 (xi24.c v0 v1))
def xi1l.c (v0 : Int) (v1 : Zd) : List Cell := ac [iL v0, .d .fro (.sl (.pair (.sl (.int .i64)) (.int .i64))) v1] :: []
def xi1l.mk (b : Bool) : R := (⟨.one, [bL b]⟩, nn 1 ([]))
def xi1l.un (r : R) : Bool := ((leafR r 0).dat .bool)
noncomputable def xi1l (v0 : Int) (v1 : Zd) : Option (Bool) := tOf xi1l.mk (vlim E 52 (xi1l.c v0 v1))
def xi1p.c (v0 : Int) : List Cell := vc (iL v0) :: []
def xi1p.mk (b : Bool) : R := (⟨.one, [bL b]⟩, nn 1 ([]))
def xi1p.un (r : R) : Bool := ((leafR r 0).dat .bool)
noncomputable def xi1p (v0 : Int) : Option (Bool) := tOf xi1p.mk (vlim E 89 (xi1p.c v0))
def xi1x.c (v0 : Int) : List Cell := vc (iL v0) :: []
def xi1x.mk (b : Bool) : R := (⟨.one, [bL b]⟩, nn 1 ([]))
def xi1x.un (r : R) : Bool := ((leafR r 0).dat .bool)
noncomputable def xi1x (v0 : Int) : Option (Bool) := tOf xi1x.mk (vlim E 90 (xi1x.c v0))
def xi0h.c (v0 : Zd) : List Cell := vc (.d .fro (.sl (.pair (.sl (.int .i64)) (.int .i64))) v0) :: vc (.fn 65 []) :: []
def xi0h.mk (b : Bool) : R := (⟨.one, [bL b]⟩, nn 2 ([]))
def xi0h.un (r : R) : Bool := ((leafR r 0).dat .bool)
noncomputable def xi0h (v0 : Zd) : Option (Bool) := tOf xi0h.mk (vlim E 64 (xi0h.c v0))
def xs00.c (v0 : Zd) : List Cell := vc (.d .fro (.sl (.pair (.sl (.int .i64)) (.int .i64))) v0) :: vc (.fn 100 [.rp [.fn 65 []] 0]) :: []
def xs00.mk (b : Bool) : R := (⟨.one, [bL b]⟩, nn 2 ([]))
def xs00.un (r : R) : Bool := ((leafR r 0).dat .bool)
noncomputable def xs00 (v0 : Zd) : Option (Bool) := tOf xs00.mk (vlim E 99 (xs00.c v0))
def xs01.c (v0 : Zd) : List Cell := vc (.d .fro (.sl (.pair (.sl (.int .i64)) (.int .i64))) v0) :: vc (.fn 100 [.rp [.fn 65 []] 0]) :: []
def xs01.mk (b : Int) : R := (⟨.one, [iL b]⟩, nn 2 ([]))
def xs01.un (r : R) : Int := ((leafR r 0).dat (.int .i64))
noncomputable def xs01 (v0 : Zd) : Option (Int) := tOf xs01.mk (vlim E 114 (xs01.c v0))
def xi0g.c (v0 : List Int) (v1 : Int) : List Cell := ac [.d .fro (.sl (.int .i64)) v0, iL v1] :: vc (.rp [.fn 65 []] 0) :: []
def xi0g.mk (b : Bool) : R := (⟨.one, [bL b]⟩, nn 2 ([]))
def xi0g.un (r : R) : Bool := ((leafR r 0).dat .bool)
noncomputable def xi0g (v0 : List Int) (v1 : Int) : Option (Bool) := tOf xi0g.mk (vlim E 100 (xi0g.c v0 v1))
def xi1m.c (v0 : List Int) (v1 : Int) : List Cell := ac [.d .fro (.sl (.int .i64)) v0, iL v1] :: []
def xi1m.mk (b : Bool) : R := (⟨.one, [bL b]⟩, nn 1 ([]))
def xi1m.un (r : R) : Bool := ((leafR r 0).dat .bool)
noncomputable def xi1m (v0 : List Int) (v1 : Int) : Option (Bool) := tOf xi1m.mk (vlim E 65 (xi1m.c v0 v1))
def tabT : List (Nat × List (List Cell × Tb)) := [
 (6, [(xl1y.c [] [], .one (Bool) xl1y.mk)]),
 (14, [(xs2e.c [] [], .one (Zc × Bool) xs2e.mk)]),
 (16, [(xi2b.c [] [], .one (Zc × Bool) xi2b.mk)]),
 (20, [(xs1k.c 0 [] [] 0, .one (Zc × Bool) xs1k.mk)]),
 (25, [(xs1h.c [], .one (Zc × (List Int)) xs1h.mk)]),
 (26, [(xl1g.c [] [], .one (Bool) xl1g.mk)]),
 (27, [(xi1w.c [], .one (Int × Int × Bool) xi1w.mk)]),
 (28, [(xs0t.c [], .one (Zc) xs0t.mk)]),
 (29, [(xi15.c [], .one (Int × Zd × Bool) xi15.mk)]),
 (30, [(xs16.c [], .one (Int × Zd × Bool) xs16.mk)]),
 (31, [(xl2m.c 0 [] 0 [], .one (Bool) xl2m.mk)]),
 (32, [(xi24.c 0 [], .one (Bool × Bool) xi24.mk)]),
 (34, [(xs1j.c [], .one (Bool) xs1j.mk)]),
 (35, [(xs2k.c [] [] 0 0, .one (Zc) xs2k.mk)]),
 (36, [(xs2h.c [], .one (Zc × Bool) xs2h.mk)]),
 (38, [(xi1d.c [], .one (Bool) xi1d.mk)]),
 (39, [(xi1q.c [], .one (Int) xi1q.mk)]),
 (40, [(xi26.c [], .one (Zc × Bool) xi26.mk)]),
 (43, [(xs2f.c [] [], .one ((List Int)) xs2f.mk)]),
 (44, [(xi1f.c [] 0, .one (Bool) xi1f.mk)]),
 (45, [(xi0l.c [] 0, .one (Bool) xi0l.mk), (xi0o.c [], .one (Bool) xi0o.mk), (xi0p.c [], .one (Bool) xi0p.mk)]),
 (46, [(xi1v.c 0, .one (Bool) xi1v.mk)]),
 (47, [(xi1e.c [] [], .one ((List Int)) xi1e.mk)]),
 (49, [(xs1r.c 0 [], .one (Bool) xs1r.mk)]),
 (50, [(xs1s.c [] 0, .one (Bool) xs1s.mk)]),
 (52, [(xi1l.c 0 [], .one (Bool) xi1l.mk)]),
 (53, [(xi2d.c 0 0 0, .one (Bool) xi2d.mk)]),
 (56, [(xs17.c [] 0 0, .one (Int × (List Int) × Int × Int) xs17.mk)]),
 (57, [(xs0w.c [] 0 0 0, .one (Zc × (List Int) × Int × Int) xs0w.mk)]),
 (58, [(xs0u.c [] 0 0 0, .one ((List Int) × (List Int) × Int × Int) xs0u.mk)]),
 (59, [(xl29.c [] [], .one (Bool) xl29.mk)]),
 (60, [(xi2i.c 0, .one (Bool) xi2i.mk)]),
 (61, [(xs11.c [], .one (Zc) xs11.mk)]),
 (62, [(xi2c.c 0, .one (Bool) xi2c.mk)]),
 (63, [(xs0v.c [], .one ((List Int)) xs0v.mk)]),
 (64, [(xi0h.c [], .one (Bool) xi0h.mk)]),
 (65, [(xi1m.c [] 0, .one (Bool) xi1m.mk)]),
 (67, [(xs2a.c [], .one (Bool) xs2a.mk)]),
 (68, [(xs2l.c 0, .one (Bool) xs2l.mk)]),
 (69, [(xs1t.c [] [], .one (Int) xs1t.mk)]),
 (70, [(xs21.c [], .one ((List Int)) xs21.mk)]),
 (72, [(xi28.c [] 0, .one (Bool) xi28.mk)]),
 (73, [(xi1b.c [] [], .one (Int) xi1b.mk)]),
 (74, [(xs0k.c [], .one (Zc) xs0k.mk)]),
 (75, [(xs03.c [], .one (Zc) xs03.mk)]),
 (76, [(xi1n.c [] 0 0 [] 0 0, .one (Int) xi1n.mk)]),
 (77, [(xi25.c [], .one ((List Int)) xi25.mk)]),
 (78, [(xs06.c [], .one (Zc) xs06.mk)]),
 (79, [(xi1o.c [] 0 0, .one (Bool) xi1o.mk)]),
 (81, [(xi1a.c 0 0, .one (Bool) xi1a.mk)]),
 (82, [(xi27.c 0 0, .one (Bool) xi27.mk)]),
 (83, [(xs02.c [] 0, .one (Bool) xs02.mk), (xs05.c [], .one (Bool) xs05.mk), (xs07.c [], .one (Bool) xs07.mk)]),
 (84, [(xi0j.c 0 0, .one (Bool) xi0j.mk), (xi0m.c 0, .one (Bool) xi0m.mk), (xi0n.c 0, .one (Bool) xi0n.mk)]),
 (86, [(xs22.c 0, .one (Bool) xs22.mk)]),
 (87, [(xs2n.c 0 0 0, .one (Bool) xs2n.mk)]),
 (89, [(xi1p.c 0, .one (Bool) xi1p.mk)]),
 (90, [(xi1x.c 0, .one (Bool) xi1x.mk)]),
 (92, [(xs14.c [] 0 0 0, .one (Int × (List Int) × Int × Int) xs14.mk)]),
 (93, [(xs10.c [] 0 0 0, .one (Int × Zd × (List Int) × Int × Int) xs10.mk)]),
 (94, [(xs18.c [] 0 0 0, .one (Bool × (List Int) × Int × Int) xs18.mk)]),
 (95, [(xs0z.c [] 0 0 [], .one (Int × (List Int) × Int × Int) xs0z.mk)]),
 (96, [(xs19.c [] 0 0 0, ⟨((List Int) × (List Int) × Int × Int) ⊕ ((List Int) × Int × Int), Sum.isLeft, xs19.f, xs19.g⟩)]),
 (97, [(xl1z.c [] [], .one (Bool) xl1z.mk)]),
 (98, [(xs0q.c 0, .one ((List Int)) xs0q.mk)]),
 (99, [(xs00.c [], .one (Bool) xs00.mk)]),
 (100, [(xi0g.c [] 0, .one (Bool) xi0g.mk)]),
 (102, [(xi23.c [], .one (Bool) xi23.mk)]),
 (103, [(xs0s.c [] [], .one (Int) xs0s.mk)]),
 (104, [(xs0i.c 0, .one (Zc) xs0i.mk)]),
 (105, [(xs0f.c [] 0, .one (Zc) xs0f.mk)]),
 (106, [(xs0y.c [], .one ((List Int)) xs0y.mk)]),
 (107, [(xs0b.c [], .one (Int) xs0b.mk)]),
 (108, [(xs04.c [] 0, .one (Int) xs04.mk), (xs09.c [], .one (Int) xs09.mk), (xs0a.c [], .one (Int) xs0a.mk)]),
 (109, [(xs13.c [] 0 0, .one (Int × (List Int) × Int × Int) xs13.mk)]),
 (110, [(xs20.c 0 [], .one (Int × Zd × Bool) xs20.mk)]),
 (111, [(xs0r.c [] 0 0 0 0, .one (Zd × (List Int) × Int × Int) xs0r.mk)]),
 (112, [(xs1i.c 0, .one (Int × Zd × Bool) xs1i.mk)]),
 (113, [(xs12.c [] 0 0, .one (Int × (List Int) × Int × Int) xs12.mk)]),
 (114, [(xs01.c [], .one (Int) xs01.mk)]),
 (115, [(xc1c.c 0 0, .one (Int) xc1c.mk)]),
 (116, [(xs08.c [] 0 0, .one (Zc) xs08.mk)]),
 (117, [(xs0d.c [] 0 0 0, .one (Zc) xs0d.mk)]),
 (118, [(xs2j.c [] [] 0, .one (Zd) xs2j.mk)]),
 (119, [(xs2g.c 0 [], .one (Int × Zd × Bool) xs2g.mk)]),
 (120, [(xs0x.c [] 0 0, .one (Int × (List Int) × Int × Int) xs0x.mk)]),
 (121, [(xc1u.c 0, .one (Bool) xc1u.mk)]),
 (122, [(xs0e.c [] 0 0 0, .one (Zc) xs0e.mk)]),
 (123, [(xs0c.c [] 0 0 0, .one (Zc) xs0c.mk)])]
def tab : FuncId → List Cell → Tb := fun g cs => match assoc tabT g with | some l => pickT l cs | none => .no
end GoV

/- Equations of the program's functions (printed by wip/tools/emit.py). -/
namespace GoV
open Go Go.Proofs
set_option maxRecDepth 100000

def xl1y.s2000021 (v0 : Zc) (v1 : Int) (v2 : Zd) (v3 : Bool) : List Cell := nn 19 (vc (.d .deep (.sl (.pair (.sl (.int .i64)) (.pair (.int .i64) (.int .i64)))) v0) :: ⟨(.box false), [iL v1, .d .deep (.sl (.pair (.sl (.int .i64)) (.int .i64))) v2], false, false, false, 0, 0⟩ :: vc (bL v3) :: nn 121 ([]))
noncomputable def xl1y.q2000021 := fun v0 v1 v2 v3 => joinAtL E (callT E tab) 6 Try.f6 2 [.r, .r, .r, .r, .r, .r, .r, .r, .r, .r, .r, .l, .l] (xl1y.s2000021 v0 v1 v2 v3)
noncomputable def xl1y.l2000021 := fun v0 v1 v2 v3 => tOf xl1y.mk (xl1y.q2000021 v0 v1 v2 v3)
def xl1y.s2000016 (v0 : List Int) : List Cell := nn 1 (vc (.d .fro (.sl (.int .u8)) v0) :: nn 141 ([]))
noncomputable def xl1y.q2000016 := fun v0 => joinAtL E (callT E tab) 6 Try.f6 2 [.r, .r, .r, .r, .r, .r, .r, .l] (xl1y.s2000016 v0)
noncomputable def xl1y.l2000016 := fun v0 => tOf xl1y.mk (xl1y.q2000016 v0)
def xl1y.s2000013 (v0 : List Int) (v1 : Zc) (v2 : Bool) : List Cell := nn 1 (vc (.d .fro (.sl (.int .u8)) v0) :: nn 3 (vc (.d .deep (.sl (.pair (.sl (.int .i64)) (.pair (.int .i64) (.int .i64)))) v1) :: nn 7 (vc (bL v2) :: nn 129 ([]))))
noncomputable def xl1y.q2000013 := fun v0 v1 v2 => joinAtL E (callT E tab) 6 Try.f6 2 [.r, .r, .r, .r, .r, .r, .l, .r, .l, .r, .r, .r, .l] (xl1y.s2000013 v0 v1 v2)
noncomputable def xl1y.l2000013 := fun v0 v1 v2 => tOf xl1y.mk (xl1y.q2000013 v0 v1 v2)
def xl1y.s2000008 (v0 : List Int) (v1 : Zc) (v2 : Zc) (v3 : Bool) : List Cell := nn 1 (vc (.d .fro (.sl (.int .u8)) v0) :: nn 3 (vc (.d .deep (.sl (.pair (.sl (.int .i64)) (.pair (.int .i64) (.int .i64)))) v1) :: nn 1 (vc (.d .deep (.sl (.pair (.sl (.int .i64)) (.pair (.int .i64) (.int .i64)))) v2) :: vc (bL v3) :: nn 134 ([]))))
noncomputable def xl1y.q2000008 := fun v0 v1 v2 v3 => joinAtL E (callT E tab) 6 Try.f6 2 [.r, .r, .r, .r, .r, .r, .l, .l] (xl1y.s2000008 v0 v1 v2 v3)
noncomputable def xl1y.l2000008 := fun v0 v1 v2 v3 => tOf xl1y.mk (xl1y.q2000008 v0 v1 v2 v3)
noncomputable def xl1y.t {γ : Type} (ret : (Bool) → Option γ) (lp2000021 : Zc → Int → Zd → Bool → Option γ) (lp2000016 : (List Int) → Option γ) (lp2000013 : (List Int) → Zc → Bool → Option γ) (lp2000008 : (List Int) → Zc → Zc → Bool → Option γ) (v0 : List Int) (v1 : List Int) : Option γ :=
 bif decide (IntKind.i64.wrap ((↑v0.length : Int) + (↑v1.length : Int)) > (1048576 : Int)) then
  ret (Bool.true)
 else
  (xs1h (v0)).bind fun (r0 : Zc × (List Int)) =>
  (xi2b (r0.fst) (r0.snd)).bind fun (r1 : Zc × Bool) =>
  (xs2e (r0.fst) (r0.snd)).bind fun (r2 : Zc × Bool) =>
  bif !r1.snd == r2.snd then
   ret (Bool.false)
  else
   (xl1g (r1.fst) (r2.fst)).bind fun (r3 : Bool) =>
   bif !r3 then
    ret (Bool.false)
   else
    lp2000008 (v1) (r0.fst) (r1.fst) (r1.snd)
noncomputable def xl1y.t2000021 {γ : Type} (ret : (Bool) → Option γ) (lp2000021 : Zc → Int → Zd → Bool → Option γ) (lp2000016 : (List Int) → Option γ) (lp2000013 : (List Int) → Zc → Bool → Option γ) (lp2000008 : (List Int) → Zc → Zc → Bool → Option γ) (v0 : Zc) (v1 : Int) (v2 : Zd) (v3 : Bool) : Option γ :=
 bif !v3 then
  ret ((↑v2.length : Int) == (0 : Int))
 else
  (xi24 (v1) (v2)).bind fun (r11 : Bool × Bool) =>
  bif r11.snd then
   bif r11.fst then
    ret ((↑v2.length : Int) == (↑v0.length : Int))
   else
    ret (Bool.false)
  else
   ret (Bool.false)
noncomputable def xl1y.t2000016 {γ : Type} (ret : (Bool) → Option γ) (lp2000021 : Zc → Int → Zd → Bool → Option γ) (lp2000016 : (List Int) → Option γ) (lp2000013 : (List Int) → Zc → Bool → Option γ) (lp2000008 : (List Int) → Zc → Zc → Bool → Option γ) (v0 : List Int) : Option γ :=
 (xs0t (v0)).bind fun (r7 : Zc) =>
 (xi15 (r7)).bind fun (r8 : Int × Zd × Bool) =>
 (xs16 (r7)).bind fun (r9 : Int × Zd × Bool) =>
 bif !r8.snd.snd == r9.snd.snd then
  ret (Bool.false)
 else
  (xl2m (r8.fst) (r8.snd.fst) (r9.fst) (r9.snd.fst)).bind fun (r10 : Bool) =>
  bif !r10 then
   ret (Bool.false)
  else
   lp2000021 (r7) (r8.fst) (r8.snd.fst) (r8.snd.snd)
noncomputable def xl1y.t2000013 {γ : Type} (ret : (Bool) → Option γ) (lp2000021 : Zc → Int → Zd → Bool → Option γ) (lp2000016 : (List Int) → Option γ) (lp2000013 : (List Int) → Zc → Bool → Option γ) (lp2000008 : (List Int) → Zc → Zc → Bool → Option γ) (v0 : List Int) (v1 : Zc) (v2 : Bool) : Option γ :=
 (xi2b (v1) ([])).bind fun (r6 : Zc × Bool) =>
 bif r6.snd then
  bif v2 then
   bif decide ((↑r6.fst.length : Int) > (1 : Int)) then
    ret (Bool.false)
   else
    lp2000016 (v0)
  else
   lp2000016 (v0)
 else
  lp2000016 (v0)
noncomputable def xl1y.t2000008 {γ : Type} (ret : (Bool) → Option γ) (lp2000021 : Zc → Int → Zd → Bool → Option γ) (lp2000016 : (List Int) → Option γ) (lp2000013 : (List Int) → Zc → Bool → Option γ) (lp2000008 : (List Int) → Zc → Zc → Bool → Option γ) (v0 : List Int) (v1 : Zc) (v2 : Zc) (v3 : Bool) : Option γ :=
 bif v3 then
  (xi1w (v1)).bind fun (r4 : Int × Int × Bool) =>
  (xi1w (v2)).bind fun (r5 : Int × Int × Bool) =>
  bif r4.snd.snd then
   bif r5.snd.snd then
    bif r4.fst != r5.fst then
     ret (Bool.false)
    else
     bif r4.snd.fst != r5.snd.fst then
      ret (Bool.false)
     else
      lp2000013 (v0) (v1) (r4.snd.snd)
   else
    lp2000013 (v0) (v1) (r4.snd.snd)
  else
   lp2000013 (v0) (v1) (r4.snd.snd)
 else
  lp2000016 (v0)
theorem xl1y.k (v0 v1) : topL E (callT E tab) 6 Try.f6 (xl1y.c v0 v1) = xl1y.t (fun b => some (xl1y.mk b)) xl1y.q2000021 xl1y.q2000016 xl1y.q2000013 xl1y.q2000008 v0 v1 := by kernel_rfl
theorem xl1y.k2000021 (v0 v1 v2 v3) : roundJ E (callT E tab) 6 Try.f6 2 [.r, .r, .r, .r, .r, .r, .r, .r, .r, .r, .r, .l, .l] (xl1y.s2000021 v0 v1 v2 v3) = xl1y.t2000021 (fun b => some (xl1y.mk b)) xl1y.q2000021 xl1y.q2000016 xl1y.q2000013 xl1y.q2000008 v0 v1 v2 v3 := by kernel_rfl
theorem xl1y.k2000016 (v0) : roundJ E (callT E tab) 6 Try.f6 2 [.r, .r, .r, .r, .r, .r, .r, .l] (xl1y.s2000016 v0) = xl1y.t2000016 (fun b => some (xl1y.mk b)) xl1y.q2000021 xl1y.q2000016 xl1y.q2000013 xl1y.q2000008 v0 := by kernel_rfl
theorem xl1y.k2000013 (v0 v1 v2) : roundJ E (callT E tab) 6 Try.f6 2 [.r, .r, .r, .r, .r, .r, .l, .r, .l, .r, .r, .r, .l] (xl1y.s2000013 v0 v1 v2) = xl1y.t2000013 (fun b => some (xl1y.mk b)) xl1y.q2000021 xl1y.q2000016 xl1y.q2000013 xl1y.q2000008 v0 v1 v2 := by kernel_rfl
theorem xl1y.k2000008 (v0 v1 v2 v3) : roundJ E (callT E tab) 6 Try.f6 2 [.r, .r, .r, .r, .r, .r, .l, .l] (xl1y.s2000008 v0 v1 v2 v3) = xl1y.t2000008 (fun b => some (xl1y.mk b)) xl1y.q2000021 xl1y.q2000016 xl1y.q2000013 xl1y.q2000008 v0 v1 v2 v3 := by kernel_rfl
theorem xl1y.eq (v0 v1) {b} (h : xl1y.t some xl1y.l2000021 xl1y.l2000016 xl1y.l2000013 xl1y.l2000008 v0 v1 = some b) : xl1y v0 v1 = some b := tOf_intro xl1y.un (fun _ => by kernel_rfl) (vlim_fn (callT_le E tab) rfl rfl rfl ((xl1y.k v0 v1).trans ((by unfold xl1y.t; repeat' first | exact Sub.ret | exact Sub.none | exact Sub.loop | apply Sub.cond | (apply Sub.bind; intro _) : Sub xl1y.mk _ _) b h)))
theorem xl1y.eq2000021 (v0 v1 v2 v3) {b} (h : xl1y.t2000021 some xl1y.l2000021 xl1y.l2000016 xl1y.l2000013 xl1y.l2000008 v0 v1 v2 v3 = some b) : xl1y.l2000021 v0 v1 v2 v3 = some b := tOf_intro xl1y.un (fun _ => by kernel_rfl) (joinAtL_step ((xl1y.k2000021 v0 v1 v2 v3).trans ((by unfold xl1y.t2000021; repeat' first | exact Sub.ret | exact Sub.none | exact Sub.loop | apply Sub.cond | (apply Sub.bind; intro _) : Sub xl1y.mk _ _) b h)))
theorem xl1y.eq2000016 (v0) {b} (h : xl1y.t2000016 some xl1y.l2000021 xl1y.l2000016 xl1y.l2000013 xl1y.l2000008 v0 = some b) : xl1y.l2000016 v0 = some b := tOf_intro xl1y.un (fun _ => by kernel_rfl) (joinAtL_step ((xl1y.k2000016 v0).trans ((by unfold xl1y.t2000016; repeat' first | exact Sub.ret | exact Sub.none | exact Sub.loop | apply Sub.cond | (apply Sub.bind; intro _) : Sub xl1y.mk _ _) b h)))
theorem xl1y.eq2000013 (v0 v1 v2) {b} (h : xl1y.t2000013 some xl1y.l2000021 xl1y.l2000016 xl1y.l2000013 xl1y.l2000008 v0 v1 v2 = some b) : xl1y.l2000013 v0 v1 v2 = some b := tOf_intro xl1y.un (fun _ => by kernel_rfl) (joinAtL_step ((xl1y.k2000013 v0 v1 v2).trans ((by unfold xl1y.t2000013; repeat' first | exact Sub.ret | exact Sub.none | exact Sub.loop | apply Sub.cond | (apply Sub.bind; intro _) : Sub xl1y.mk _ _) b h)))
theorem xl1y.eq2000008 (v0 v1 v2 v3) {b} (h : xl1y.t2000008 some xl1y.l2000021 xl1y.l2000016 xl1y.l2000013 xl1y.l2000008 v0 v1 v2 v3 = some b) : xl1y.l2000008 v0 v1 v2 v3 = some b := tOf_intro xl1y.un (fun _ => by kernel_rfl) (joinAtL_step ((xl1y.k2000008 v0 v1 v2 v3).trans ((by unfold xl1y.t2000008; repeat' first | exact Sub.ret | exact Sub.none | exact Sub.loop | apply Sub.cond | (apply Sub.bind; intro _) : Sub xl1y.mk _ _) b h)))
noncomputable def xs1h.t {γ : Type} (ret : (Zc × (List Int)) → Option γ) (v0 : List Int) : Option γ :=
 (xs17 (v0) ((0 : Int)) ((0 : Int))).bind fun (r0 : Int × (List Int) × Int × Int) =>
 (xs0w (r0.snd.fst) (r0.snd.snd.fst) (r0.snd.snd.snd) (r0.fst)).bind fun (r1 : Zc × (List Int) × Int × Int) =>
 (xs0u (r1.snd.fst) (r1.snd.snd.fst) (r1.snd.snd.snd) (IntKind.i64.wrap (r0.fst - (1 : Int)))).bind fun (r2 : (List Int) × (List Int) × Int × Int) =>
 ret (r1.fst, r2.fst)
theorem xs1h.k (v0) : topL E (callT E tab) 25 Try.f25 (xs1h.c v0) = xs1h.t (fun b => some (xs1h.mk b)) v0 := by kernel_rfl
theorem xs1h.eq (v0) {b} (h : xs1h.t some v0 = some b) : xs1h v0 = some b := tOf_intro xs1h.un (fun _ => by kernel_rfl) (vlim_fn (callT_le E tab) rfl rfl rfl ((xs1h.k v0).trans ((by unfold xs1h.t; repeat' first | exact Sub.ret | exact Sub.none | exact Sub.loop | apply Sub.cond | (apply Sub.bind; intro _) : Sub xs1h.mk _ _) b h)))
noncomputable def xs17.t {γ : Type} (ret : (Int × (List Int) × Int × Int) → Option γ) (v0 : List Int) (v1 : Int) (v2 : Int) : Option γ :=
 (xs14 (v0) (v1) (v2) ((3 : Int))).bind fun (r0 : Int × (List Int) × Int × Int) =>
 ret (IntKind.i64.wrap ((1 : Int) + r0.fst), r0.snd.fst, r0.snd.snd.fst, r0.snd.snd.snd)
theorem xs17.k (v0 v1 v2) : topL E (callT E tab) 56 Try.f56 (xs17.c v0 v1 v2) = xs17.t (fun b => some (xs17.mk b)) v0 v1 v2 := by kernel_rfl
theorem xs17.eq (v0 v1 v2) {b} (h : xs17.t some v0 v1 v2 = some b) : xs17 v0 v1 v2 = some b := tOf_intro xs17.un (fun _ => by kernel_rfl) (vlim_fn (callT_le E tab) rfl rfl rfl ((xs17.k v0 v1 v2).trans ((by unfold xs17.t; repeat' first | exact Sub.ret | exact Sub.none | exact Sub.loop | apply Sub.cond | (apply Sub.bind; intro _) : Sub xs17.mk _ _) b h)))
noncomputable def xs14.t {γ : Type} (ret : (Int × (List Int) × Int × Int) → Option γ) (v0 : List Int) (v1 : Int) (v2 : Int) (v3 : Int) : Option γ :=
 bif decide (v3 ≤ (1 : Int)) then
  ret ((0 : Int), v0, v1, v2)
 else
  (xs13 (v0) (v1) (v2)).bind fun (r0 : Int × (List Int) × Int × Int) =>
  bif decide (v3 > (200 : Int)) then
   (xs13 (r0.snd.fst) (r0.snd.snd.fst) (r0.snd.snd.snd)).bind fun (r1 : Int × (List Int) × Int × Int) =>
   bif decide (v3 ≠ (0 : Int)) then
    ret ((IntKind.i64.wrap (IntKind.i64.wrap (r0.fst * (256 : Int)) + r1.fst)).tmod v3, r1.snd.fst, r1.snd.snd.fst, r1.snd.snd.snd)
   else
    none
  else
   bif decide (v3 ≠ (0 : Int)) then
    ret (r0.fst.tmod v3, r0.snd.fst, r0.snd.snd.fst, r0.snd.snd.snd)
   else
    none
theorem xs14.k (v0 v1 v2 v3) : topL E (callT E tab) 92 Try.f92 (xs14.c v0 v1 v2 v3) = xs14.t (fun b => some (xs14.mk b)) v0 v1 v2 v3 := by kernel_rfl
theorem xs14.eq (v0 v1 v2 v3) {b} (h : xs14.t some v0 v1 v2 v3 = some b) : xs14 v0 v1 v2 v3 = some b := tOf_intro xs14.un (fun _ => by kernel_rfl) (vlim_fn (callT_le E tab) rfl rfl rfl ((xs14.k v0 v1 v2 v3).trans ((by unfold xs14.t; repeat' first | exact Sub.ret | exact Sub.none | exact Sub.loop | apply Sub.cond | (apply Sub.bind; intro _) : Sub xs14.mk _ _) b h)))
noncomputable def xs13.t {γ : Type} (ret : (Int × (List Int) × Int × Int) → Option γ) (v0 : List Int) (v1 : Int) (v2 : Int) : Option γ :=
 bif decide (v1 < (↑v0.length : Int)) then
  bif decide ((0 : Int) ≤ v1) then
   bif decide (v1.toNat < v0.length) then
    bif decide (IntKind.i64.wrap (v1 + (1 : Int)) ≤ (↑v0.length : Int)) then
     ret (IntKind.i64.wrap (v0.getD v1.toNat (0 : Int)), v0, IntKind.i64.wrap (v1 + (1 : Int)), IntKind.u64.wrap   (IntKind.u64.wrap       (IntKind.u64.wrap (v2 * (6364136223846793005 : Int)) +         IntKind.u64.wrap (IntKind.i64.wrap (v0.getD v1.toNat (0 : Int)))) +     (1442695040888963407 : Int)))
    else
     ret (IntKind.i64.wrap   (IntKind.u64.wrap     (↑(BitVec.ofInt IntKind.u64.bits               ((IntKind.u64.wrap                     (IntKind.u64.wrap                         (IntKind.u64.wrap (v2 * (6364136223846793005 : Int)) +                           IntKind.u64.wrap (IntKind.i64.wrap (v0.getD v1.toNat (0 : Int)))) +                       (1442695040888963407 : Int))).fdiv                 ((2 : Int) ^ Min.min (Int.toNat (40 : Int)) IntKind.u64.bits)) &&&             BitVec.ofInt IntKind.u64.bits (255 : Int)).toNat :       Int)), v0, IntKind.i64.wrap (v1 + (1 : Int)), IntKind.u64.wrap   (IntKind.u64.wrap       (IntKind.u64.wrap (v2 * (6364136223846793005 : Int)) +         IntKind.u64.wrap (IntKind.i64.wrap (v0.getD v1.toNat (0 : Int)))) +     (1442695040888963407 : Int)))
   else
    none
  else
   none
 else
  bif decide (IntKind.i64.wrap (v1 + (1 : Int)) ≤ (↑v0.length : Int)) then
   ret ((0 : Int), v0, IntKind.i64.wrap (v1 + (1 : Int)), IntKind.u64.wrap   (IntKind.u64.wrap (IntKind.u64.wrap (v2 * (6364136223846793005 : Int)) + IntKind.u64.wrap (0 : Int)) +     (1442695040888963407 : Int)))
  else
   ret (IntKind.i64.wrap   (IntKind.u64.wrap     (↑(BitVec.ofInt IntKind.u64.bits               ((IntKind.u64.wrap                     (IntKind.u64.wrap                         (IntKind.u64.wrap (v2 * (6364136223846793005 : Int)) + IntKind.u64.wrap (0 : Int)) +                       (1442695040888963407 : Int))).fdiv                 ((2 : Int) ^ Min.min (Int.toNat (40 : Int)) IntKind.u64.bits)) &&&             BitVec.ofInt IntKind.u64.bits (255 : Int)).toNat :       Int)), v0, IntKind.i64.wrap (v1 + (1 : Int)), IntKind.u64.wrap   (IntKind.u64.wrap (IntKind.u64.wrap (v2 * (6364136223846793005 : Int)) + IntKind.u64.wrap (0 : Int)) +     (1442695040888963407 : Int)))
theorem xs13.k (v0 v1 v2) : topL E (callT E tab) 109 Try.f109 (xs13.c v0 v1 v2) = xs13.t (fun b => some (xs13.mk b)) v0 v1 v2 := by kernel_rfl
theorem xs13.eq (v0 v1 v2) {b} (h : xs13.t some v0 v1 v2 = some b) : xs13 v0 v1 v2 = some b := tOf_intro xs13.un (fun _ => by kernel_rfl) (vlim_fn (callT_le E tab) rfl rfl rfl ((xs13.k v0 v1 v2).trans ((by unfold xs13.t; repeat' first | exact Sub.ret | exact Sub.none | exact Sub.loop | apply Sub.cond | (apply Sub.bind; intro _) : Sub xs13.mk _ _) b h)))
def xs0w.s4 (v0 : List Int) (v1 : Int) (v2 : Int) (v3 : Int) (v4 : Int) (v5 : Zd) (v6 : List Int) (v7 : Int) : List Cell := ⟨(.box false), [.d .fro (.sl (.int .u8)) v0, iL v1, .d .fro (.int .u64) v2], true, false, false, 0, 0⟩ :: vc (iL v3) :: nn 3 (⟨(.box false), [iL v4, .d .deep (.sl (.pair (.sl (.int .i64)) (.int .i64))) v5], false, false, false, 0, 0⟩ :: vc (.d .deep (.sl (.int .i64)) v6) :: vc (iL v7) :: nn 60 ([]))
noncomputable def xs0w.q4 := fun v0 v1 v2 v3 v4 v5 v6 v7 => loopAtL E (callT E tab) 57 Try.f57 2 [.r, .r, .r, .l, .r, .b] (xs0w.s4 v0 v1 v2 v3 v4 v5 v6 v7)
noncomputable def xs0w.l4 := fun v0 v1 v2 v3 v4 v5 v6 v7 => tOf xs0w.mk (xs0w.q4 v0 v1 v2 v3 v4 v5 v6 v7)
noncomputable def xs0w.t {γ : Type} (ret : (Zc × (List Int) × Int × Int) → Option γ) (lp4 : (List Int) → Int → Int → Int → Int → Zd → (List Int) → Int → Option γ) (v0 : List Int) (v1 : Int) (v2 : Int) (v3 : Int) : Option γ :=
 (xs10 (v0) (v1) (v2) (v3)).bind fun (r0 : Int × Zd × (List Int) × Int × Int) =>
 lp4 (r0.snd.snd.fst) (r0.snd.snd.snd.fst) (r0.snd.snd.snd.snd) (v3) (r0.fst) (r0.snd.fst) ([]) ((0 : Int))
noncomputable def xs0w.t4 {γ : Type} (ret : (Zc × (List Int) × Int × Int) → Option γ) (lp4 : (List Int) → Int → Int → Int → Int → Zd → (List Int) → Int → Option γ) (v0 : List Int) (v1 : Int) (v2 : Int) (v3 : Int) (v4 : Int) (v5 : Zd) (v6 : List Int) (v7 : Int) : Option γ :=
 bif decide (v7 < IntKind.i64.wrap (v3 - (1 : Int))) then
  bif decide (v6.length + [v7].length ≤ (4294967296 : Nat)) then
   lp4 (v0) (v1) (v2) (v3) (v4) (v5) (v6 ++ [v7]) (IntKind.i64.wrap (v7 + (1 : Int)))
  else
   none
 else
  (xs1k (v4) (v5) (v6) (IntKind.i64.wrap (v3 - (1 : Int)))).bind fun (r1 : Zc × Bool) =>
  bif decide ((↑r1.fst.length : Int) > (0 : Int)) then
   (xs18 (v0) (v1) (v2) ((20 : Int))).bind fun (r2 : Bool × (List Int) × Int × Int) =>
   bif r2.fst then
    (xs14 (r2.snd.fst) (r2.snd.snd.fst) (r2.snd.snd.snd) ((↑r1.fst.length : Int))).bind fun (r3 : Int × (List Int) × Int × Int) =>
    (xs14 (r3.snd.fst) (r3.snd.snd.fst) (r3.snd.snd.snd) ((3 : Int))).bind fun (r4 : Int × (List Int) × Int × Int) =>
    bif r4.fst == (0 : Int) then
     bif decide ((0 : Int) ≤ r3.fst) then
      bif decide (r3.fst.toNat < r1.fst.length) then
       bif decide (r3.fst.toNat < r1.fst.length) then
        ret (r1.fst.set r3.fst.toNat   ((r1.fst.getD r3.fst.toNat ([], (0 : Int), (0 : Int))).fst, (0 : Int),     (r1.fst.getD r3.fst.toNat ([], (0 : Int), (0 : Int))).snd.snd), r4.snd.fst, r4.snd.snd.fst, r4.snd.snd.snd)
       else
        none
      else
       none
     else
      none
    else
     bif r4.fst == (1 : Int) then
      (xs0z (r4.snd.fst) (r4.snd.snd.fst) (r4.snd.snd.snd) ([(100000000000000 : Int), (100000000000001 : Int)])).bind fun (r5 : Int × (List Int) × Int × Int) =>
      bif decide ((0 : Int) ≤ r3.fst) then
       bif decide (r3.fst.toNat < r1.fst.length) then
        bif decide (r3.fst.toNat < r1.fst.length) then
         ret (r1.fst.set r3.fst.toNat   ((r1.fst.getD r3.fst.toNat ([], (0 : Int), (0 : Int))).fst,     (r1.fst.getD r3.fst.toNat ([], (0 : Int), (0 : Int))).snd.fst, r5.fst), r5.snd.fst, r5.snd.snd.fst, r5.snd.snd.snd)
        else
         none
       else
        none
      else
       none
     else
      (xs19 (r4.snd.fst) (r4.snd.snd.fst) (r4.snd.snd.snd) (v3)).bind fun (r6 : ((List Int) × (List Int) × Int × Int) ⊕ ((List Int) × Int × Int)) =>
      bif r6.isLeft then
       bif decide ((0 : Int) ≤ r3.fst) then
        bif decide (r3.fst.toNat < r1.fst.length) then
         bif decide (r3.fst.toNat < r1.fst.length) then
          ret (r1.fst.set r3.fst.toNat   ((GoV.inL r6 ([], [], (0 : Int), (0 : Int))).fst, (r1.fst.getD r3.fst.toNat ([], (0 : Int), (0 : Int))).snd), (GoV.inL r6 ([], [], (0 : Int), (0 : Int))).snd.fst, (GoV.inL r6 ([], [], (0 : Int), (0 : Int))).snd.snd.fst, (GoV.inL r6 ([], [], (0 : Int), (0 : Int))).snd.snd.snd)
         else
          none
        else
         none
       else
        none
      else
       bif decide ((0 : Int) ≤ r3.fst) then
        bif decide (r3.fst.toNat < r1.fst.length) then
         bif decide (r3.fst.toNat < r1.fst.length) then
          ret (r1.fst.set r3.fst.toNat ([], (r1.fst.getD r3.fst.toNat ([], (0 : Int), (0 : Int))).snd), (GoV.inR r6 ([], (0 : Int), (0 : Int))).fst, (GoV.inR r6 ([], (0 : Int), (0 : Int))).snd.fst, (GoV.inR r6 ([], (0 : Int), (0 : Int))).snd.snd)
         else
          none
        else
         none
       else
        none
   else
    ret (r1.fst, r2.snd.fst, r2.snd.snd.fst, r2.snd.snd.snd)
  else
   ret (r1.fst, v0, v1, v2)
theorem xs0w.k (v0 v1 v2 v3) : topL E (callT E tab) 57 Try.f57 (xs0w.c v0 v1 v2 v3) = xs0w.t (fun b => some (xs0w.mk b)) xs0w.q4 v0 v1 v2 v3 := by kernel_rfl
theorem xs0w.k4 (v0 v1 v2 v3 v4 v5 v6 v7) : roundL E (callT E tab) 57 Try.f57 2 [.r, .r, .r, .l, .r, .b] (xs0w.s4 v0 v1 v2 v3 v4 v5 v6 v7) = xs0w.t4 (fun b => some (xs0w.mk b)) xs0w.q4 v0 v1 v2 v3 v4 v5 v6 v7 := by kernel_rfl
theorem xs0w.eq (v0 v1 v2 v3) {b} (h : xs0w.t some xs0w.l4 v0 v1 v2 v3 = some b) : xs0w v0 v1 v2 v3 = some b := tOf_intro xs0w.un (fun _ => by kernel_rfl) (vlim_fn (callT_le E tab) rfl rfl rfl ((xs0w.k v0 v1 v2 v3).trans ((by unfold xs0w.t; repeat' first | exact Sub.ret | exact Sub.none | exact Sub.loop | apply Sub.cond | (apply Sub.bind; intro _) : Sub xs0w.mk _ _) b h)))
theorem xs0w.eq4 (v0 v1 v2 v3 v4 v5 v6 v7) {b} (h : xs0w.t4 some xs0w.l4 v0 v1 v2 v3 v4 v5 v6 v7 = some b) : xs0w.l4 v0 v1 v2 v3 v4 v5 v6 v7 = some b := tOf_intro xs0w.un (fun _ => by kernel_rfl) (loopAtL_step ((xs0w.k4 v0 v1 v2 v3 v4 v5 v6 v7).trans ((by unfold xs0w.t4; repeat' first | exact Sub.ret | exact Sub.none | exact Sub.loop | apply Sub.cond | (apply Sub.bind; intro _) : Sub xs0w.mk _ _) b h)))
noncomputable def xs10.t {γ : Type} (ret : (Int × Zd × (List Int) × Int × Int) → Option γ) (v0 : List Int) (v1 : Int) (v2 : Int) (v3 : Int) : Option γ :=
 (xs14 (v0) (v1) (v2) ((8 : Int))).bind fun (r0 : Int × (List Int) × Int × Int) =>
 (xs0r (r0.snd.fst) (r0.snd.snd.fst) (r0.snd.snd.snd) (v3) (r0.fst)).bind fun (r1 : Zd × (List Int) × Int × Int) =>
 (xs20 (v3) (r1.fst)).bind fun (r2 : Int × Zd × Bool) =>
 bif !r2.snd.snd then
  (xs1i (v3)).bind fun (r3 : Int × Zd × Bool) =>
  ret (r3.fst, r3.snd.fst, r1.snd.fst, r1.snd.snd.fst, r1.snd.snd.snd)
 else
  ret (r2.fst, r2.snd.fst, r1.snd.fst, r1.snd.snd.fst, r1.snd.snd.snd)
theorem xs10.k (v0 v1 v2 v3) : topL E (callT E tab) 93 Try.f93 (xs10.c v0 v1 v2 v3) = xs10.t (fun b => some (xs10.mk b)) v0 v1 v2 v3 := by kernel_rfl
theorem xs10.eq (v0 v1 v2 v3) {b} (h : xs10.t some v0 v1 v2 v3 = some b) : xs10 v0 v1 v2 v3 = some b := tOf_intro xs10.un (fun _ => by kernel_rfl) (vlim_fn (callT_le E tab) rfl rfl rfl ((xs10.k v0 v1 v2 v3).trans ((by unfold xs10.t; repeat' first | exact Sub.ret | exact Sub.none | exact Sub.loop | apply Sub.cond | (apply Sub.bind; intro _) : Sub xs10.mk _ _) b h)))
def xs0r.s6 (v0 : List Int) (v1 : Int) (v2 : Int) (v3 : Int) (v4 : Int) (v5 : Zd) (v6 : List Int) (v7 : Int) : List Cell := ⟨(.box false), [.d .fro (.sl (.int .u8)) v0, iL v1, .d .fro (.int .u64) v2], true, false, false, 0, 0⟩ :: vc (iL v3) :: vc (iL v4) :: nn 4 (vc (.d .deep (.sl (.pair (.sl (.int .i64)) (.int .i64))) v5) :: ⟨(.box false), [.d .deep (.sl (.int .i64)) v6], false, false, false, 0, 0⟩ :: vc (iL v7) :: nn 25 ([]))
noncomputable def xs0r.q6 := fun v0 v1 v2 v3 v4 v5 v6 v7 => loopAtL E (callT E tab) 111 Try.f111 3 [.r, .r, .l, .b, .o, .r, .l, .b, .r, .l, .r, .b] (xs0r.s6 v0 v1 v2 v3 v4 v5 v6 v7)
noncomputable def xs0r.l6 := fun v0 v1 v2 v3 v4 v5 v6 v7 => tOf xs0r.mk (xs0r.q6 v0 v1 v2 v3 v4 v5 v6 v7)
def xs0r.s2 (v0 : List Int) (v1 : Int) (v2 : Int) (v3 : Int) (v4 : Int) (v5 : Zd) : List Cell := ⟨(.box false), [.d .fro (.sl (.int .u8)) v0, iL v1, .d .fro (.int .u64) v2], true, false, false, 0, 0⟩ :: vc (iL v3) :: vc (iL v4) :: nn 4 (vc (.d .deep (.sl (.pair (.sl (.int .i64)) (.int .i64))) v5) :: nn 27 ([]))
noncomputable def xs0r.q2 := fun v0 v1 v2 v3 v4 v5 => loopAtL E (callT E tab) 111 Try.f111 3 [.r, .r, .l, .b] (xs0r.s2 v0 v1 v2 v3 v4 v5)
noncomputable def xs0r.l2 := fun v0 v1 v2 v3 v4 v5 => tOf xs0r.mk (xs0r.q2 v0 v1 v2 v3 v4 v5)
noncomputable def xs0r.t {γ : Type} (ret : (Zd × (List Int) × Int × Int) → Option γ) (lp6 : (List Int) → Int → Int → Int → Int → Zd → (List Int) → Int → Option γ) (lp2 : (List Int) → Int → Int → Int → Int → Zd → Option γ) (v0 : List Int) (v1 : Int) (v2 : Int) (v3 : Int) (v4 : Int) : Option γ :=
 lp2 (v0) (v1) (v2) (v3) (v4) ([])
noncomputable def xs0r.t6 {γ : Type} (ret : (Zd × (List Int) × Int × Int) → Option γ) (lp6 : (List Int) → Int → Int → Int → Int → Zd → (List Int) → Int → Option γ) (lp2 : (List Int) → Int → Int → Int → Int → Zd → Option γ) (v0 : List Int) (v1 : Int) (v2 : Int) (v3 : Int) (v4 : Int) (v5 : Zd) (v6 : List Int) (v7 : Int) : Option γ :=
 bif decide (v7 < v3) then
  (xs14 (v0) (v1) (v2) ((4 : Int))).bind fun (r0 : Int × (List Int) × Int × Int) =>
  bif decide (v6.length + [r0.fst].length ≤ (4294967296 : Nat)) then
   lp6 (r0.snd.fst) (r0.snd.snd.fst) (r0.snd.snd.snd) (v3) (v4) (v5) (v6 ++ [r0.fst]) (IntKind.i64.wrap (v7 + (1 : Int)))
  else
   none
 else
  (xs0x (v0) (v1) (v2)).bind fun (r1 : Int × (List Int) × Int × Int) =>
  bif decide (v5.length + [(v6, r1.fst)].length ≤ (4294967296 : Nat)) then
   lp2 (r1.snd.fst) (r1.snd.snd.fst) (r1.snd.snd.snd) (v3) (IntKind.i64.wrap (v4 - (1 : Int))) (v5 ++ [(v6, r1.fst)])
  else
   none
noncomputable def xs0r.t2 {γ : Type} (ret : (Zd × (List Int) × Int × Int) → Option γ) (lp6 : (List Int) → Int → Int → Int → Int → Zd → (List Int) → Int → Option γ) (lp2 : (List Int) → Int → Int → Int → Int → Zd → Option γ) (v0 : List Int) (v1 : Int) (v2 : Int) (v3 : Int) (v4 : Int) (v5 : Zd) : Option γ :=
 bif decide (v4 > (0 : Int)) then
  lp6 (v0) (v1) (v2) (v3) (v4) (v5) ([]) ((0 : Int))
 else
  ret (v5, v0, v1, v2)
theorem xs0r.k (v0 v1 v2 v3 v4) : topL E (callT E tab) 111 Try.f111 (xs0r.c v0 v1 v2 v3 v4) = xs0r.t (fun b => some (xs0r.mk b)) xs0r.q6 xs0r.q2 v0 v1 v2 v3 v4 := by kernel_rfl
theorem xs0r.k6 (v0 v1 v2 v3 v4 v5 v6 v7) : roundL E (callT E tab) 111 Try.f111 3 [.r, .r, .l, .b, .o, .r, .l, .b, .r, .l, .r, .b] (xs0r.s6 v0 v1 v2 v3 v4 v5 v6 v7) = xs0r.t6 (fun b => some (xs0r.mk b)) xs0r.q6 xs0r.q2 v0 v1 v2 v3 v4 v5 v6 v7 := by kernel_rfl
theorem xs0r.k2 (v0 v1 v2 v3 v4 v5) : roundL E (callT E tab) 111 Try.f111 3 [.r, .r, .l, .b] (xs0r.s2 v0 v1 v2 v3 v4 v5) = xs0r.t2 (fun b => some (xs0r.mk b)) xs0r.q6 xs0r.q2 v0 v1 v2 v3 v4 v5 := by kernel_rfl
theorem xs0r.eq (v0 v1 v2 v3 v4) {b} (h : xs0r.t some xs0r.l6 xs0r.l2 v0 v1 v2 v3 v4 = some b) : xs0r v0 v1 v2 v3 v4 = some b := tOf_intro xs0r.un (fun _ => by kernel_rfl) (vlim_fn (callT_le E tab) rfl rfl rfl ((xs0r.k v0 v1 v2 v3 v4).trans ((by unfold xs0r.t; repeat' first | exact Sub.ret | exact Sub.none | exact Sub.loop | apply Sub.cond | (apply Sub.bind; intro _) : Sub xs0r.mk _ _) b h)))
theorem xs0r.eq6 (v0 v1 v2 v3 v4 v5 v6 v7) {b} (h : xs0r.t6 some xs0r.l6 xs0r.l2 v0 v1 v2 v3 v4 v5 v6 v7 = some b) : xs0r.l6 v0 v1 v2 v3 v4 v5 v6 v7 = some b := tOf_intro xs0r.un (fun _ => by kernel_rfl) (loopAtL_step ((xs0r.k6 v0 v1 v2 v3 v4 v5 v6 v7).trans ((by unfold xs0r.t6; repeat' first | exact Sub.ret | exact Sub.none | exact Sub.loop | apply Sub.cond | (apply Sub.bind; intro _) : Sub xs0r.mk _ _) b h)))
theorem xs0r.eq2 (v0 v1 v2 v3 v4 v5) {b} (h : xs0r.t2 some xs0r.l6 xs0r.l2 v0 v1 v2 v3 v4 v5 = some b) : xs0r.l2 v0 v1 v2 v3 v4 v5 = some b := tOf_intro xs0r.un (fun _ => by kernel_rfl) (loopAtL_step ((xs0r.k2 v0 v1 v2 v3 v4 v5).trans ((by unfold xs0r.t2; repeat' first | exact Sub.ret | exact Sub.none | exact Sub.loop | apply Sub.cond | (apply Sub.bind; intro _) : Sub xs0r.mk _ _) b h)))
noncomputable def xs0x.t {γ : Type} (ret : (Int × (List Int) × Int × Int) → Option γ) (v0 : List Int) (v1 : Int) (v2 : Int) : Option γ :=
 (xs18 (v0) (v1) (v2) ((40 : Int))).bind fun (r0 : Bool × (List Int) × Int × Int) =>
 bif r0.fst then
  (xs0z (r0.snd.fst) (r0.snd.snd.fst) (r0.snd.snd.snd) ([(0 : Int), (1000000 : Int), (-1000000 : Int), (1000001 : Int)])).bind fun (r1 : Int × (List Int) × Int × Int) =>
  ret (r1.fst, r1.snd.fst, r1.snd.snd.fst, r1.snd.snd.snd)
 else
  (xs0z (r0.snd.fst) (r0.snd.snd.fst) (r0.snd.snd.snd) ([(1 : Int), (1 : Int), (1 : Int), (2 : Int), (-1 : Int), (-1 : Int), (3 : Int)])).bind fun (r2 : Int × (List Int) × Int × Int) =>
  ret (r2.fst, r2.snd.fst, r2.snd.snd.fst, r2.snd.snd.snd)
theorem xs0x.k (v0 v1 v2) : topL E (callT E tab) 120 Try.f120 (xs0x.c v0 v1 v2) = xs0x.t (fun b => some (xs0x.mk b)) v0 v1 v2 := by kernel_rfl
theorem xs0x.eq (v0 v1 v2) {b} (h : xs0x.t some v0 v1 v2 = some b) : xs0x v0 v1 v2 = some b := tOf_intro xs0x.un (fun _ => by kernel_rfl) (vlim_fn (callT_le E tab) rfl rfl rfl ((xs0x.k v0 v1 v2).trans ((by unfold xs0x.t; repeat' first | exact Sub.ret | exact Sub.none | exact Sub.loop | apply Sub.cond | (apply Sub.bind; intro _) : Sub xs0x.mk _ _) b h)))
noncomputable def xs18.t {γ : Type} (ret : (Bool × (List Int) × Int × Int) → Option γ) (v0 : List Int) (v1 : Int) (v2 : Int) (v3 : Int) : Option γ :=
 (xs14 (v0) (v1) (v2) (v3)).bind fun (r0 : Int × (List Int) × Int × Int) =>
 ret (r0.fst == (0 : Int), r0.snd.fst, r0.snd.snd.fst, r0.snd.snd.snd)
theorem xs18.k (v0 v1 v2 v3) : topL E (callT E tab) 94 Try.f94 (xs18.c v0 v1 v2 v3) = xs18.t (fun b => some (xs18.mk b)) v0 v1 v2 v3 := by kernel_rfl
theorem xs18.eq (v0 v1 v2 v3) {b} (h : xs18.t some v0 v1 v2 v3 = some b) : xs18 v0 v1 v2 v3 = some b := tOf_intro xs18.un (fun _ => by kernel_rfl) (vlim_fn (callT_le E tab) rfl rfl rfl ((xs18.k v0 v1 v2 v3).trans ((by unfold xs18.t; repeat' first | exact Sub.ret | exact Sub.none | exact Sub.loop | apply Sub.cond | (apply Sub.bind; intro _) : Sub xs18.mk _ _) b h)))
noncomputable def xs0z.t {γ : Type} (ret : (Int × (List Int) × Int × Int) → Option γ) (v0 : List Int) (v1 : Int) (v2 : Int) (v3 : List Int) : Option γ :=
 (xs14 (v0) (v1) (v2) ((↑v3.length : Int))).bind fun (r0 : Int × (List Int) × Int × Int) =>
 bif decide ((0 : Int) ≤ r0.fst) then
  bif decide (r0.fst.toNat < v3.length) then
   ret (v3.getD r0.fst.toNat (0 : Int), r0.snd.fst, r0.snd.snd.fst, r0.snd.snd.snd)
  else
   none
 else
  none
theorem xs0z.k (v0 v1 v2 v3) : topL E (callT E tab) 95 Try.f95 (xs0z.c v0 v1 v2 v3) = xs0z.t (fun b => some (xs0z.mk b)) v0 v1 v2 v3 := by kernel_rfl
theorem xs0z.eq (v0 v1 v2 v3) {b} (h : xs0z.t some v0 v1 v2 v3 = some b) : xs0z v0 v1 v2 v3 = some b := tOf_intro xs0z.un (fun _ => by kernel_rfl) (vlim_fn (callT_le E tab) rfl rfl rfl ((xs0z.k v0 v1 v2 v3).trans ((by unfold xs0z.t; repeat' first | exact Sub.ret | exact Sub.none | exact Sub.loop | apply Sub.cond | (apply Sub.bind; intro _) : Sub xs0z.mk _ _) b h)))
def xs20.s5 (v0 : Int) (v1 : Int) (v2 : Zd) (v3 : Zd) (v4 : Zd) (v5 : Int) (v6 : Int) : List Cell := vc (iL v0) :: nn 3 (⟨(.box false), [iL v1, .d .deep (.sl (.pair (.sl (.int .i64)) (.int .i64))) v2], false, false, false, 0, 0⟩ :: nn 1 (vc (.d .sha (.sl (.pair (.sl (.int .i64)) (.int .i64))) v3) :: nn 11 (vc (.d .fro (.sl (.pair (.sl (.int .i64)) (.int .i64))) v4) :: vc (iL v5) :: vc (iL v6) :: nn 34 ([]))))
noncomputable def xs20.q5 := fun v0 v1 v2 v3 v4 v5 v6 => loopAtL E (callT E tab) 110 Try.f110 2 [.r, .r, .r, .l, .r, .b] (xs20.s5 v0 v1 v2 v3 v4 v5 v6)
noncomputable def xs20.l5 := fun v0 v1 v2 v3 v4 v5 v6 => tOf xs20.mk (xs20.q5 v0 v1 v2 v3 v4 v5 v6)
noncomputable def xs20.t {γ : Type} (ret : (Int × Zd × Bool) → Option γ) (lp5 : Int → Int → Zd → Zd → Zd → Int → Int → Option γ) (v0 : Int) (v1 : Zd) : Option γ :=
 (xs2n (v0) ((0 : Int)) ((6 : Int))).bind fun (r0 : Bool) =>
 bif !r0 then
  ret ((0 : Int), [], Bool.false)
 else
  bif decide ((↑v1.length : Int) > (200 : Int)) then
   ret ((0 : Int), [], Bool.false)
  else
   lp5 (v0) ((0 : Int)) ([]) ([]) (v1) ((↑v1.length : Int)) ((0 : Int))
noncomputable def xs20.t5 {γ : Type} (ret : (Int × Zd × Bool) → Option γ) (lp5 : Int → Int → Zd → Zd → Zd → Int → Int → Option γ) (v0 : Int) (v1 : Int) (v2 : Zd) (v3 : Zd) (v4 : Zd) (v5 : Int) (v6 : Int) : Option γ :=
 bif decide (v6 < v5) then
  bif decide ((0 : Int) ≤ v6) then
   bif decide (v6.toNat < v4.length) then
    (xs2a ((v4.getD v6.toNat ([], (0 : Int))).fst)).bind fun (r1 : Bool) =>
    bif !r1 then
     ret ((0 : Int), [], Bool.false)
    else
     bif (↑(v4.getD v6.toNat ([], (0 : Int))).fst.length : Int) != v0 then
      ret ((0 : Int), [], Bool.false)
     else
      (xs22 ((v4.getD v6.toNat ([], (0 : Int))).snd)).bind fun (r2 : Bool) =>
      bif !r2 then
       ret ((0 : Int), [], Bool.false)
      else
       (xs2j (v3) ((v4.getD v6.toNat ([], (0 : Int))).fst) ((v4.getD v6.toNat ([], (0 : Int))).snd)).bind fun (r3 : Zd) =>
       lp5 (v0) (v1) (v2) (r3) (v4) (v5) (IntKind.i64.wrap (v6 + (1 : Int)))
   else
    none
  else
   none
 else
  (xs2g (v0) (v3)).bind fun (r4 : Int × Zd × Bool) =>
  ret (r4.fst, r4.snd.fst, r4.snd.snd)
theorem xs20.k (v0 v1) : topL E (callT E tab) 110 Try.f110 (xs20.c v0 v1) = xs20.t (fun b => some (xs20.mk b)) xs20.q5 v0 v1 := by kernel_rfl
theorem xs20.k5 (v0 v1 v2 v3 v4 v5 v6) : roundL E (callT E tab) 110 Try.f110 2 [.r, .r, .r, .l, .r, .b] (xs20.s5 v0 v1 v2 v3 v4 v5 v6) = xs20.t5 (fun b => some (xs20.mk b)) xs20.q5 v0 v1 v2 v3 v4 v5 v6 := by kernel_rfl
theorem xs20.eq (v0 v1) {b} (h : xs20.t some xs20.l5 v0 v1 = some b) : xs20 v0 v1 = some b := tOf_intro xs20.un (fun _ => by kernel_rfl) (vlim_fn (callT_le E tab) rfl rfl rfl ((xs20.k v0 v1).trans ((by unfold xs20.t; repeat' first | exact Sub.ret | exact Sub.none | exact Sub.loop | apply Sub.cond | (apply Sub.bind; intro _) : Sub xs20.mk _ _) b h)))
theorem xs20.eq5 (v0 v1 v2 v3 v4 v5 v6) {b} (h : xs20.t5 some xs20.l5 v0 v1 v2 v3 v4 v5 v6 = some b) : xs20.l5 v0 v1 v2 v3 v4 v5 v6 = some b := tOf_intro xs20.un (fun _ => by kernel_rfl) (loopAtL_step ((xs20.k5 v0 v1 v2 v3 v4 v5 v6).trans ((by unfold xs20.t5; repeat' first | exact Sub.ret | exact Sub.none | exact Sub.loop | apply Sub.cond | (apply Sub.bind; intro _) : Sub xs20.mk _ _) b h)))
noncomputable def xs2n.t {γ : Type} (ret : (Bool) → Option γ) (v0 : Int) (v1 : Int) (v2 : Int) : Option γ :=
 bif decide (v0 ≥ v1) then
  ret (decide (v0 ≤ v2))
 else
  ret (Bool.false)
theorem xs2n.k (v0 v1 v2) : topL E (callT E tab) 87 Try.f87 (xs2n.c v0 v1 v2) = xs2n.t (fun b => some (xs2n.mk b)) v0 v1 v2 := by kernel_rfl
theorem xs2n.eq (v0 v1 v2) {b} (h : xs2n.t some v0 v1 v2 = some b) : xs2n v0 v1 v2 = some b := tOf_intro xs2n.un (fun _ => by kernel_rfl) (vlim_fn (callT_le E tab) rfl rfl rfl ((xs2n.k v0 v1 v2).trans ((by unfold xs2n.t; repeat' first | exact Sub.ret | exact Sub.none | exact Sub.loop | apply Sub.cond | (apply Sub.bind; intro _) : Sub xs2n.mk _ _) b h)))
def xs2a.s2 (v0 : List Int) (v1 : List Int) (v2 : Int) (v3 : Int) : List Cell := nn 1 (⟨(.box false), [.d .fro (.sl (.int .i64)) v0], false, false, false, 0, 0⟩ :: nn 4 (vc (.d .fro (.sl (.int .i64)) v1) :: vc (iL v2) :: vc (iL v3) :: nn 11 ([])))
noncomputable def xs2a.q2 := fun v0 v1 v2 v3 => loopAtL E (callT E tab) 67 Try.f67 1 [.r, .l, .r, .b] (xs2a.s2 v0 v1 v2 v3)
noncomputable def xs2a.l2 := fun v0 v1 v2 v3 => tOf xs2a.mk (xs2a.q2 v0 v1 v2 v3)
noncomputable def xs2a.t {γ : Type} (ret : (Bool) → Option γ) (lp2 : (List Int) → (List Int) → Int → Int → Option γ) (v0 : List Int) : Option γ :=
 lp2 (v0) (v0) ((↑v0.length : Int)) ((0 : Int))
noncomputable def xs2a.t2 {γ : Type} (ret : (Bool) → Option γ) (lp2 : (List Int) → (List Int) → Int → Int → Option γ) (v0 : List Int) (v1 : List Int) (v2 : Int) (v3 : Int) : Option γ :=
 bif decide (v3 < v2) then
  bif decide ((0 : Int) ≤ v3) then
   bif decide (v3.toNat < v1.length) then
    (xs2n (v1.getD v3.toNat (0 : Int)) ((-100000 : Int)) ((100000 : Int))).bind fun (r0 : Bool) =>
    bif !r0 then
     ret (Bool.false)
    else
     lp2 (v0) (v1) (v2) (IntKind.i64.wrap (v3 + (1 : Int)))
   else
    none
  else
   none
 else
  ret (decide ((↑v0.length : Int) ≤ (6 : Int)))
theorem xs2a.k (v0) : topL E (callT E tab) 67 Try.f67 (xs2a.c v0) = xs2a.t (fun b => some (xs2a.mk b)) xs2a.q2 v0 := by kernel_rfl
theorem xs2a.k2 (v0 v1 v2 v3) : roundL E (callT E tab) 67 Try.f67 1 [.r, .l, .r, .b] (xs2a.s2 v0 v1 v2 v3) = xs2a.t2 (fun b => some (xs2a.mk b)) xs2a.q2 v0 v1 v2 v3 := by kernel_rfl
theorem xs2a.eq (v0) {b} (h : xs2a.t some xs2a.l2 v0 = some b) : xs2a v0 = some b := tOf_intro xs2a.un (fun _ => by kernel_rfl) (vlim_fn (callT_le E tab) rfl rfl rfl ((xs2a.k v0).trans ((by unfold xs2a.t; repeat' first | exact Sub.ret | exact Sub.none | exact Sub.loop | apply Sub.cond | (apply Sub.bind; intro _) : Sub xs2a.mk _ _) b h)))
theorem xs2a.eq2 (v0 v1 v2 v3) {b} (h : xs2a.t2 some xs2a.l2 v0 v1 v2 v3 = some b) : xs2a.l2 v0 v1 v2 v3 = some b := tOf_intro xs2a.un (fun _ => by kernel_rfl) (loopAtL_step ((xs2a.k2 v0 v1 v2 v3).trans ((by unfold xs2a.t2; repeat' first | exact Sub.ret | exact Sub.none | exact Sub.loop | apply Sub.cond | (apply Sub.bind; intro _) : Sub xs2a.mk _ _) b h)))
noncomputable def xs22.t {γ : Type} (ret : (Bool) → Option γ) (v0 : Int) : Option γ :=
 (xs2n (v0) ((-1000000 : Int)) ((1000000 : Int))).bind fun (r0 : Bool) =>
 ret (r0)
theorem xs22.k (v0) : topL E (callT E tab) 86 Try.f86 (xs22.c v0) = xs22.t (fun b => some (xs22.mk b)) v0 := by kernel_rfl
theorem xs22.eq (v0) {b} (h : xs22.t some v0 = some b) : xs22 v0 = some b := tOf_intro xs22.un (fun _ => by kernel_rfl) (vlim_fn (callT_le E tab) rfl rfl rfl ((xs22.k v0).trans ((by unfold xs22.t; repeat' first | exact Sub.ret | exact Sub.none | exact Sub.loop | apply Sub.cond | (apply Sub.bind; intro _) : Sub xs22.mk _ _) b h)))
def xs2j.s2 (v0 : Zd) (v1 : Int) (v2 : List Int) (v3 : Int) : List Cell := vc (.d .fro (.sl (.pair (.sl (.int .i64)) (.int .i64))) v0) :: nn 1 (vc (iL v1) :: nn 1 (⟨(.box false), [.d .fro (.sl (.int .i64)) v2], false, false, false, 0, 0⟩ :: nn 2 (vc (iL v3) :: nn 64 ([]))))
noncomputable def xs2j.q2 := fun v0 v1 v2 v3 => loopAtL E (callT E tab) 118 Try.f118 3 [.r, .r, .l, .b] (xs2j.s2 v0 v1 v2 v3)
noncomputable def xs2j.l2 := fun v0 v1 v2 v3 => tOf xs2j.mk (xs2j.q2 v0 v1 v2 v3)
noncomputable def xs2j.t {γ : Type} (ret : (Zd) → Option γ) (lp2 : Zd → Int → (List Int) → Int → Option γ) (v0 : Zd) (v1 : List Int) (v2 : Int) : Option γ :=
 lp2 (v0) (v2) (v1) ((0 : Int))
noncomputable def xs2j.t2 {γ : Type} (ret : (Zd) → Option γ) (lp2 : Zd → Int → (List Int) → Int → Option γ) (v0 : Zd) (v1 : Int) (v2 : List Int) (v3 : Int) : Option γ :=
 bif decide (v3 < (↑v0.length : Int)) then
  bif decide ((0 : Int) ≤ v3) then
   bif decide (v3.toNat < v0.length) then
    (xs1t ((v0.getD v3.toNat ([], (0 : Int))).fst) (v2)).bind fun (r0 : Int) =>
    bif decide (r0 < (0 : Int)) then
     lp2 (v0) (v1) (v2) (IntKind.i64.wrap (v3 + (1 : Int)))
    else
     bif decide (Option.none.getD (0 : Int) ≤ v3) then
      bif decide (v3 ≤ (↑v0.length : Int)) then
       bif decide   ((List.take (v3 - Option.none.getD (0 : Int)).toNat (List.drop (Option.none.getD (0 : Int)).toNat v0)).length ≤     (4294967296 : Nat)) then
        (xs21 (v2)).bind fun (r1 : (List Int)) =>
        bif decide (v3 < (↑v0.length : Int)) then
         bif decide ((0 : Int) ≤ v3) then
          bif decide (v3.toNat < v0.length) then
           (xs1t ((v0.getD v3.toNat ([], (0 : Int))).fst) (v2)).bind fun (r2 : Int) =>
           bif r2 == (0 : Int) then
            bif decide ((0 : Int) ≤ v3) then
             bif decide (v3.toNat < v0.length) then
              bif IntKind.i64.wrap (v1 + (v0.getD v3.toNat ([], (0 : Int))).snd) != (0 : Int) then
               bif decide   ((List.take (v3 - Option.none.getD (0 : Int)).toNat (List.drop (Option.none.getD (0 : Int)).toNat v0)).length +       [(r1, IntKind.i64.wrap (v1 + (v0.getD v3.toNat ([], (0 : Int))).snd))].length ≤     (4294967296 : Nat)) then
                bif decide ((0 : Int) ≤ (Option.some (IntKind.i64.wrap (v3 + (1 : Int)))).getD (0 : Int)) then
                 bif decide ((Option.some (IntKind.i64.wrap (v3 + (1 : Int)))).getD (0 : Int) ≤ (↑v0.length : Int)) then
                  bif decide   ((List.take (v3 - Option.none.getD (0 : Int)).toNat (List.drop (Option.none.getD (0 : Int)).toNat v0) ++           [(r1, IntKind.i64.wrap (v1 + (v0.getD v3.toNat ([], (0 : Int))).snd))]).length +       (List.drop ((Option.some (IntKind.i64.wrap (v3 + (1 : Int)))).getD (0 : Int)).toNat v0).length ≤     (4294967296 : Nat)) then
                   ret (List.take (v3 - Option.none.getD (0 : Int)).toNat (List.drop (Option.none.getD (0 : Int)).toNat v0) ++     [(r1, IntKind.i64.wrap (v1 + (v0.getD v3.toNat ([], (0 : Int))).snd))] ++   List.drop ((Option.some (IntKind.i64.wrap (v3 + (1 : Int)))).getD (0 : Int)).toNat v0)
                  else
                   none
                 else
                  none
                else
                 none
               else
                none
              else
               bif decide ((0 : Int) ≤ (Option.some (IntKind.i64.wrap (v3 + (1 : Int)))).getD (0 : Int)) then
                bif decide ((Option.some (IntKind.i64.wrap (v3 + (1 : Int)))).getD (0 : Int) ≤ (↑v0.length : Int)) then
                 bif decide   ((List.take (v3 - Option.none.getD (0 : Int)).toNat (List.drop (Option.none.getD (0 : Int)).toNat v0)).length +       (List.drop ((Option.some (IntKind.i64.wrap (v3 + (1 : Int)))).getD (0 : Int)).toNat v0).length ≤     (4294967296 : Nat)) then
                  ret (List.take (v3 - Option.none.getD (0 : Int)).toNat (List.drop (Option.none.getD (0 : Int)).toNat v0) ++   List.drop ((Option.some (IntKind.i64.wrap (v3 + (1 : Int)))).getD (0 : Int)).toNat v0)
                 else
                  none
                else
                 none
               else
                none
             else
              none
            else
             none
           else
            bif v1 != (0 : Int) then
             bif decide   ((List.take (v3 - Option.none.getD (0 : Int)).toNat (List.drop (Option.none.getD (0 : Int)).toNat v0)).length +       [(r1, v1)].length ≤     (4294967296 : Nat)) then
              bif decide ((0 : Int) ≤ (Option.some v3).getD (0 : Int)) then
               bif decide ((Option.some v3).getD (0 : Int) ≤ (↑v0.length : Int)) then
                bif decide   ((List.take (v3 - Option.none.getD (0 : Int)).toNat (List.drop (Option.none.getD (0 : Int)).toNat v0) ++           [(r1, v1)]).length +       (List.drop ((Option.some v3).getD (0 : Int)).toNat v0).length ≤     (4294967296 : Nat)) then
                 ret (List.take (v3 - Option.none.getD (0 : Int)).toNat (List.drop (Option.none.getD (0 : Int)).toNat v0) ++ [(r1, v1)] ++   List.drop ((Option.some v3).getD (0 : Int)).toNat v0)
                else
                 none
               else
                none
              else
               none
             else
              none
            else
             bif decide ((0 : Int) ≤ (Option.some v3).getD (0 : Int)) then
              bif decide ((Option.some v3).getD (0 : Int) ≤ (↑v0.length : Int)) then
               bif decide   ((List.take (v3 - Option.none.getD (0 : Int)).toNat (List.drop (Option.none.getD (0 : Int)).toNat v0)).length +       (List.drop ((Option.some v3).getD (0 : Int)).toNat v0).length ≤     (4294967296 : Nat)) then
                ret (List.take (v3 - Option.none.getD (0 : Int)).toNat (List.drop (Option.none.getD (0 : Int)).toNat v0) ++   List.drop ((Option.some v3).getD (0 : Int)).toNat v0)
               else
                none
              else
               none
             else
              none
          else
           none
         else
          none
        else
         bif v1 != (0 : Int) then
          bif decide   ((List.take (v3 - Option.none.getD (0 : Int)).toNat (List.drop (Option.none.getD (0 : Int)).toNat v0)).length +       [(r1, v1)].length ≤     (4294967296 : Nat)) then
           bif decide ((0 : Int) ≤ (Option.some v3).getD (0 : Int)) then
            bif decide ((Option.some v3).getD (0 : Int) ≤ (↑v0.length : Int)) then
             bif decide   ((List.take (v3 - Option.none.getD (0 : Int)).toNat (List.drop (Option.none.getD (0 : Int)).toNat v0) ++           [(r1, v1)]).length +       (List.drop ((Option.some v3).getD (0 : Int)).toNat v0).length ≤     (4294967296 : Nat)) then
              ret (List.take (v3 - Option.none.getD (0 : Int)).toNat (List.drop (Option.none.getD (0 : Int)).toNat v0) ++ [(r1, v1)] ++   List.drop ((Option.some v3).getD (0 : Int)).toNat v0)
             else
              none
            else
             none
           else
            none
          else
           none
         else
          bif decide ((0 : Int) ≤ (Option.some v3).getD (0 : Int)) then
           bif decide ((Option.some v3).getD (0 : Int) ≤ (↑v0.length : Int)) then
            bif decide   ((List.take (v3 - Option.none.getD (0 : Int)).toNat (List.drop (Option.none.getD (0 : Int)).toNat v0)).length +       (List.drop ((Option.some v3).getD (0 : Int)).toNat v0).length ≤     (4294967296 : Nat)) then
             ret (List.take (v3 - Option.none.getD (0 : Int)).toNat (List.drop (Option.none.getD (0 : Int)).toNat v0) ++   List.drop ((Option.some v3).getD (0 : Int)).toNat v0)
            else
             none
           else
            none
          else
           none
       else
        none
      else
       none
     else
      none
   else
    none
  else
   none
 else
  bif decide (Option.none.getD (0 : Int) ≤ v3) then
   bif decide (v3 ≤ (↑v0.length : Int)) then
    bif decide   ((List.take (v3 - Option.none.getD (0 : Int)).toNat (List.drop (Option.none.getD (0 : Int)).toNat v0)).length ≤     (4294967296 : Nat)) then
     (xs21 (v2)).bind fun (r3 : (List Int)) =>
     bif decide (v3 < (↑v0.length : Int)) then
      bif decide ((0 : Int) ≤ v3) then
       bif decide (v3.toNat < v0.length) then
        (xs1t ((v0.getD v3.toNat ([], (0 : Int))).fst) (v2)).bind fun (r4 : Int) =>
        bif r4 == (0 : Int) then
         bif decide ((0 : Int) ≤ v3) then
          bif decide (v3.toNat < v0.length) then
           bif IntKind.i64.wrap (v1 + (v0.getD v3.toNat ([], (0 : Int))).snd) != (0 : Int) then
            bif decide   ((List.take (v3 - Option.none.getD (0 : Int)).toNat (List.drop (Option.none.getD (0 : Int)).toNat v0)).length +       [(r3, IntKind.i64.wrap (v1 + (v0.getD v3.toNat ([], (0 : Int))).snd))].length ≤     (4294967296 : Nat)) then
             bif decide ((0 : Int) ≤ (Option.some (IntKind.i64.wrap (v3 + (1 : Int)))).getD (0 : Int)) then
              bif decide ((Option.some (IntKind.i64.wrap (v3 + (1 : Int)))).getD (0 : Int) ≤ (↑v0.length : Int)) then
               bif decide   ((List.take (v3 - Option.none.getD (0 : Int)).toNat (List.drop (Option.none.getD (0 : Int)).toNat v0) ++           [(r3, IntKind.i64.wrap (v1 + (v0.getD v3.toNat ([], (0 : Int))).snd))]).length +       (List.drop ((Option.some (IntKind.i64.wrap (v3 + (1 : Int)))).getD (0 : Int)).toNat v0).length ≤     (4294967296 : Nat)) then
                ret (List.take (v3 - Option.none.getD (0 : Int)).toNat (List.drop (Option.none.getD (0 : Int)).toNat v0) ++     [(r3, IntKind.i64.wrap (v1 + (v0.getD v3.toNat ([], (0 : Int))).snd))] ++   List.drop ((Option.some (IntKind.i64.wrap (v3 + (1 : Int)))).getD (0 : Int)).toNat v0)
               else
                none
              else
               none
             else
              none
            else
             none
           else
            bif decide ((0 : Int) ≤ (Option.some (IntKind.i64.wrap (v3 + (1 : Int)))).getD (0 : Int)) then
             bif decide ((Option.some (IntKind.i64.wrap (v3 + (1 : Int)))).getD (0 : Int) ≤ (↑v0.length : Int)) then
              bif decide   ((List.take (v3 - Option.none.getD (0 : Int)).toNat (List.drop (Option.none.getD (0 : Int)).toNat v0)).length +       (List.drop ((Option.some (IntKind.i64.wrap (v3 + (1 : Int)))).getD (0 : Int)).toNat v0).length ≤     (4294967296 : Nat)) then
               ret (List.take (v3 - Option.none.getD (0 : Int)).toNat (List.drop (Option.none.getD (0 : Int)).toNat v0) ++   List.drop ((Option.some (IntKind.i64.wrap (v3 + (1 : Int)))).getD (0 : Int)).toNat v0)
              else
               none
             else
              none
            else
             none
          else
           none
         else
          none
        else
         bif v1 != (0 : Int) then
          bif decide   ((List.take (v3 - Option.none.getD (0 : Int)).toNat (List.drop (Option.none.getD (0 : Int)).toNat v0)).length +       [(r3, v1)].length ≤     (4294967296 : Nat)) then
           bif decide ((0 : Int) ≤ (Option.some v3).getD (0 : Int)) then
            bif decide ((Option.some v3).getD (0 : Int) ≤ (↑v0.length : Int)) then
             bif decide   ((List.take (v3 - Option.none.getD (0 : Int)).toNat (List.drop (Option.none.getD (0 : Int)).toNat v0) ++           [(r3, v1)]).length +       (List.drop ((Option.some v3).getD (0 : Int)).toNat v0).length ≤     (4294967296 : Nat)) then
              ret (List.take (v3 - Option.none.getD (0 : Int)).toNat (List.drop (Option.none.getD (0 : Int)).toNat v0) ++ [(r3, v1)] ++   List.drop ((Option.some v3).getD (0 : Int)).toNat v0)
             else
              none
            else
             none
           else
            none
          else
           none
         else
          bif decide ((0 : Int) ≤ (Option.some v3).getD (0 : Int)) then
           bif decide ((Option.some v3).getD (0 : Int) ≤ (↑v0.length : Int)) then
            bif decide   ((List.take (v3 - Option.none.getD (0 : Int)).toNat (List.drop (Option.none.getD (0 : Int)).toNat v0)).length +       (List.drop ((Option.some v3).getD (0 : Int)).toNat v0).length ≤     (4294967296 : Nat)) then
             ret (List.take (v3 - Option.none.getD (0 : Int)).toNat (List.drop (Option.none.getD (0 : Int)).toNat v0) ++   List.drop ((Option.some v3).getD (0 : Int)).toNat v0)
            else
             none
           else
            none
          else
           none
       else
        none
      else
       none
     else
      bif v1 != (0 : Int) then
       bif decide   ((List.take (v3 - Option.none.getD (0 : Int)).toNat (List.drop (Option.none.getD (0 : Int)).toNat v0)).length +       [(r3, v1)].length ≤     (4294967296 : Nat)) then
        bif decide ((0 : Int) ≤ (Option.some v3).getD (0 : Int)) then
         bif decide ((Option.some v3).getD (0 : Int) ≤ (↑v0.length : Int)) then
          bif decide   ((List.take (v3 - Option.none.getD (0 : Int)).toNat (List.drop (Option.none.getD (0 : Int)).toNat v0) ++           [(r3, v1)]).length +       (List.drop ((Option.some v3).getD (0 : Int)).toNat v0).length ≤     (4294967296 : Nat)) then
           ret (List.take (v3 - Option.none.getD (0 : Int)).toNat (List.drop (Option.none.getD (0 : Int)).toNat v0) ++ [(r3, v1)] ++   List.drop ((Option.some v3).getD (0 : Int)).toNat v0)
          else
           none
         else
          none
        else
         none
       else
        none
      else
       bif decide ((0 : Int) ≤ (Option.some v3).getD (0 : Int)) then
        bif decide ((Option.some v3).getD (0 : Int) ≤ (↑v0.length : Int)) then
         bif decide   ((List.take (v3 - Option.none.getD (0 : Int)).toNat (List.drop (Option.none.getD (0 : Int)).toNat v0)).length +       (List.drop ((Option.some v3).getD (0 : Int)).toNat v0).length ≤     (4294967296 : Nat)) then
          ret (List.take (v3 - Option.none.getD (0 : Int)).toNat (List.drop (Option.none.getD (0 : Int)).toNat v0) ++   List.drop ((Option.some v3).getD (0 : Int)).toNat v0)
         else
          none
        else
         none
       else
        none
    else
     none
   else
    none
  else
   none
theorem xs2j.k (v0 v1 v2) : topL E (callT E tab) 118 Try.f118 (xs2j.c v0 v1 v2) = xs2j.t (fun b => some (xs2j.mk b)) xs2j.q2 v0 v1 v2 := by kernel_rfl
theorem xs2j.k2 (v0 v1 v2 v3) : roundL E (callT E tab) 118 Try.f118 3 [.r, .r, .l, .b] (xs2j.s2 v0 v1 v2 v3) = xs2j.t2 (fun b => some (xs2j.mk b)) xs2j.q2 v0 v1 v2 v3 := by kernel_rfl
theorem xs2j.eq (v0 v1 v2) {b} (h : xs2j.t some xs2j.l2 v0 v1 v2 = some b) : xs2j v0 v1 v2 = some b := tOf_intro xs2j.un (fun _ => by kernel_rfl) (vlim_fn (callT_le E tab) rfl rfl rfl ((xs2j.k v0 v1 v2).trans ((by unfold xs2j.t; repeat' first | exact Sub.ret | exact Sub.none | exact Sub.loop | apply Sub.cond | (apply Sub.bind; intro _) : Sub xs2j.mk _ _) b h)))
theorem xs2j.eq2 (v0 v1 v2 v3) {b} (h : xs2j.t2 some xs2j.l2 v0 v1 v2 v3 = some b) : xs2j.l2 v0 v1 v2 v3 = some b := tOf_intro xs2j.un (fun _ => by kernel_rfl) (loopAtL_step ((xs2j.k2 v0 v1 v2 v3).trans ((by unfold xs2j.t2; repeat' first | exact Sub.ret | exact Sub.none | exact Sub.loop | apply Sub.cond | (apply Sub.bind; intro _) : Sub xs2j.mk _ _) b h)))
def xs1t.s2 (v0 : List Int) (v1 : List Int) (v2 : Int) : List Cell := nn 2 (⟨(.box false), [.d .fro (.sl (.int .i64)) v0], false, false, false, 0, 0⟩ :: ⟨(.box false), [.d .fro (.sl (.int .i64)) v1], false, false, false, 0, 0⟩ :: nn 1 (vc (iL v2) :: nn 52 ([])))
noncomputable def xs1t.q2 := fun v0 v1 v2 => loopAtL E (callT E tab) 69 Try.f69 2 [.r, .l, .r, .b] (xs1t.s2 v0 v1 v2)
noncomputable def xs1t.l2 := fun v0 v1 v2 => tOf xs1t.mk (xs1t.q2 v0 v1 v2)
noncomputable def xs1t.t {γ : Type} (ret : (Int) → Option γ) (lp2 : (List Int) → (List Int) → Int → Option γ) (v0 : List Int) (v1 : List Int) : Option γ :=
 lp2 (v0) (v1) ((0 : Int))
noncomputable def xs1t.t2 {γ : Type} (ret : (Int) → Option γ) (lp2 : (List Int) → (List Int) → Int → Option γ) (v0 : List Int) (v1 : List Int) (v2 : Int) : Option γ :=
 bif decide (v2 < (↑v0.length : Int)) then
  bif decide (v2 < (↑v1.length : Int)) then
   bif decide ((0 : Int) ≤ v2) then
    bif decide (v2.toNat < v0.length) then
     bif decide ((0 : Int) ≤ v2) then
      bif decide (v2.toNat < v1.length) then
       bif decide (v0.getD v2.toNat (0 : Int) < v1.getD v2.toNat (0 : Int)) then
        ret ((-1 : Int))
       else
        bif decide ((0 : Int) ≤ v2) then
         bif decide (v2.toNat < v0.length) then
          bif decide ((0 : Int) ≤ v2) then
           bif decide (v2.toNat < v1.length) then
            bif decide (v0.getD v2.toNat (0 : Int) > v1.getD v2.toNat (0 : Int)) then
             ret ((1 : Int))
            else
             lp2 (v0) (v1) (IntKind.i64.wrap (v2 + (1 : Int)))
           else
            none
          else
           none
         else
          none
        else
         none
      else
       none
     else
      none
    else
     none
   else
    none
  else
   bif decide ((↑v0.length : Int) < (↑v1.length : Int)) then
    ret ((-1 : Int))
   else
    bif decide ((↑v0.length : Int) > (↑v1.length : Int)) then
     ret ((1 : Int))
    else
     ret ((0 : Int))
 else
  bif decide ((↑v0.length : Int) < (↑v1.length : Int)) then
   ret ((-1 : Int))
  else
   bif decide ((↑v0.length : Int) > (↑v1.length : Int)) then
    ret ((1 : Int))
   else
    ret ((0 : Int))
theorem xs1t.k (v0 v1) : topL E (callT E tab) 69 Try.f69 (xs1t.c v0 v1) = xs1t.t (fun b => some (xs1t.mk b)) xs1t.q2 v0 v1 := by kernel_rfl
theorem xs1t.k2 (v0 v1 v2) : roundL E (callT E tab) 69 Try.f69 2 [.r, .l, .r, .b] (xs1t.s2 v0 v1 v2) = xs1t.t2 (fun b => some (xs1t.mk b)) xs1t.q2 v0 v1 v2 := by kernel_rfl
theorem xs1t.eq (v0 v1) {b} (h : xs1t.t some xs1t.l2 v0 v1 = some b) : xs1t v0 v1 = some b := tOf_intro xs1t.un (fun _ => by kernel_rfl) (vlim_fn (callT_le E tab) rfl rfl rfl ((xs1t.k v0 v1).trans ((by unfold xs1t.t; repeat' first | exact Sub.ret | exact Sub.none | exact Sub.loop | apply Sub.cond | (apply Sub.bind; intro _) : Sub xs1t.mk _ _) b h)))
theorem xs1t.eq2 (v0 v1 v2) {b} (h : xs1t.t2 some xs1t.l2 v0 v1 v2 = some b) : xs1t.l2 v0 v1 v2 = some b := tOf_intro xs1t.un (fun _ => by kernel_rfl) (loopAtL_step ((xs1t.k2 v0 v1 v2).trans ((by unfold xs1t.t2; repeat' first | exact Sub.ret | exact Sub.none | exact Sub.loop | apply Sub.cond | (apply Sub.bind; intro _) : Sub xs1t.mk _ _) b h)))
noncomputable def xs21.t {γ : Type} (ret : ((List Int)) → Option γ) (v0 : List Int) : Option γ :=
 bif decide (([] : List Int).length + v0.length ≤ (4294967296 : Nat)) then
  ret ([] ++ v0)
 else
  none
theorem xs21.k (v0) : topL E (callT E tab) 70 Try.f70 (xs21.c v0) = xs21.t (fun b => some (xs21.mk b)) v0 := by kernel_rfl
theorem xs21.eq (v0) {b} (h : xs21.t some v0 = some b) : xs21 v0 = some b := tOf_intro xs21.un (fun _ => by kernel_rfl) (vlim_fn (callT_le E tab) rfl rfl rfl ((xs21.k v0).trans ((by unfold xs21.t; repeat' first | exact Sub.ret | exact Sub.none | exact Sub.loop | apply Sub.cond | (apply Sub.bind; intro _) : Sub xs21.mk _ _) b h)))
def xs2g.s3 (v0 : Int) (v1 : Zd) (v2 : Int) (v3 : Zd) (v4 : Zd) (v5 : Int) (v6 : Int) : List Cell := nn 4 (⟨(.box false), [iL v0, .d .deep (.sl (.pair (.sl (.int .i64)) (.int .i64))) v1], false, false, false, 0, 0⟩ :: nn 1 (⟨(.box false), [iL v2, .d .deep (.sl (.pair (.sl (.int .i64)) (.int .i64))) v3], false, false, false, 0, 0⟩ :: nn 4 (vc (.d .fro (.sl (.pair (.sl (.int .i64)) (.int .i64))) v4) :: vc (iL v5) :: vc (iL v6) :: nn 20 ([]))))
noncomputable def xs2g.q3 := fun v0 v1 v2 v3 v4 v5 v6 => loopAtL E (callT E tab) 119 Try.f119 2 [.r, .r, .l, .r, .b] (xs2g.s3 v0 v1 v2 v3 v4 v5 v6)
noncomputable def xs2g.l3 := fun v0 v1 v2 v3 v4 v5 v6 => tOf xs2g.mk (xs2g.q3 v0 v1 v2 v3 v4 v5 v6)
noncomputable def xs2g.t {γ : Type} (ret : (Int × Zd × Bool) → Option γ) (lp3 : Int → Zd → Int → Zd → Zd → Int → Int → Option γ) (v0 : Int) (v1 : Zd) : Option γ :=
 lp3 ((0 : Int)) ([]) (v0) ([]) (v1) ((↑v1.length : Int)) ((0 : Int))
noncomputable def xs2g.t3 {γ : Type} (ret : (Int × Zd × Bool) → Option γ) (lp3 : Int → Zd → Int → Zd → Zd → Int → Int → Option γ) (v0 : Int) (v1 : Zd) (v2 : Int) (v3 : Zd) (v4 : Zd) (v5 : Int) (v6 : Int) : Option γ :=
 bif decide (v6 < v5) then
  bif decide ((0 : Int) ≤ v6) then
   bif decide (v6.toNat < v4.length) then
    (xs21 ((v4.getD v6.toNat ([], (0 : Int))).fst)).bind fun (r0 : (List Int)) =>
    bif decide (v3.length + [(r0, (v4.getD v6.toNat ([], (0 : Int))).snd)].length ≤ (4294967296 : Nat)) then
     lp3 (v0) (v1) (v2) (v3 ++ [(r0, (v4.getD v6.toNat ([], (0 : Int))).snd)]) (v4) (v5) (IntKind.i64.wrap (v6 + (1 : Int)))
    else
     none
   else
    none
  else
   none
 else
  (xs1r (v2) (v3)).bind fun (r1 : Bool) =>
  bif !r1 then
   ret ((0 : Int), [], Bool.false)
  else
   ret (v2, v3, Bool.true)
theorem xs2g.k (v0 v1) : topL E (callT E tab) 119 Try.f119 (xs2g.c v0 v1) = xs2g.t (fun b => some (xs2g.mk b)) xs2g.q3 v0 v1 := by kernel_rfl
theorem xs2g.k3 (v0 v1 v2 v3 v4 v5 v6) : roundL E (callT E tab) 119 Try.f119 2 [.r, .r, .l, .r, .b] (xs2g.s3 v0 v1 v2 v3 v4 v5 v6) = xs2g.t3 (fun b => some (xs2g.mk b)) xs2g.q3 v0 v1 v2 v3 v4 v5 v6 := by kernel_rfl
theorem xs2g.eq (v0 v1) {b} (h : xs2g.t some xs2g.l3 v0 v1 = some b) : xs2g v0 v1 = some b := tOf_intro xs2g.un (fun _ => by kernel_rfl) (vlim_fn (callT_le E tab) rfl rfl rfl ((xs2g.k v0 v1).trans ((by unfold xs2g.t; repeat' first | exact Sub.ret | exact Sub.none | exact Sub.loop | apply Sub.cond | (apply Sub.bind; intro _) : Sub xs2g.mk _ _) b h)))
theorem xs2g.eq3 (v0 v1 v2 v3 v4 v5 v6) {b} (h : xs2g.t3 some xs2g.l3 v0 v1 v2 v3 v4 v5 v6 = some b) : xs2g.l3 v0 v1 v2 v3 v4 v5 v6 = some b := tOf_intro xs2g.un (fun _ => by kernel_rfl) (loopAtL_step ((xs2g.k3 v0 v1 v2 v3 v4 v5 v6).trans ((by unfold xs2g.t3; repeat' first | exact Sub.ret | exact Sub.none | exact Sub.loop | apply Sub.cond | (apply Sub.bind; intro _) : Sub xs2g.mk _ _) b h)))
def xs1r.s2 (v0 : Int) (v1 : Zd) (v2 : Zd) (v3 : Int) (v4 : Int) : List Cell := nn 1 (⟨(.box false), [iL v0, .d .fro (.sl (.pair (.sl (.int .i64)) (.int .i64))) v1], false, false, false, 0, 0⟩ :: nn 4 (vc (.d .fro (.sl (.pair (.sl (.int .i64)) (.int .i64))) v2) :: vc (iL v3) :: vc (iL v4) :: nn 55 ([])))
noncomputable def xs1r.q2 := fun v0 v1 v2 v3 v4 => loopAtL E (callT E tab) 49 Try.f49 1 [.r, .l, .r, .b] (xs1r.s2 v0 v1 v2 v3 v4)
noncomputable def xs1r.l2 := fun v0 v1 v2 v3 v4 => tOf xs1r.mk (xs1r.q2 v0 v1 v2 v3 v4)
noncomputable def xs1r.t {γ : Type} (ret : (Bool) → Option γ) (lp2 : Int → Zd → Zd → Int → Int → Option γ) (v0 : Int) (v1 : Zd) : Option γ :=
 lp2 (v0) (v1) (v1) ((↑v1.length : Int)) ((0 : Int))
noncomputable def xs1r.t2 {γ : Type} (ret : (Bool) → Option γ) (lp2 : Int → Zd → Zd → Int → Int → Option γ) (v0 : Int) (v1 : Zd) (v2 : Zd) (v3 : Int) (v4 : Int) : Option γ :=
 bif decide (v4 < v3) then
  bif decide ((0 : Int) ≤ v4) then
   bif decide (v4.toNat < v2.length) then
    (xs2a ((v2.getD v4.toNat ([], (0 : Int))).fst)).bind fun (r0 : Bool) =>
    bif !r0 then
     ret (Bool.false)
    else
     bif (↑(v2.getD v4.toNat ([], (0 : Int))).fst.length : Int) != v0 then
      ret (Bool.false)
     else
      (xs22 ((v2.getD v4.toNat ([], (0 : Int))).snd)).bind fun (r1 : Bool) =>
      bif !r1 then
       ret (Bool.false)
      else
       bif (v2.getD v4.toNat ([], (0 : Int))).snd == (0 : Int) then
        ret (Bool.false)
       else
        bif decide (v4 > (0 : Int)) then
         bif decide ((0 : Int) ≤ IntKind.i64.wrap (v4 - (1 : Int))) then
          bif decide ((IntKind.i64.wrap (v4 - (1 : Int))).toNat < v1.length) then
           (xs1t ((v1.getD (IntKind.i64.wrap (v4 - (1 : Int))).toNat ([], (0 : Int))).fst) ((v2.getD v4.toNat ([], (0 : Int))).fst)).bind fun (r2 : Int) =>
           bif decide (r2 ≥ (0 : Int)) then
            ret (Bool.false)
           else
            lp2 (v0) (v1) (v2) (v3) (IntKind.i64.wrap (v4 + (1 : Int)))
          else
           none
         else
          none
        else
         lp2 (v0) (v1) (v2) (v3) (IntKind.i64.wrap (v4 + (1 : Int)))
   else
    none
  else
   none
 else
  (xs2n (v0) ((0 : Int)) ((6 : Int))).bind fun (r3 : Bool) =>
  bif r3 then
   ret (decide ((↑v1.length : Int) ≤ (60 : Int)))
  else
   ret (Bool.false)
theorem xs1r.k (v0 v1) : topL E (callT E tab) 49 Try.f49 (xs1r.c v0 v1) = xs1r.t (fun b => some (xs1r.mk b)) xs1r.q2 v0 v1 := by kernel_rfl
theorem xs1r.k2 (v0 v1 v2 v3 v4) : roundL E (callT E tab) 49 Try.f49 1 [.r, .l, .r, .b] (xs1r.s2 v0 v1 v2 v3 v4) = xs1r.t2 (fun b => some (xs1r.mk b)) xs1r.q2 v0 v1 v2 v3 v4 := by kernel_rfl
theorem xs1r.eq (v0 v1) {b} (h : xs1r.t some xs1r.l2 v0 v1 = some b) : xs1r v0 v1 = some b := tOf_intro xs1r.un (fun _ => by kernel_rfl) (vlim_fn (callT_le E tab) rfl rfl rfl ((xs1r.k v0 v1).trans ((by unfold xs1r.t; repeat' first | exact Sub.ret | exact Sub.none | exact Sub.loop | apply Sub.cond | (apply Sub.bind; intro _) : Sub xs1r.mk _ _) b h)))
theorem xs1r.eq2 (v0 v1 v2 v3 v4) {b} (h : xs1r.t2 some xs1r.l2 v0 v1 v2 v3 v4 = some b) : xs1r.l2 v0 v1 v2 v3 v4 = some b := tOf_intro xs1r.un (fun _ => by kernel_rfl) (loopAtL_step ((xs1r.k2 v0 v1 v2 v3 v4).trans ((by unfold xs1r.t2; repeat' first | exact Sub.ret | exact Sub.none | exact Sub.loop | apply Sub.cond | (apply Sub.bind; intro _) : Sub xs1r.mk _ _) b h)))
end GoV

/- Equations of the program's functions (printed by wip/tools/emit.py). -/
namespace GoV
open Go Go.Proofs
set_option maxRecDepth 100000

noncomputable def xs1i.t {γ : Type} (ret : (Int × Zd × Bool) → Option γ) (v0 : Int) : Option γ :=
 (xs2g (v0) ([])).bind fun (r0 : Int × Zd × Bool) =>
 ret (r0.fst, r0.snd.fst, r0.snd.snd)
theorem xs1i.k (v0) : topL E (callT E tab) 112 Try.f112 (xs1i.c v0) = xs1i.t (fun b => some (xs1i.mk b)) v0 := by kernel_rfl
theorem xs1i.eq (v0) {b} (h : xs1i.t some v0 = some b) : xs1i v0 = some b := tOf_intro xs1i.un (fun _ => by kernel_rfl) (vlim_fn (callT_le E tab) rfl rfl rfl ((xs1i.k v0).trans ((by unfold xs1i.t; repeat' first | exact Sub.ret | exact Sub.none | exact Sub.loop | apply Sub.cond | (apply Sub.bind; intro _) : Sub xs1i.mk _ _) b h)))
def xs1k.s5 (v0 : List Int) (v1 : Int) (v2 : Zc) (v3 : Zd) (v4 : Int) (v5 : Int) : List Cell := nn 1 (vc (.d .fro (.sl (.int .i64)) v0) :: vc (iL v1) :: nn 5 (vc (.d .sha (.sl (.pair (.sl (.int .i64)) (.pair (.int .i64) (.int .i64)))) v2) :: nn 23 (vc (.d .fro (.sl (.pair (.sl (.int .i64)) (.int .i64))) v3) :: vc (iL v4) :: vc (iL v5) :: nn 26 ([]))))
noncomputable def xs1k.q5 := fun v0 v1 v2 v3 v4 v5 => loopAtL E (callT E tab) 20 Try.f20 3 [.r, .r, .r, .l, .r, .b] (xs1k.s5 v0 v1 v2 v3 v4 v5)
noncomputable def xs1k.l5 := fun v0 v1 v2 v3 v4 v5 => tOf xs1k.mk (xs1k.q5 v0 v1 v2 v3 v4 v5)
noncomputable def xs1k.t {γ : Type} (ret : (Zc × Bool) → Option γ) (lp5 : (List Int) → Int → Zc → Zd → Int → Int → Option γ) (v0 : Int) (v1 : Zd) (v2 : List Int) (v3 : Int) : Option γ :=
 (xs1r (v0) (v1)).bind fun (r0 : Bool) =>
 bif !r0 then
  ret ([], Bool.false)
 else
  (xs1s (v2) (v0)).bind fun (r1 : Bool) =>
  bif !r1 then
   ret ([], Bool.false)
  else
   bif decide (v3 < (0 : Int)) then
    ret ([], Bool.false)
   else
    bif decide (v3 ≥ v0) then
     ret ([], Bool.false)
    else
     lp5 (v2) (v3) ([]) (v1) ((↑v1.length : Int)) ((0 : Int))
noncomputable def xs1k.t5 {γ : Type} (ret : (Zc × Bool) → Option γ) (lp5 : (List Int) → Int → Zc → Zd → Int → Int → Option γ) (v0 : List Int) (v1 : Int) (v2 : Zc) (v3 : Zd) (v4 : Int) (v5 : Int) : Option γ :=
 bif decide (v5 < v4) then
  bif decide ((0 : Int) ≤ v5) then
   bif decide (v5.toNat < v3.length) then
    (xs2f ((v3.getD v5.toNat ([], (0 : Int))).fst) (v0)).bind fun (r2 : (List Int)) =>
    bif decide ((0 : Int) ≤ v1) then
     bif decide (v1.toNat < (v3.getD v5.toNat ([], (0 : Int))).fst.length) then
      (xs2k (v2) (r2) ((v3.getD v5.toNat ([], (0 : Int))).snd) (IntKind.i64.wrap   ((v3.getD v5.toNat ([], (0 : Int))).snd * (v3.getD v5.toNat ([], (0 : Int))).fst.getD v1.toNat (0 : Int)))).bind fun (r3 : Zc) =>
      lp5 (v0) (v1) (r3) (v3) (v4) (IntKind.i64.wrap (v5 + (1 : Int)))
     else
      none
    else
     none
   else
    none
  else
   none
 else
  (xs2h (v2)).bind fun (r4 : Zc × Bool) =>
  ret (r4.fst, r4.snd)
theorem xs1k.k (v0 v1 v2 v3) : topL E (callT E tab) 20 Try.f20 (xs1k.c v0 v1 v2 v3) = xs1k.t (fun b => some (xs1k.mk b)) xs1k.q5 v0 v1 v2 v3 := by kernel_rfl
theorem xs1k.k5 (v0 v1 v2 v3 v4 v5) : roundL E (callT E tab) 20 Try.f20 3 [.r, .r, .r, .l, .r, .b] (xs1k.s5 v0 v1 v2 v3 v4 v5) = xs1k.t5 (fun b => some (xs1k.mk b)) xs1k.q5 v0 v1 v2 v3 v4 v5 := by kernel_rfl
theorem xs1k.eq (v0 v1 v2 v3) {b} (h : xs1k.t some xs1k.l5 v0 v1 v2 v3 = some b) : xs1k v0 v1 v2 v3 = some b := tOf_intro xs1k.un (fun _ => by kernel_rfl) (vlim_fn (callT_le E tab) rfl rfl rfl ((xs1k.k v0 v1 v2 v3).trans ((by unfold xs1k.t; repeat' first | exact Sub.ret | exact Sub.none | exact Sub.loop | apply Sub.cond | (apply Sub.bind; intro _) : Sub xs1k.mk _ _) b h)))
theorem xs1k.eq5 (v0 v1 v2 v3 v4 v5) {b} (h : xs1k.t5 some xs1k.l5 v0 v1 v2 v3 v4 v5 = some b) : xs1k.l5 v0 v1 v2 v3 v4 v5 = some b := tOf_intro xs1k.un (fun _ => by kernel_rfl) (loopAtL_step ((xs1k.k5 v0 v1 v2 v3 v4 v5).trans ((by unfold xs1k.t5; repeat' first | exact Sub.ret | exact Sub.none | exact Sub.loop | apply Sub.cond | (apply Sub.bind; intro _) : Sub xs1k.mk _ _) b h)))
def xs1s.s2 (v0 : List Int) (v1 : Int) (v2 : List Int) (v3 : Int) (v4 : Int) : List Cell := vc (.d .fro (.sl (.int .i64)) v0) :: vc (iL v1) :: nn 5 (vc (.d .fro (.sl (.int .i64)) v2) :: vc (iL v3) :: vc (iL v4) :: nn 14 ([]))
noncomputable def xs1s.q2 := fun v0 v1 v2 v3 v4 => loopAtL E (callT E tab) 50 Try.f50 2 [.r, .l, .r, .b] (xs1s.s2 v0 v1 v2 v3 v4)
noncomputable def xs1s.l2 := fun v0 v1 v2 v3 v4 => tOf xs1s.mk (xs1s.q2 v0 v1 v2 v3 v4)
noncomputable def xs1s.t {γ : Type} (ret : (Bool) → Option γ) (lp2 : (List Int) → Int → (List Int) → Int → Int → Option γ) (v0 : List Int) (v1 : Int) : Option γ :=
 lp2 (v0) (v1) (v0) ((↑v0.length : Int)) ((0 : Int))
noncomputable def xs1s.t2 {γ : Type} (ret : (Bool) → Option γ) (lp2 : (List Int) → Int → (List Int) → Int → Int → Option γ) (v0 : List Int) (v1 : Int) (v2 : List Int) (v3 : Int) (v4 : Int) : Option γ :=
 bif decide (v4 < v3) then
  bif decide ((0 : Int) ≤ v4) then
   bif decide (v4.toNat < v2.length) then
    bif decide (v2.getD v4.toNat (0 : Int) < (0 : Int)) then
     ret (Bool.false)
    else
     bif decide (v2.getD v4.toNat (0 : Int) ≥ v1) then
      ret (Bool.false)
     else
      lp2 (v0) (v1) (v2) (v3) (IntKind.i64.wrap (v4 + (1 : Int)))
   else
    none
  else
   none
 else
  ret (decide ((↑v0.length : Int) ≤ (6 : Int)))
theorem xs1s.k (v0 v1) : topL E (callT E tab) 50 Try.f50 (xs1s.c v0 v1) = xs1s.t (fun b => some (xs1s.mk b)) xs1s.q2 v0 v1 := by kernel_rfl
theorem xs1s.k2 (v0 v1 v2 v3 v4) : roundL E (callT E tab) 50 Try.f50 2 [.r, .l, .r, .b] (xs1s.s2 v0 v1 v2 v3 v4) = xs1s.t2 (fun b => some (xs1s.mk b)) xs1s.q2 v0 v1 v2 v3 v4 := by kernel_rfl
theorem xs1s.eq (v0 v1) {b} (h : xs1s.t some xs1s.l2 v0 v1 = some b) : xs1s v0 v1 = some b := tOf_intro xs1s.un (fun _ => by kernel_rfl) (vlim_fn (callT_le E tab) rfl rfl rfl ((xs1s.k v0 v1).trans ((by unfold xs1s.t; repeat' first | exact Sub.ret | exact Sub.none | exact Sub.loop | apply Sub.cond | (apply Sub.bind; intro _) : Sub xs1s.mk _ _) b h)))
theorem xs1s.eq2 (v0 v1 v2 v3 v4) {b} (h : xs1s.t2 some xs1s.l2 v0 v1 v2 v3 v4 = some b) : xs1s.l2 v0 v1 v2 v3 v4 = some b := tOf_intro xs1s.un (fun _ => by kernel_rfl) (loopAtL_step ((xs1s.k2 v0 v1 v2 v3 v4).trans ((by unfold xs1s.t2; repeat' first | exact Sub.ret | exact Sub.none | exact Sub.loop | apply Sub.cond | (apply Sub.bind; intro _) : Sub xs1s.mk _ _) b h)))
def xs2f.s3 (v0 : List Int) (v1 : List Int) (v2 : List Int) (v3 : List Int) (v4 : Int) (v5 : Int) : List Cell := nn 2 (⟨(.box false), [.d .fro (.sl (.int .i64)) v0], false, false, false, 0, 0⟩ :: nn 1 (⟨(.box false), [.d .deep (.sl (.int .i64)) v1], false, false, false, 0, 0⟩ :: ⟨(.box false), [.d .deep (.sl (.int .i64)) v2], false, false, false, 0, 0⟩ :: nn 3 (vc (.d .fro (.sl (.int .i64)) v3) :: vc (iL v4) :: vc (iL v5) :: nn 15 ([]))))
noncomputable def xs2f.q3 := fun v0 v1 v2 v3 v4 v5 => loopAtL E (callT E tab) 43 Try.f43 2 [.r, .r, .l, .r, .b] (xs2f.s3 v0 v1 v2 v3 v4 v5)
noncomputable def xs2f.l3 := fun v0 v1 v2 v3 v4 v5 => tOf xs2f.mk (xs2f.q3 v0 v1 v2 v3 v4 v5)
noncomputable def xs2f.t {γ : Type} (ret : ((List Int)) → Option γ) (lp3 : (List Int) → (List Int) → (List Int) → (List Int) → Int → Int → Option γ) (v0 : List Int) (v1 : List Int) : Option γ :=
 lp3 (v0) ([]) ([]) (v1) ((↑v1.length : Int)) ((0 : Int))
noncomputable def xs2f.t3 {γ : Type} (ret : ((List Int)) → Option γ) (lp3 : (List Int) → (List Int) → (List Int) → (List Int) → Int → Int → Option γ) (v0 : List Int) (v1 : List Int) (v2 : List Int) (v3 : List Int) (v4 : Int) (v5 : Int) : Option γ :=
 bif decide (v5 < v4) then
  bif decide ((0 : Int) ≤ v5) then
   bif decide (v5.toNat < v3.length) then
    bif decide ((0 : Int) ≤ v3.getD v5.toNat (0 : Int)) then
     bif decide ((v3.getD v5.toNat (0 : Int)).toNat < v0.length) then
      bif decide (v2.length + [v0.getD (v3.getD v5.toNat (0 : Int)).toNat (0 : Int)].length ≤ (4294967296 : Nat)) then
       lp3 (v0) (v1) (v2 ++ [v0.getD (v3.getD v5.toNat (0 : Int)).toNat (0 : Int)]) (v3) (v4) (IntKind.i64.wrap (v5 + (1 : Int)))
      else
       none
     else
      none
    else
     none
   else
    none
  else
   none
 else
  ret (v2)
theorem xs2f.k (v0 v1) : topL E (callT E tab) 43 Try.f43 (xs2f.c v0 v1) = xs2f.t (fun b => some (xs2f.mk b)) xs2f.q3 v0 v1 := by kernel_rfl
theorem xs2f.k3 (v0 v1 v2 v3 v4 v5) : roundL E (callT E tab) 43 Try.f43 2 [.r, .r, .l, .r, .b] (xs2f.s3 v0 v1 v2 v3 v4 v5) = xs2f.t3 (fun b => some (xs2f.mk b)) xs2f.q3 v0 v1 v2 v3 v4 v5 := by kernel_rfl
theorem xs2f.eq (v0 v1) {b} (h : xs2f.t some xs2f.l3 v0 v1 = some b) : xs2f v0 v1 = some b := tOf_intro xs2f.un (fun _ => by kernel_rfl) (vlim_fn (callT_le E tab) rfl rfl rfl ((xs2f.k v0 v1).trans ((by unfold xs2f.t; repeat' first | exact Sub.ret | exact Sub.none | exact Sub.loop | apply Sub.cond | (apply Sub.bind; intro _) : Sub xs2f.mk _ _) b h)))
theorem xs2f.eq3 (v0 v1 v2 v3 v4 v5) {b} (h : xs2f.t3 some xs2f.l3 v0 v1 v2 v3 v4 v5 = some b) : xs2f.l3 v0 v1 v2 v3 v4 v5 = some b := tOf_intro xs2f.un (fun _ => by kernel_rfl) (loopAtL_step ((xs2f.k3 v0 v1 v2 v3 v4 v5).trans ((by unfold xs2f.t3; repeat' first | exact Sub.ret | exact Sub.none | exact Sub.loop | apply Sub.cond | (apply Sub.bind; intro _) : Sub xs2f.mk _ _) b h)))
def xs2k.s2 (v0 : Zc) (v1 : List Int) (v2 : Int) (v3 : Int) (v4 : Int) : List Cell := vc (.d .fro (.sl (.pair (.sl (.int .i64)) (.pair (.int .i64) (.int .i64)))) v0) :: nn 2 (⟨(.box false), [.d .fro (.sl (.int .i64)) v1, iL v2, iL v3], false, false, false, 0, 0⟩ :: nn 1 (vc (iL v4) :: nn 79 ([])))
noncomputable def xs2k.q2 := fun v0 v1 v2 v3 v4 => loopAtL E (callT E tab) 35 Try.f35 2 [.r, .r, .l, .b] (xs2k.s2 v0 v1 v2 v3 v4)
noncomputable def xs2k.l2 := fun v0 v1 v2 v3 v4 => tOf xs2k.mk (xs2k.q2 v0 v1 v2 v3 v4)
noncomputable def xs2k.t {γ : Type} (ret : (Zc) → Option γ) (lp2 : Zc → (List Int) → Int → Int → Int → Option γ) (v0 : Zc) (v1 : List Int) (v2 : Int) (v3 : Int) : Option γ :=
 lp2 (v0) (v1) (v2) (v3) ((0 : Int))
noncomputable def xs2k.t2 {γ : Type} (ret : (Zc) → Option γ) (lp2 : Zc → (List Int) → Int → Int → Int → Option γ) (v0 : Zc) (v1 : List Int) (v2 : Int) (v3 : Int) (v4 : Int) : Option γ :=
 bif decide (v4 < (↑v0.length : Int)) then
  bif decide ((0 : Int) ≤ v4) then
   bif decide (v4.toNat < v0.length) then
    (xs1t ((v0.getD v4.toNat ([], (0 : Int), (0 : Int))).fst) (v1)).bind fun (r0 : Int) =>
    bif decide (r0 < (0 : Int)) then
     lp2 (v0) (v1) (v2) (v3) (IntKind.i64.wrap (v4 + (1 : Int)))
    else
     bif decide (Option.none.getD (0 : Int) ≤ v4) then
      bif decide (v4 ≤ (↑v0.length : Int)) then
       bif decide   ((List.take (v4 - Option.none.getD (0 : Int)).toNat (List.drop (Option.none.getD (0 : Int)).toNat v0)).length ≤     (4294967296 : Nat)) then
        (xs21 (v1)).bind fun (r1 : (List Int)) =>
        bif decide (v4 < (↑v0.length : Int)) then
         bif decide ((0 : Int) ≤ v4) then
          bif decide (v4.toNat < v0.length) then
           (xs1t ((v0.getD v4.toNat ([], (0 : Int), (0 : Int))).fst) (r1)).bind fun (r2 : Int) =>
           bif r2 == (0 : Int) then
            bif decide ((0 : Int) ≤ v4) then
             bif decide (v4.toNat < v0.length) then
              bif decide ((0 : Int) ≤ v4) then
               bif decide (v4.toNat < v0.length) then
                bif IntKind.i64.wrap (v2 + (v0.getD v4.toNat ([], (0 : Int), (0 : Int))).snd.fst) != (0 : Int) then
                 bif decide   ((List.take (v4 - Option.none.getD (0 : Int)).toNat (List.drop (Option.none.getD (0 : Int)).toNat v0)).length +       [(r1, IntKind.i64.wrap (v2 + (v0.getD v4.toNat ([], (0 : Int), (0 : Int))).snd.fst),             IntKind.i64.wrap (v3 + (v0.getD v4.toNat ([], (0 : Int), (0 : Int))).snd.snd))].length ≤     (4294967296 : Nat)) then
                  bif decide ((0 : Int) ≤ (Option.some (IntKind.i64.wrap (v4 + (1 : Int)))).getD (0 : Int)) then
                   bif decide ((Option.some (IntKind.i64.wrap (v4 + (1 : Int)))).getD (0 : Int) ≤ (↑v0.length : Int)) then
                    bif decide   ((List.take (v4 - Option.none.getD (0 : Int)).toNat (List.drop (Option.none.getD (0 : Int)).toNat v0) ++           [(r1, IntKind.i64.wrap (v2 + (v0.getD v4.toNat ([], (0 : Int), (0 : Int))).snd.fst),               IntKind.i64.wrap (v3 + (v0.getD v4.toNat ([], (0 : Int), (0 : Int))).snd.snd))]).length +       (List.drop ((Option.some (IntKind.i64.wrap (v4 + (1 : Int)))).getD (0 : Int)).toNat v0).length ≤     (4294967296 : Nat)) then
                     ret (List.take (v4 - Option.none.getD (0 : Int)).toNat (List.drop (Option.none.getD (0 : Int)).toNat v0) ++     [(r1, IntKind.i64.wrap (v2 + (v0.getD v4.toNat ([], (0 : Int), (0 : Int))).snd.fst),         IntKind.i64.wrap (v3 + (v0.getD v4.toNat ([], (0 : Int), (0 : Int))).snd.snd))] ++   List.drop ((Option.some (IntKind.i64.wrap (v4 + (1 : Int)))).getD (0 : Int)).toNat v0)
                    else
                     none
                   else
                    none
                  else
                   none
                 else
                  none
                else
                 bif IntKind.i64.wrap (v3 + (v0.getD v4.toNat ([], (0 : Int), (0 : Int))).snd.snd) != (0 : Int) then
                  bif decide   ((List.take (v4 - Option.none.getD (0 : Int)).toNat (List.drop (Option.none.getD (0 : Int)).toNat v0)).length +       [(r1, IntKind.i64.wrap (v2 + (v0.getD v4.toNat ([], (0 : Int), (0 : Int))).snd.fst),             IntKind.i64.wrap (v3 + (v0.getD v4.toNat ([], (0 : Int), (0 : Int))).snd.snd))].length ≤     (4294967296 : Nat)) then
                   bif decide ((0 : Int) ≤ (Option.some (IntKind.i64.wrap (v4 + (1 : Int)))).getD (0 : Int)) then
                    bif decide ((Option.some (IntKind.i64.wrap (v4 + (1 : Int)))).getD (0 : Int) ≤ (↑v0.length : Int)) then
                     bif decide   ((List.take (v4 - Option.none.getD (0 : Int)).toNat (List.drop (Option.none.getD (0 : Int)).toNat v0) ++           [(r1, IntKind.i64.wrap (v2 + (v0.getD v4.toNat ([], (0 : Int), (0 : Int))).snd.fst),               IntKind.i64.wrap (v3 + (v0.getD v4.toNat ([], (0 : Int), (0 : Int))).snd.snd))]).length +       (List.drop ((Option.some (IntKind.i64.wrap (v4 + (1 : Int)))).getD (0 : Int)).toNat v0).length ≤     (4294967296 : Nat)) then
                      ret (List.take (v4 - Option.none.getD (0 : Int)).toNat (List.drop (Option.none.getD (0 : Int)).toNat v0) ++     [(r1, IntKind.i64.wrap (v2 + (v0.getD v4.toNat ([], (0 : Int), (0 : Int))).snd.fst),         IntKind.i64.wrap (v3 + (v0.getD v4.toNat ([], (0 : Int), (0 : Int))).snd.snd))] ++   List.drop ((Option.some (IntKind.i64.wrap (v4 + (1 : Int)))).getD (0 : Int)).toNat v0)
                     else
                      none
                    else
                     none
                   else
                    none
                  else
                   none
                 else
                  bif decide ((0 : Int) ≤ (Option.some (IntKind.i64.wrap (v4 + (1 : Int)))).getD (0 : Int)) then
                   bif decide ((Option.some (IntKind.i64.wrap (v4 + (1 : Int)))).getD (0 : Int) ≤ (↑v0.length : Int)) then
                    bif decide   ((List.take (v4 - Option.none.getD (0 : Int)).toNat (List.drop (Option.none.getD (0 : Int)).toNat v0)).length +       (List.drop ((Option.some (IntKind.i64.wrap (v4 + (1 : Int)))).getD (0 : Int)).toNat v0).length ≤     (4294967296 : Nat)) then
                     ret (List.take (v4 - Option.none.getD (0 : Int)).toNat (List.drop (Option.none.getD (0 : Int)).toNat v0) ++   List.drop ((Option.some (IntKind.i64.wrap (v4 + (1 : Int)))).getD (0 : Int)).toNat v0)
                    else
                     none
                   else
                    none
                  else
                   none
               else
                none
              else
               none
             else
              none
            else
             none
           else
            bif v2 != (0 : Int) then
             bif decide   ((List.take (v4 - Option.none.getD (0 : Int)).toNat (List.drop (Option.none.getD (0 : Int)).toNat v0)).length +       [(r1, v2, v3)].length ≤     (4294967296 : Nat)) then
              bif decide ((0 : Int) ≤ (Option.some v4).getD (0 : Int)) then
               bif decide ((Option.some v4).getD (0 : Int) ≤ (↑v0.length : Int)) then
                bif decide   ((List.take (v4 - Option.none.getD (0 : Int)).toNat (List.drop (Option.none.getD (0 : Int)).toNat v0) ++           [(r1, v2, v3)]).length +       (List.drop ((Option.some v4).getD (0 : Int)).toNat v0).length ≤     (4294967296 : Nat)) then
                 ret (List.take (v4 - Option.none.getD (0 : Int)).toNat (List.drop (Option.none.getD (0 : Int)).toNat v0) ++ [(r1, v2, v3)] ++   List.drop ((Option.some v4).getD (0 : Int)).toNat v0)
                else
                 none
               else
                none
              else
               none
             else
              none
            else
             bif v3 != (0 : Int) then
              bif decide   ((List.take (v4 - Option.none.getD (0 : Int)).toNat (List.drop (Option.none.getD (0 : Int)).toNat v0)).length +       [(r1, v2, v3)].length ≤     (4294967296 : Nat)) then
               bif decide ((0 : Int) ≤ (Option.some v4).getD (0 : Int)) then
                bif decide ((Option.some v4).getD (0 : Int) ≤ (↑v0.length : Int)) then
                 bif decide   ((List.take (v4 - Option.none.getD (0 : Int)).toNat (List.drop (Option.none.getD (0 : Int)).toNat v0) ++           [(r1, v2, v3)]).length +       (List.drop ((Option.some v4).getD (0 : Int)).toNat v0).length ≤     (4294967296 : Nat)) then
                  ret (List.take (v4 - Option.none.getD (0 : Int)).toNat (List.drop (Option.none.getD (0 : Int)).toNat v0) ++ [(r1, v2, v3)] ++   List.drop ((Option.some v4).getD (0 : Int)).toNat v0)
                 else
                  none
                else
                 none
               else
                none
              else
               none
             else
              bif decide ((0 : Int) ≤ (Option.some v4).getD (0 : Int)) then
               bif decide ((Option.some v4).getD (0 : Int) ≤ (↑v0.length : Int)) then
                bif decide   ((List.take (v4 - Option.none.getD (0 : Int)).toNat (List.drop (Option.none.getD (0 : Int)).toNat v0)).length +       (List.drop ((Option.some v4).getD (0 : Int)).toNat v0).length ≤     (4294967296 : Nat)) then
                 ret (List.take (v4 - Option.none.getD (0 : Int)).toNat (List.drop (Option.none.getD (0 : Int)).toNat v0) ++   List.drop ((Option.some v4).getD (0 : Int)).toNat v0)
                else
                 none
               else
                none
              else
               none
          else
           none
         else
          none
        else
         bif v2 != (0 : Int) then
          bif decide   ((List.take (v4 - Option.none.getD (0 : Int)).toNat (List.drop (Option.none.getD (0 : Int)).toNat v0)).length +       [(r1, v2, v3)].length ≤     (4294967296 : Nat)) then
           bif decide ((0 : Int) ≤ (Option.some v4).getD (0 : Int)) then
            bif decide ((Option.some v4).getD (0 : Int) ≤ (↑v0.length : Int)) then
             bif decide   ((List.take (v4 - Option.none.getD (0 : Int)).toNat (List.drop (Option.none.getD (0 : Int)).toNat v0) ++           [(r1, v2, v3)]).length +       (List.drop ((Option.some v4).getD (0 : Int)).toNat v0).length ≤     (4294967296 : Nat)) then
              ret (List.take (v4 - Option.none.getD (0 : Int)).toNat (List.drop (Option.none.getD (0 : Int)).toNat v0) ++ [(r1, v2, v3)] ++   List.drop ((Option.some v4).getD (0 : Int)).toNat v0)
             else
              none
            else
             none
           else
            none
          else
           none
         else
          bif v3 != (0 : Int) then
           bif decide   ((List.take (v4 - Option.none.getD (0 : Int)).toNat (List.drop (Option.none.getD (0 : Int)).toNat v0)).length +       [(r1, v2, v3)].length ≤     (4294967296 : Nat)) then
            bif decide ((0 : Int) ≤ (Option.some v4).getD (0 : Int)) then
             bif decide ((Option.some v4).getD (0 : Int) ≤ (↑v0.length : Int)) then
              bif decide   ((List.take (v4 - Option.none.getD (0 : Int)).toNat (List.drop (Option.none.getD (0 : Int)).toNat v0) ++           [(r1, v2, v3)]).length +       (List.drop ((Option.some v4).getD (0 : Int)).toNat v0).length ≤     (4294967296 : Nat)) then
               ret (List.take (v4 - Option.none.getD (0 : Int)).toNat (List.drop (Option.none.getD (0 : Int)).toNat v0) ++ [(r1, v2, v3)] ++   List.drop ((Option.some v4).getD (0 : Int)).toNat v0)
              else
               none
             else
              none
            else
             none
           else
            none
          else
           bif decide ((0 : Int) ≤ (Option.some v4).getD (0 : Int)) then
            bif decide ((Option.some v4).getD (0 : Int) ≤ (↑v0.length : Int)) then
             bif decide   ((List.take (v4 - Option.none.getD (0 : Int)).toNat (List.drop (Option.none.getD (0 : Int)).toNat v0)).length +       (List.drop ((Option.some v4).getD (0 : Int)).toNat v0).length ≤     (4294967296 : Nat)) then
              ret (List.take (v4 - Option.none.getD (0 : Int)).toNat (List.drop (Option.none.getD (0 : Int)).toNat v0) ++   List.drop ((Option.some v4).getD (0 : Int)).toNat v0)
             else
              none
            else
             none
           else
            none
       else
        none
      else
       none
     else
      none
   else
    none
  else
   none
 else
  bif decide (Option.none.getD (0 : Int) ≤ v4) then
   bif decide (v4 ≤ (↑v0.length : Int)) then
    bif decide   ((List.take (v4 - Option.none.getD (0 : Int)).toNat (List.drop (Option.none.getD (0 : Int)).toNat v0)).length ≤     (4294967296 : Nat)) then
     (xs21 (v1)).bind fun (r3 : (List Int)) =>
     bif decide (v4 < (↑v0.length : Int)) then
      bif decide ((0 : Int) ≤ v4) then
       bif decide (v4.toNat < v0.length) then
        (xs1t ((v0.getD v4.toNat ([], (0 : Int), (0 : Int))).fst) (r3)).bind fun (r4 : Int) =>
        bif r4 == (0 : Int) then
         bif decide ((0 : Int) ≤ v4) then
          bif decide (v4.toNat < v0.length) then
           bif decide ((0 : Int) ≤ v4) then
            bif decide (v4.toNat < v0.length) then
             bif IntKind.i64.wrap (v2 + (v0.getD v4.toNat ([], (0 : Int), (0 : Int))).snd.fst) != (0 : Int) then
              bif decide   ((List.take (v4 - Option.none.getD (0 : Int)).toNat (List.drop (Option.none.getD (0 : Int)).toNat v0)).length +       [(r3, IntKind.i64.wrap (v2 + (v0.getD v4.toNat ([], (0 : Int), (0 : Int))).snd.fst),             IntKind.i64.wrap (v3 + (v0.getD v4.toNat ([], (0 : Int), (0 : Int))).snd.snd))].length ≤     (4294967296 : Nat)) then
               bif decide ((0 : Int) ≤ (Option.some (IntKind.i64.wrap (v4 + (1 : Int)))).getD (0 : Int)) then
                bif decide ((Option.some (IntKind.i64.wrap (v4 + (1 : Int)))).getD (0 : Int) ≤ (↑v0.length : Int)) then
                 bif decide   ((List.take (v4 - Option.none.getD (0 : Int)).toNat (List.drop (Option.none.getD (0 : Int)).toNat v0) ++           [(r3, IntKind.i64.wrap (v2 + (v0.getD v4.toNat ([], (0 : Int), (0 : Int))).snd.fst),               IntKind.i64.wrap (v3 + (v0.getD v4.toNat ([], (0 : Int), (0 : Int))).snd.snd))]).length +       (List.drop ((Option.some (IntKind.i64.wrap (v4 + (1 : Int)))).getD (0 : Int)).toNat v0).length ≤     (4294967296 : Nat)) then
                  ret (List.take (v4 - Option.none.getD (0 : Int)).toNat (List.drop (Option.none.getD (0 : Int)).toNat v0) ++     [(r3, IntKind.i64.wrap (v2 + (v0.getD v4.toNat ([], (0 : Int), (0 : Int))).snd.fst),         IntKind.i64.wrap (v3 + (v0.getD v4.toNat ([], (0 : Int), (0 : Int))).snd.snd))] ++   List.drop ((Option.some (IntKind.i64.wrap (v4 + (1 : Int)))).getD (0 : Int)).toNat v0)
                 else
                  none
                else
                 none
               else
                none
              else
               none
             else
              bif IntKind.i64.wrap (v3 + (v0.getD v4.toNat ([], (0 : Int), (0 : Int))).snd.snd) != (0 : Int) then
               bif decide   ((List.take (v4 - Option.none.getD (0 : Int)).toNat (List.drop (Option.none.getD (0 : Int)).toNat v0)).length +       [(r3, IntKind.i64.wrap (v2 + (v0.getD v4.toNat ([], (0 : Int), (0 : Int))).snd.fst),             IntKind.i64.wrap (v3 + (v0.getD v4.toNat ([], (0 : Int), (0 : Int))).snd.snd))].length ≤     (4294967296 : Nat)) then
                bif decide ((0 : Int) ≤ (Option.some (IntKind.i64.wrap (v4 + (1 : Int)))).getD (0 : Int)) then
                 bif decide ((Option.some (IntKind.i64.wrap (v4 + (1 : Int)))).getD (0 : Int) ≤ (↑v0.length : Int)) then
                  bif decide   ((List.take (v4 - Option.none.getD (0 : Int)).toNat (List.drop (Option.none.getD (0 : Int)).toNat v0) ++           [(r3, IntKind.i64.wrap (v2 + (v0.getD v4.toNat ([], (0 : Int), (0 : Int))).snd.fst),               IntKind.i64.wrap (v3 + (v0.getD v4.toNat ([], (0 : Int), (0 : Int))).snd.snd))]).length +       (List.drop ((Option.some (IntKind.i64.wrap (v4 + (1 : Int)))).getD (0 : Int)).toNat v0).length ≤     (4294967296 : Nat)) then
                   ret (List.take (v4 - Option.none.getD (0 : Int)).toNat (List.drop (Option.none.getD (0 : Int)).toNat v0) ++     [(r3, IntKind.i64.wrap (v2 + (v0.getD v4.toNat ([], (0 : Int), (0 : Int))).snd.fst),         IntKind.i64.wrap (v3 + (v0.getD v4.toNat ([], (0 : Int), (0 : Int))).snd.snd))] ++   List.drop ((Option.some (IntKind.i64.wrap (v4 + (1 : Int)))).getD (0 : Int)).toNat v0)
                  else
                   none
                 else
                  none
                else
                 none
               else
                none
              else
               bif decide ((0 : Int) ≤ (Option.some (IntKind.i64.wrap (v4 + (1 : Int)))).getD (0 : Int)) then
                bif decide ((Option.some (IntKind.i64.wrap (v4 + (1 : Int)))).getD (0 : Int) ≤ (↑v0.length : Int)) then
                 bif decide   ((List.take (v4 - Option.none.getD (0 : Int)).toNat (List.drop (Option.none.getD (0 : Int)).toNat v0)).length +       (List.drop ((Option.some (IntKind.i64.wrap (v4 + (1 : Int)))).getD (0 : Int)).toNat v0).length ≤     (4294967296 : Nat)) then
                  ret (List.take (v4 - Option.none.getD (0 : Int)).toNat (List.drop (Option.none.getD (0 : Int)).toNat v0) ++   List.drop ((Option.some (IntKind.i64.wrap (v4 + (1 : Int)))).getD (0 : Int)).toNat v0)
                 else
                  none
                else
                 none
               else
                none
            else
             none
           else
            none
          else
           none
         else
          none
        else
         bif v2 != (0 : Int) then
          bif decide   ((List.take (v4 - Option.none.getD (0 : Int)).toNat (List.drop (Option.none.getD (0 : Int)).toNat v0)).length +       [(r3, v2, v3)].length ≤     (4294967296 : Nat)) then
           bif decide ((0 : Int) ≤ (Option.some v4).getD (0 : Int)) then
            bif decide ((Option.some v4).getD (0 : Int) ≤ (↑v0.length : Int)) then
             bif decide   ((List.take (v4 - Option.none.getD (0 : Int)).toNat (List.drop (Option.none.getD (0 : Int)).toNat v0) ++           [(r3, v2, v3)]).length +       (List.drop ((Option.some v4).getD (0 : Int)).toNat v0).length ≤     (4294967296 : Nat)) then
              ret (List.take (v4 - Option.none.getD (0 : Int)).toNat (List.drop (Option.none.getD (0 : Int)).toNat v0) ++ [(r3, v2, v3)] ++   List.drop ((Option.some v4).getD (0 : Int)).toNat v0)
             else
              none
            else
             none
           else
            none
          else
           none
         else
          bif v3 != (0 : Int) then
           bif decide   ((List.take (v4 - Option.none.getD (0 : Int)).toNat (List.drop (Option.none.getD (0 : Int)).toNat v0)).length +       [(r3, v2, v3)].length ≤     (4294967296 : Nat)) then
            bif decide ((0 : Int) ≤ (Option.some v4).getD (0 : Int)) then
             bif decide ((Option.some v4).getD (0 : Int) ≤ (↑v0.length : Int)) then
              bif decide   ((List.take (v4 - Option.none.getD (0 : Int)).toNat (List.drop (Option.none.getD (0 : Int)).toNat v0) ++           [(r3, v2, v3)]).length +       (List.drop ((Option.some v4).getD (0 : Int)).toNat v0).length ≤     (4294967296 : Nat)) then
               ret (List.take (v4 - Option.none.getD (0 : Int)).toNat (List.drop (Option.none.getD (0 : Int)).toNat v0) ++ [(r3, v2, v3)] ++   List.drop ((Option.some v4).getD (0 : Int)).toNat v0)
              else
               none
             else
              none
            else
             none
           else
            none
          else
           bif decide ((0 : Int) ≤ (Option.some v4).getD (0 : Int)) then
            bif decide ((Option.some v4).getD (0 : Int) ≤ (↑v0.length : Int)) then
             bif decide   ((List.take (v4 - Option.none.getD (0 : Int)).toNat (List.drop (Option.none.getD (0 : Int)).toNat v0)).length +       (List.drop ((Option.some v4).getD (0 : Int)).toNat v0).length ≤     (4294967296 : Nat)) then
              ret (List.take (v4 - Option.none.getD (0 : Int)).toNat (List.drop (Option.none.getD (0 : Int)).toNat v0) ++   List.drop ((Option.some v4).getD (0 : Int)).toNat v0)
             else
              none
            else
             none
           else
            none
       else
        none
      else
       none
     else
      bif v2 != (0 : Int) then
       bif decide   ((List.take (v4 - Option.none.getD (0 : Int)).toNat (List.drop (Option.none.getD (0 : Int)).toNat v0)).length +       [(r3, v2, v3)].length ≤     (4294967296 : Nat)) then
        bif decide ((0 : Int) ≤ (Option.some v4).getD (0 : Int)) then
         bif decide ((Option.some v4).getD (0 : Int) ≤ (↑v0.length : Int)) then
          bif decide   ((List.take (v4 - Option.none.getD (0 : Int)).toNat (List.drop (Option.none.getD (0 : Int)).toNat v0) ++           [(r3, v2, v3)]).length +       (List.drop ((Option.some v4).getD (0 : Int)).toNat v0).length ≤     (4294967296 : Nat)) then
           ret (List.take (v4 - Option.none.getD (0 : Int)).toNat (List.drop (Option.none.getD (0 : Int)).toNat v0) ++ [(r3, v2, v3)] ++   List.drop ((Option.some v4).getD (0 : Int)).toNat v0)
          else
           none
         else
          none
        else
         none
       else
        none
      else
       bif v3 != (0 : Int) then
        bif decide   ((List.take (v4 - Option.none.getD (0 : Int)).toNat (List.drop (Option.none.getD (0 : Int)).toNat v0)).length +       [(r3, v2, v3)].length ≤     (4294967296 : Nat)) then
         bif decide ((0 : Int) ≤ (Option.some v4).getD (0 : Int)) then
          bif decide ((Option.some v4).getD (0 : Int) ≤ (↑v0.length : Int)) then
           bif decide   ((List.take (v4 - Option.none.getD (0 : Int)).toNat (List.drop (Option.none.getD (0 : Int)).toNat v0) ++           [(r3, v2, v3)]).length +       (List.drop ((Option.some v4).getD (0 : Int)).toNat v0).length ≤     (4294967296 : Nat)) then
            ret (List.take (v4 - Option.none.getD (0 : Int)).toNat (List.drop (Option.none.getD (0 : Int)).toNat v0) ++ [(r3, v2, v3)] ++   List.drop ((Option.some v4).getD (0 : Int)).toNat v0)
           else
            none
          else
           none
         else
          none
        else
         none
       else
        bif decide ((0 : Int) ≤ (Option.some v4).getD (0 : Int)) then
         bif decide ((Option.some v4).getD (0 : Int) ≤ (↑v0.length : Int)) then
          bif decide   ((List.take (v4 - Option.none.getD (0 : Int)).toNat (List.drop (Option.none.getD (0 : Int)).toNat v0)).length +       (List.drop ((Option.some v4).getD (0 : Int)).toNat v0).length ≤     (4294967296 : Nat)) then
           ret (List.take (v4 - Option.none.getD (0 : Int)).toNat (List.drop (Option.none.getD (0 : Int)).toNat v0) ++   List.drop ((Option.some v4).getD (0 : Int)).toNat v0)
          else
           none
         else
          none
        else
         none
    else
     none
   else
    none
  else
   none
theorem xs2k.k (v0 v1 v2 v3) : topL E (callT E tab) 35 Try.f35 (xs2k.c v0 v1 v2 v3) = xs2k.t (fun b => some (xs2k.mk b)) xs2k.q2 v0 v1 v2 v3 := by kernel_rfl
theorem xs2k.k2 (v0 v1 v2 v3 v4) : roundL E (callT E tab) 35 Try.f35 2 [.r, .r, .l, .b] (xs2k.s2 v0 v1 v2 v3 v4) = xs2k.t2 (fun b => some (xs2k.mk b)) xs2k.q2 v0 v1 v2 v3 v4 := by kernel_rfl
theorem xs2k.eq (v0 v1 v2 v3) {b} (h : xs2k.t some xs2k.l2 v0 v1 v2 v3 = some b) : xs2k v0 v1 v2 v3 = some b := tOf_intro xs2k.un (fun _ => by kernel_rfl) (vlim_fn (callT_le E tab) rfl rfl rfl ((xs2k.k v0 v1 v2 v3).trans ((by unfold xs2k.t; repeat' first | exact Sub.ret | exact Sub.none | exact Sub.loop | apply Sub.cond | (apply Sub.bind; intro _) : Sub xs2k.mk _ _) b h)))
theorem xs2k.eq2 (v0 v1 v2 v3 v4) {b} (h : xs2k.t2 some xs2k.l2 v0 v1 v2 v3 v4 = some b) : xs2k.l2 v0 v1 v2 v3 v4 = some b := tOf_intro xs2k.un (fun _ => by kernel_rfl) (loopAtL_step ((xs2k.k2 v0 v1 v2 v3 v4).trans ((by unfold xs2k.t2; repeat' first | exact Sub.ret | exact Sub.none | exact Sub.loop | apply Sub.cond | (apply Sub.bind; intro _) : Sub xs2k.mk _ _) b h)))
def xs2h.s5 (v0 : Zc) (v1 : Zc) (v2 : Int) (v3 : Int) : List Cell := nn 4 (vc (.d .deep (.sl (.pair (.sl (.int .i64)) (.pair (.int .i64) (.int .i64)))) v0) :: nn 5 (vc (.d .fro (.sl (.pair (.sl (.int .i64)) (.pair (.int .i64) (.int .i64)))) v1) :: vc (iL v2) :: vc (iL v3) :: nn 16 ([])))
noncomputable def xs2h.q5 := fun v0 v1 v2 v3 => loopAtL E (callT E tab) 36 Try.f36 1 [.r, .r, .r, .l, .r, .b] (xs2h.s5 v0 v1 v2 v3)
noncomputable def xs2h.l5 := fun v0 v1 v2 v3 => tOf xs2h.mk (xs2h.q5 v0 v1 v2 v3)
noncomputable def xs2h.t {γ : Type} (ret : (Zc × Bool) → Option γ) (lp5 : Zc → Zc → Int → Int → Option γ) (v0 : Zc) : Option γ :=
 (xs1j (v0)).bind fun (r0 : Bool) =>
 bif !r0 then
  ret ([], Bool.false)
 else
  lp5 ([]) (v0) ((↑v0.length : Int)) ((0 : Int))
noncomputable def xs2h.t5 {γ : Type} (ret : (Zc × Bool) → Option γ) (lp5 : Zc → Zc → Int → Int → Option γ) (v0 : Zc) (v1 : Zc) (v2 : Int) (v3 : Int) : Option γ :=
 bif decide (v3 < v2) then
  bif decide ((0 : Int) ≤ v3) then
   bif decide (v3.toNat < v1.length) then
    (xs21 ((v1.getD v3.toNat ([], (0 : Int), (0 : Int))).fst)).bind fun (r1 : (List Int)) =>
    bif decide   (v0.length +       [(r1, (v1.getD v3.toNat ([], (0 : Int), (0 : Int))).snd.fst,             (v1.getD v3.toNat ([], (0 : Int), (0 : Int))).snd.snd)].length ≤     (4294967296 : Nat)) then
     lp5 (v0 ++   [(r1, (v1.getD v3.toNat ([], (0 : Int), (0 : Int))).snd.fst, (v1.getD v3.toNat ([], (0 : Int), (0 : Int))).snd.snd)]) (v1) (v2) (IntKind.i64.wrap (v3 + (1 : Int)))
    else
     none
   else
    none
  else
   none
 else
  ret (v0, Bool.true)
theorem xs2h.k (v0) : topL E (callT E tab) 36 Try.f36 (xs2h.c v0) = xs2h.t (fun b => some (xs2h.mk b)) xs2h.q5 v0 := by kernel_rfl
theorem xs2h.k5 (v0 v1 v2 v3) : roundL E (callT E tab) 36 Try.f36 1 [.r, .r, .r, .l, .r, .b] (xs2h.s5 v0 v1 v2 v3) = xs2h.t5 (fun b => some (xs2h.mk b)) xs2h.q5 v0 v1 v2 v3 := by kernel_rfl
theorem xs2h.eq (v0) {b} (h : xs2h.t some xs2h.l5 v0 = some b) : xs2h v0 = some b := tOf_intro xs2h.un (fun _ => by kernel_rfl) (vlim_fn (callT_le E tab) rfl rfl rfl ((xs2h.k v0).trans ((by unfold xs2h.t; repeat' first | exact Sub.ret | exact Sub.none | exact Sub.loop | apply Sub.cond | (apply Sub.bind; intro _) : Sub xs2h.mk _ _) b h)))
theorem xs2h.eq5 (v0 v1 v2 v3) {b} (h : xs2h.t5 some xs2h.l5 v0 v1 v2 v3 = some b) : xs2h.l5 v0 v1 v2 v3 = some b := tOf_intro xs2h.un (fun _ => by kernel_rfl) (loopAtL_step ((xs2h.k5 v0 v1 v2 v3).trans ((by unfold xs2h.t5; repeat' first | exact Sub.ret | exact Sub.none | exact Sub.loop | apply Sub.cond | (apply Sub.bind; intro _) : Sub xs2h.mk _ _) b h)))
def xs1j.s2 (v0 : Zc) (v1 : Zc) (v2 : Int) (v3 : Int) : List Cell := vc (.d .fro (.sl (.pair (.sl (.int .i64)) (.pair (.int .i64) (.int .i64)))) v0) :: nn 4 (vc (.d .fro (.sl (.pair (.sl (.int .i64)) (.pair (.int .i64) (.int .i64)))) v1) :: vc (iL v2) :: vc (iL v3) :: nn 63 ([]))
noncomputable def xs1j.q2 := fun v0 v1 v2 v3 => loopAtL E (callT E tab) 34 Try.f34 1 [.r, .l, .r, .b] (xs1j.s2 v0 v1 v2 v3)
noncomputable def xs1j.l2 := fun v0 v1 v2 v3 => tOf xs1j.mk (xs1j.q2 v0 v1 v2 v3)
noncomputable def xs1j.t {γ : Type} (ret : (Bool) → Option γ) (lp2 : Zc → Zc → Int → Int → Option γ) (v0 : Zc) : Option γ :=
 lp2 (v0) (v0) ((↑v0.length : Int)) ((0 : Int))
noncomputable def xs1j.t2 {γ : Type} (ret : (Bool) → Option γ) (lp2 : Zc → Zc → Int → Int → Option γ) (v0 : Zc) (v1 : Zc) (v2 : Int) (v3 : Int) : Option γ :=
 bif decide (v3 < v2) then
  bif decide ((0 : Int) ≤ v3) then
   bif decide (v3.toNat < v1.length) then
    (xs2a ((v1.getD v3.toNat ([], (0 : Int), (0 : Int))).fst)).bind fun (r0 : Bool) =>
    bif !r0 then
     ret (Bool.false)
    else
     bif decide (Int.toNat (0 : Int) < v0.length) then
      bif (↑(v1.getD v3.toNat ([], (0 : Int), (0 : Int))).fst.length : Int) !=   (↑(v0.getD (Int.toNat (0 : Int)) ([], (0 : Int), (0 : Int))).fst.length : Int) then
       ret (Bool.false)
      else
       (xs2l ((v1.getD v3.toNat ([], (0 : Int), (0 : Int))).snd.fst)).bind fun (r1 : Bool) =>
       bif !r1 then
        ret (Bool.false)
       else
        (xs2l ((v1.getD v3.toNat ([], (0 : Int), (0 : Int))).snd.snd)).bind fun (r2 : Bool) =>
        bif !r2 then
         ret (Bool.false)
        else
         bif (v1.getD v3.toNat ([], (0 : Int), (0 : Int))).snd.fst == (0 : Int) then
          bif (v1.getD v3.toNat ([], (0 : Int), (0 : Int))).snd.snd == (0 : Int) then
           ret (Bool.false)
          else
           bif decide (v3 > (0 : Int)) then
            bif decide ((0 : Int) ≤ IntKind.i64.wrap (v3 - (1 : Int))) then
             bif decide ((IntKind.i64.wrap (v3 - (1 : Int))).toNat < v0.length) then
              (xs1t ((v0.getD (IntKind.i64.wrap (v3 - (1 : Int))).toNat ([], (0 : Int), (0 : Int))).fst) ((v1.getD v3.toNat ([], (0 : Int), (0 : Int))).fst)).bind fun (r3 : Int) =>
              bif decide (r3 ≥ (0 : Int)) then
               ret (Bool.false)
              else
               lp2 (v0) (v1) (v2) (IntKind.i64.wrap (v3 + (1 : Int)))
             else
              none
            else
             none
           else
            lp2 (v0) (v1) (v2) (IntKind.i64.wrap (v3 + (1 : Int)))
         else
          bif decide (v3 > (0 : Int)) then
           bif decide ((0 : Int) ≤ IntKind.i64.wrap (v3 - (1 : Int))) then
            bif decide ((IntKind.i64.wrap (v3 - (1 : Int))).toNat < v0.length) then
             (xs1t ((v0.getD (IntKind.i64.wrap (v3 - (1 : Int))).toNat ([], (0 : Int), (0 : Int))).fst) ((v1.getD v3.toNat ([], (0 : Int), (0 : Int))).fst)).bind fun (r4 : Int) =>
             bif decide (r4 ≥ (0 : Int)) then
              ret (Bool.false)
             else
              lp2 (v0) (v1) (v2) (IntKind.i64.wrap (v3 + (1 : Int)))
            else
             none
           else
            none
          else
           lp2 (v0) (v1) (v2) (IntKind.i64.wrap (v3 + (1 : Int)))
     else
      none
   else
    none
  else
   none
 else
  ret (decide ((↑v0.length : Int) ≤ (60 : Int)))
theorem xs1j.k (v0) : topL E (callT E tab) 34 Try.f34 (xs1j.c v0) = xs1j.t (fun b => some (xs1j.mk b)) xs1j.q2 v0 := by kernel_rfl
theorem xs1j.k2 (v0 v1 v2 v3) : roundL E (callT E tab) 34 Try.f34 1 [.r, .l, .r, .b] (xs1j.s2 v0 v1 v2 v3) = xs1j.t2 (fun b => some (xs1j.mk b)) xs1j.q2 v0 v1 v2 v3 := by kernel_rfl
theorem xs1j.eq (v0) {b} (h : xs1j.t some xs1j.l2 v0 = some b) : xs1j v0 = some b := tOf_intro xs1j.un (fun _ => by kernel_rfl) (vlim_fn (callT_le E tab) rfl rfl rfl ((xs1j.k v0).trans ((by unfold xs1j.t; repeat' first | exact Sub.ret | exact Sub.none | exact Sub.loop | apply Sub.cond | (apply Sub.bind; intro _) : Sub xs1j.mk _ _) b h)))
theorem xs1j.eq2 (v0 v1 v2 v3) {b} (h : xs1j.t2 some xs1j.l2 v0 v1 v2 v3 = some b) : xs1j.l2 v0 v1 v2 v3 = some b := tOf_intro xs1j.un (fun _ => by kernel_rfl) (loopAtL_step ((xs1j.k2 v0 v1 v2 v3).trans ((by unfold xs1j.t2; repeat' first | exact Sub.ret | exact Sub.none | exact Sub.loop | apply Sub.cond | (apply Sub.bind; intro _) : Sub xs1j.mk _ _) b h)))
noncomputable def xs2l.t {γ : Type} (ret : (Bool) → Option γ) (v0 : Int) : Option γ :=
 (xs2n (v0) ((-100000000000000 : Int)) ((100000000000000 : Int))).bind fun (r0 : Bool) =>
 ret (r0)
theorem xs2l.k (v0) : topL E (callT E tab) 68 Try.f68 (xs2l.c v0) = xs2l.t (fun b => some (xs2l.mk b)) v0 := by kernel_rfl
theorem xs2l.eq (v0) {b} (h : xs2l.t some v0 = some b) : xs2l v0 = some b := tOf_intro xs2l.un (fun _ => by kernel_rfl) (vlim_fn (callT_le E tab) rfl rfl rfl ((xs2l.k v0).trans ((by unfold xs2l.t; repeat' first | exact Sub.ret | exact Sub.none | exact Sub.loop | apply Sub.cond | (apply Sub.bind; intro _) : Sub xs2l.mk _ _) b h)))
def xs19.s1002 (v0 : List Int) (v1 : Int) (v2 : Int) (v3 : Int) (v4 : List Int) : List Cell := ⟨(.box false), [.d .fro (.sl (.int .u8)) v0, iL v1, .d .fro (.int .u64) v2], true, false, false, 0, 0⟩ :: vc (iL v3) :: nn 2 (⟨(.box false), [.nil (.int .i64)], false, false, false, 0, 0⟩ :: ⟨(.box false), [.d .deep (.sl (.int .i64)) v4], false, false, false, 0, 0⟩ :: nn 13 ([]))
noncomputable def xs19.q1002 := fun v0 v1 v2 v3 v4 => loopAtL E (callT E tab) 96 Try.f96 2 [.r, .r, .l, .b] (xs19.s1002 v0 v1 v2 v3 v4)
noncomputable def xs19.l1002 := fun v0 v1 v2 v3 v4 => tOf xs19.mk (xs19.q1002 v0 v1 v2 v3 v4)
def xs19.s2 (v0 : List Int) (v1 : Int) (v2 : Int) (v3 : Int) : List Cell := ⟨(.box false), [.d .fro (.sl (.int .u8)) v0, iL v1, .d .fro (.int .u64) v2], true, false, false, 0, 0⟩ :: vc (iL v3) :: nn 2 (⟨(.box false), [.nil (.int .i64)], false, false, false, 0, 0⟩ :: ⟨(.box false), [.nil (.int .i64)], false, false, false, 0, 0⟩ :: nn 13 ([]))
noncomputable def xs19.q2 := fun v0 v1 v2 v3 => loopAtL E (callT E tab) 96 Try.f96 2 [.r, .r, .l, .b] (xs19.s2 v0 v1 v2 v3)
noncomputable def xs19.l2 := fun v0 v1 v2 v3 => tOf xs19.mk (xs19.q2 v0 v1 v2 v3)
noncomputable def xs19.t {γ : Type} (ret : (((List Int) × (List Int) × Int × Int) ⊕ ((List Int) × Int × Int)) → Option γ) (lp1002 : (List Int) → Int → Int → Int → (List Int) → Option γ) (lp2 : (List Int) → Int → Int → Int → Option γ) (v0 : List Int) (v1 : Int) (v2 : Int) (v3 : Int) : Option γ :=
 lp2 (v0) (v1) (v2) (v3)
noncomputable def xs19.t1002 {γ : Type} (ret : (((List Int) × (List Int) × Int × Int) ⊕ ((List Int) × Int × Int)) → Option γ) (lp1002 : (List Int) → Int → Int → Int → (List Int) → Option γ) (lp2 : (List Int) → Int → Int → Int → Option γ) (v0 : List Int) (v1 : Int) (v2 : Int) (v3 : Int) (v4 : List Int) : Option γ :=
 bif decide (v3 > (0 : Int)) then
  (xs12 (v0) (v1) (v2)).bind fun (r1 : Int × (List Int) × Int × Int) =>
  bif decide (v4.length + [r1.fst].length ≤ (4294967296 : Nat)) then
   lp1002 (r1.snd.fst) (r1.snd.snd.fst) (r1.snd.snd.snd) (IntKind.i64.wrap (v3 - (1 : Int))) (v4 ++ [r1.fst])
  else
   none
 else
  ret (.inl (v4, v0, v1, v2))
noncomputable def xs19.t2 {γ : Type} (ret : (((List Int) × (List Int) × Int × Int) ⊕ ((List Int) × Int × Int)) → Option γ) (lp1002 : (List Int) → Int → Int → Int → (List Int) → Option γ) (lp2 : (List Int) → Int → Int → Int → Option γ) (v0 : List Int) (v1 : Int) (v2 : Int) (v3 : Int) : Option γ :=
 bif decide (v3 > (0 : Int)) then
  (xs12 (v0) (v1) (v2)).bind fun (r0 : Int × (List Int) × Int × Int) =>
  lp1002 (r0.snd.fst) (r0.snd.snd.fst) (r0.snd.snd.snd) (IntKind.i64.wrap (v3 - (1 : Int))) ([r0.fst])
 else
  ret (.inr (v0, v1, v2))
theorem xs19.k (v0 v1 v2 v3) : topL E (callT E tab) 96 Try.f96 (xs19.c v0 v1 v2 v3) = xs19.t (fun b => some (xs19.mk b)) xs19.q1002 xs19.q2 v0 v1 v2 v3 := by kernel_rfl
theorem xs19.k1002 (v0 v1 v2 v3 v4) : roundL E (callT E tab) 96 Try.f96 2 [.r, .r, .l, .b] (xs19.s1002 v0 v1 v2 v3 v4) = xs19.t1002 (fun b => some (xs19.mk b)) xs19.q1002 xs19.q2 v0 v1 v2 v3 v4 := by kernel_rfl
theorem xs19.k2 (v0 v1 v2 v3) : roundL E (callT E tab) 96 Try.f96 2 [.r, .r, .l, .b] (xs19.s2 v0 v1 v2 v3) = xs19.t2 (fun b => some (xs19.mk b)) xs19.q1002 xs19.q2 v0 v1 v2 v3 := by kernel_rfl
theorem xs19.eq (v0 v1 v2 v3) {b} (h : xs19.t some xs19.l1002 xs19.l2 v0 v1 v2 v3 = some b) : xs19 v0 v1 v2 v3 = some b := tOf_intro xs19.un (fun b => by cases b <;> kernel_rfl) (vlim_fn (callT_le E tab) rfl rfl rfl ((xs19.k v0 v1 v2 v3).trans ((by unfold xs19.t; repeat' first | exact Sub.ret | exact Sub.none | exact Sub.loop | apply Sub.cond | (apply Sub.bind; intro _) : Sub xs19.mk _ _) b h)))
theorem xs19.eq1002 (v0 v1 v2 v3 v4) {b} (h : xs19.t1002 some xs19.l1002 xs19.l2 v0 v1 v2 v3 v4 = some b) : xs19.l1002 v0 v1 v2 v3 v4 = some b := tOf_intro xs19.un (fun b => by cases b <;> kernel_rfl) (loopAtL_step ((xs19.k1002 v0 v1 v2 v3 v4).trans ((by unfold xs19.t1002; repeat' first | exact Sub.ret | exact Sub.none | exact Sub.loop | apply Sub.cond | (apply Sub.bind; intro _) : Sub xs19.mk _ _) b h)))
theorem xs19.eq2 (v0 v1 v2 v3) {b} (h : xs19.t2 some xs19.l1002 xs19.l2 v0 v1 v2 v3 = some b) : xs19.l2 v0 v1 v2 v3 = some b := tOf_intro xs19.un (fun b => by cases b <;> kernel_rfl) (loopAtL_step ((xs19.k2 v0 v1 v2 v3).trans ((by unfold xs19.t2; repeat' first | exact Sub.ret | exact Sub.none | exact Sub.loop | apply Sub.cond | (apply Sub.bind; intro _) : Sub xs19.mk _ _) b h)))
noncomputable def xs12.t {γ : Type} (ret : (Int × (List Int) × Int × Int) → Option γ) (v0 : List Int) (v1 : Int) (v2 : Int) : Option γ :=
 (xs18 (v0) (v1) (v2) ((30 : Int))).bind fun (r0 : Bool × (List Int) × Int × Int) =>
 bif r0.fst then
  (xs0z (r0.snd.fst) (r0.snd.snd.fst) (r0.snd.snd.snd) ([(-100000 : Int), (100000 : Int), (-1 : Int), (-100001 : Int), (100001 : Int)])).bind fun (r1 : Int × (List Int) × Int × Int) =>
  ret (r1.fst, r1.snd.fst, r1.snd.snd.fst, r1.snd.snd.snd)
 else
  (xs14 (r0.snd.fst) (r0.snd.snd.fst) (r0.snd.snd.snd) ((4 : Int))).bind fun (r2 : Int × (List Int) × Int × Int) =>
  ret (r2.fst, r2.snd.fst, r2.snd.snd.fst, r2.snd.snd.snd)
theorem xs12.k (v0 v1 v2) : topL E (callT E tab) 113 Try.f113 (xs12.c v0 v1 v2) = xs12.t (fun b => some (xs12.mk b)) v0 v1 v2 := by kernel_rfl
theorem xs12.eq (v0 v1 v2) {b} (h : xs12.t some v0 v1 v2 = some b) : xs12 v0 v1 v2 = some b := tOf_intro xs12.un (fun _ => by kernel_rfl) (vlim_fn (callT_le E tab) rfl rfl rfl ((xs12.k v0 v1 v2).trans ((by unfold xs12.t; repeat' first | exact Sub.ret | exact Sub.none | exact Sub.loop | apply Sub.cond | (apply Sub.bind; intro _) : Sub xs12.mk _ _) b h)))
def xs0u.s3 (v0 : List Int) (v1 : Int) (v2 : Int) (v3 : Int) (v4 : List Int) (v5 : Int) : List Cell := ⟨(.box false), [.d .fro (.sl (.int .u8)) v0, iL v1, .d .fro (.int .u64) v2], true, false, false, 0, 0⟩ :: vc (iL v3) :: nn 3 (vc (.d .deep (.sl (.int .i64)) v4) :: vc (iL v5) :: nn 23 ([]))
noncomputable def xs0u.q3 := fun v0 v1 v2 v3 v4 v5 => loopAtL E (callT E tab) 58 Try.f58 2 [.r, .r, .l, .r, .b] (xs0u.s3 v0 v1 v2 v3 v4 v5)
noncomputable def xs0u.l3 := fun v0 v1 v2 v3 v4 v5 => tOf xs0u.mk (xs0u.q3 v0 v1 v2 v3 v4 v5)
noncomputable def xs0u.t {γ : Type} (ret : ((List Int) × (List Int) × Int × Int) → Option γ) (lp3 : (List Int) → Int → Int → Int → (List Int) → Int → Option γ) (v0 : List Int) (v1 : Int) (v2 : Int) (v3 : Int) : Option γ :=
 (xs14 (v0) (v1) (v2) ((4 : Int))).bind fun (r0 : Int × (List Int) × Int × Int) =>
 lp3 (r0.snd.fst) (r0.snd.snd.fst) (r0.snd.snd.snd) (v3) ([]) (r0.fst)
noncomputable def xs0u.t3 {γ : Type} (ret : ((List Int) × (List Int) × Int × Int) → Option γ) (lp3 : (List Int) → Int → Int → Int → (List Int) → Int → Option γ) (v0 : List Int) (v1 : Int) (v2 : Int) (v3 : Int) (v4 : List Int) (v5 : Int) : Option γ :=
 bif decide (v5 > (0 : Int)) then
  bif decide (v3 > (0 : Int)) then
   (xs14 (v0) (v1) (v2) (v3)).bind fun (r1 : Int × (List Int) × Int × Int) =>
   bif decide (v4.length + [r1.fst].length ≤ (4294967296 : Nat)) then
    lp3 (r1.snd.fst) (r1.snd.snd.fst) (r1.snd.snd.snd) (v3) (v4 ++ [r1.fst]) (IntKind.i64.wrap (v5 - (1 : Int)))
   else
    none
  else
   (xs18 (v0) (v1) (v2) ((30 : Int))).bind fun (r2 : Bool × (List Int) × Int × Int) =>
   bif r2.fst then
    bif decide (v4.length + [v3].length ≤ (4294967296 : Nat)) then
     ret (v4 ++ [v3], r2.snd.fst, r2.snd.snd.fst, r2.snd.snd.snd)
    else
     none
   else
    ret (v4, r2.snd.fst, r2.snd.snd.fst, r2.snd.snd.snd)
 else
  (xs18 (v0) (v1) (v2) ((30 : Int))).bind fun (r3 : Bool × (List Int) × Int × Int) =>
  bif r3.fst then
   bif decide (v4.length + [v3].length ≤ (4294967296 : Nat)) then
    ret (v4 ++ [v3], r3.snd.fst, r3.snd.snd.fst, r3.snd.snd.snd)
   else
    none
  else
   ret (v4, r3.snd.fst, r3.snd.snd.fst, r3.snd.snd.snd)
theorem xs0u.k (v0 v1 v2 v3) : topL E (callT E tab) 58 Try.f58 (xs0u.c v0 v1 v2 v3) = xs0u.t (fun b => some (xs0u.mk b)) xs0u.q3 v0 v1 v2 v3 := by kernel_rfl
theorem xs0u.k3 (v0 v1 v2 v3 v4 v5) : roundL E (callT E tab) 58 Try.f58 2 [.r, .r, .l, .r, .b] (xs0u.s3 v0 v1 v2 v3 v4 v5) = xs0u.t3 (fun b => some (xs0u.mk b)) xs0u.q3 v0 v1 v2 v3 v4 v5 := by kernel_rfl
theorem xs0u.eq (v0 v1 v2 v3) {b} (h : xs0u.t some xs0u.l3 v0 v1 v2 v3 = some b) : xs0u v0 v1 v2 v3 = some b := tOf_intro xs0u.un (fun _ => by kernel_rfl) (vlim_fn (callT_le E tab) rfl rfl rfl ((xs0u.k v0 v1 v2 v3).trans ((by unfold xs0u.t; repeat' first | exact Sub.ret | exact Sub.none | exact Sub.loop | apply Sub.cond | (apply Sub.bind; intro _) : Sub xs0u.mk _ _) b h)))
theorem xs0u.eq3 (v0 v1 v2 v3 v4 v5) {b} (h : xs0u.t3 some xs0u.l3 v0 v1 v2 v3 v4 v5 = some b) : xs0u.l3 v0 v1 v2 v3 v4 v5 = some b := tOf_intro xs0u.un (fun _ => by kernel_rfl) (loopAtL_step ((xs0u.k3 v0 v1 v2 v3 v4 v5).trans ((by unfold xs0u.t3; repeat' first | exact Sub.ret | exact Sub.none | exact Sub.loop | apply Sub.cond | (apply Sub.bind; intro _) : Sub xs0u.mk _ _) b h)))
def xi2b.s8 (v0 : List Int) (v1 : Zc) (v2 : Zc) (v3 : Int) (v4 : Int) : List Cell := nn 1 (vc (.d .fro (.sl (.int .i64)) v0) :: nn 5 (vc (.d .deep (.sl (.pair (.sl (.int .i64)) (.pair (.int .i64) (.int .i64)))) v1) :: nn 23 (vc (.d .fro (.sl (.pair (.sl (.int .i64)) (.pair (.int .i64) (.int .i64)))) v2) :: vc (iL v3) :: vc (iL v4) :: nn 21 ([]))))
noncomputable def xi2b.q8 := fun v0 v1 v2 v3 v4 => loopAtL E (callT E tab) 16 Try.f16 2 [.r, .r, .r, .r, .r, .l, .r, .b] (xi2b.s8 v0 v1 v2 v3 v4)
noncomputable def xi2b.l8 := fun v0 v1 v2 v3 v4 => tOf xi2b.mk (xi2b.q8 v0 v1 v2 v3 v4)
noncomputable def xi2b.t {γ : Type} (ret : (Zc × Bool) → Option γ) (lp8 : (List Int) → Zc → Zc → Int → Int → Option γ) (v0 : Zc) (v1 : List Int) : Option γ :=
 (xi1q (v0)).bind fun (r0 : Int) =>
 (xi1f (v1) (r0)).bind fun (r1 : Bool) =>
 bif (↑v0.length : Int) == (0 : Int) then
  bif decide ((↑v1.length : Int) ≤ (6 : Int)) then
   (xi0o (v1)).bind fun (r2 : Bool) =>
   (xi1d (v0)).bind fun (r3 : Bool) =>
   bif !r3 then
    ret ([], Bool.false)
   else
    bif !r2 then
     ret ([], Bool.false)
    else
     lp8 (v1) ([]) (v0) ((↑v0.length : Int)) ((0 : Int))
  else
   (xi1d (v0)).bind fun (r6 : Bool) =>
   bif !r6 then
    ret ([], Bool.false)
   else
    ret ([], Bool.false)
 else
  (xi1d (v0)).bind fun (r7 : Bool) =>
  bif !r7 then
   ret ([], Bool.false)
  else
   bif !r1 then
    ret ([], Bool.false)
   else
    lp8 (v1) ([]) (v0) ((↑v0.length : Int)) ((0 : Int))
noncomputable def xi2b.t8 {γ : Type} (ret : (Zc × Bool) → Option γ) (lp8 : (List Int) → Zc → Zc → Int → Int → Option γ) (v0 : List Int) (v1 : Zc) (v2 : Zc) (v3 : Int) (v4 : Int) : Option γ :=
 bif decide (v4 < v3) then
  bif decide ((0 : Int) ≤ v4) then
   bif decide (v4.toNat < v2.length) then
    (xi1e ((v2.getD v4.toNat ([], (0 : Int), (0 : Int))).fst) (v0)).bind fun (r4 : (List Int)) =>
    bif decide   (v1.length +       [(r4, (v2.getD v4.toNat ([], (0 : Int), (0 : Int))).snd.fst,             (v2.getD v4.toNat ([], (0 : Int), (0 : Int))).snd.snd)].length ≤     (4294967296 : Nat)) then
     lp8 (v0) (v1 ++   [(r4, (v2.getD v4.toNat ([], (0 : Int), (0 : Int))).snd.fst, (v2.getD v4.toNat ([], (0 : Int), (0 : Int))).snd.snd)]) (v2) (v3) (IntKind.i64.wrap (v4 + (1 : Int)))
    else
     none
   else
    none
  else
   none
 else
  (xi26 ([v1])).bind fun (r5 : Zc × Bool) =>
  ret (r5.fst, r5.snd)
theorem xi2b.k (v0 v1) : topL E (callT E tab) 16 Try.f16 (xi2b.c v0 v1) = xi2b.t (fun b => some (xi2b.mk b)) xi2b.q8 v0 v1 := by kernel_rfl
theorem xi2b.k8 (v0 v1 v2 v3 v4) : roundL E (callT E tab) 16 Try.f16 2 [.r, .r, .r, .r, .r, .l, .r, .b] (xi2b.s8 v0 v1 v2 v3 v4) = xi2b.t8 (fun b => some (xi2b.mk b)) xi2b.q8 v0 v1 v2 v3 v4 := by kernel_rfl
theorem xi2b.eq (v0 v1) {b} (h : xi2b.t some xi2b.l8 v0 v1 = some b) : xi2b v0 v1 = some b := tOf_intro xi2b.un (fun _ => by kernel_rfl) (vlim_fn (callT_le E tab) rfl rfl rfl ((xi2b.k v0 v1).trans ((by unfold xi2b.t; repeat' first | exact Sub.ret | exact Sub.none | exact Sub.loop | apply Sub.cond | (apply Sub.bind; intro _) : Sub xi2b.mk _ _) b h)))
theorem xi2b.eq8 (v0 v1 v2 v3 v4) {b} (h : xi2b.t8 some xi2b.l8 v0 v1 v2 v3 v4 = some b) : xi2b.l8 v0 v1 v2 v3 v4 = some b := tOf_intro xi2b.un (fun _ => by kernel_rfl) (loopAtL_step ((xi2b.k8 v0 v1 v2 v3 v4).trans ((by unfold xi2b.t8; repeat' first | exact Sub.ret | exact Sub.none | exact Sub.loop | apply Sub.cond | (apply Sub.bind; intro _) : Sub xi2b.mk _ _) b h)))
noncomputable def xi1q.t {γ : Type} (ret : (Int) → Option γ) (v0 : Zc) : Option γ :=
 bif (↑v0.length : Int) == (0 : Int) then
  ret ((0 : Int))
 else
  bif decide (Int.toNat (0 : Int) < v0.length) then
   ret ((↑(v0.getD (Int.toNat (0 : Int)) ([], (0 : Int), (0 : Int))).fst.length : Int))
  else
   none
theorem xi1q.k (v0) : topL E (callT E tab) 39 Try.f39 (xi1q.c v0) = xi1q.t (fun b => some (xi1q.mk b)) v0 := by kernel_rfl
theorem xi1q.eq (v0) {b} (h : xi1q.t some v0 = some b) : xi1q v0 = some b := tOf_intro xi1q.un (fun _ => by kernel_rfl) (vlim_fn (callT_le E tab) rfl rfl rfl ((xi1q.k v0).trans ((by unfold xi1q.t; repeat' first | exact Sub.ret | exact Sub.none | exact Sub.loop | apply Sub.cond | (apply Sub.bind; intro _) : Sub xi1q.mk _ _) b h)))
noncomputable def xi1f.t {γ : Type} (ret : (Bool) → Option γ) (v0 : List Int) (v1 : Int) : Option γ :=
 bif decide ((↑v0.length : Int) ≤ (6 : Int)) then
  (xi0l (v0) (v1)).bind fun (r0 : Bool) =>
  ret (r0)
 else
  ret (Bool.false)
theorem xi1f.k (v0 v1) : topL E (callT E tab) 44 Try.f44 (xi1f.c v0 v1) = xi1f.t (fun b => some (xi1f.mk b)) v0 v1 := by kernel_rfl
theorem xi1f.eq (v0 v1) {b} (h : xi1f.t some v0 v1 = some b) : xi1f v0 v1 = some b := tOf_intro xi1f.un (fun _ => by kernel_rfl) (vlim_fn (callT_le E tab) rfl rfl rfl ((xi1f.k v0 v1).trans ((by unfold xi1f.t; repeat' first | exact Sub.ret | exact Sub.none | exact Sub.loop | apply Sub.cond | (apply Sub.bind; intro _) : Sub xi1f.mk _ _) b h)))
noncomputable def xi0l.t {γ : Type} (ret : (Bool) → Option γ) (v0 : List Int) (v1 : Int) : Option γ :=
 (xs02 (v0) (v1)).bind fun (r0 : Bool) =>
 ret (!r0)
theorem xi0l.k (v0 v1) : topL E (callT E tab) 45 Try.f45 (xi0l.c v0 v1) = xi0l.t (fun b => some (xi0l.mk b)) v0 v1 := by kernel_rfl
theorem xi0l.eq (v0 v1) {b} (h : xi0l.t some v0 v1 = some b) : xi0l v0 v1 = some b := tOf_intro xi0l.un (fun _ => by kernel_rfl) (vlim_fn (callT_le E tab) rfl rfl rfl ((xi0l.k v0 v1).trans ((by unfold xi0l.t; repeat' first | exact Sub.ret | exact Sub.none | exact Sub.loop | apply Sub.cond | (apply Sub.bind; intro _) : Sub xi0l.mk _ _) b h)))
noncomputable def xs02.t {γ : Type} (ret : (Bool) → Option γ) (v0 : List Int) (v1 : Int) : Option γ :=
 (xs04 (v0) (v1)).bind fun (r0 : Int) =>
 ret (decide (r0 ≥ (0 : Int)))
theorem xs02.k (v0 v1) : topL E (callT E tab) 83 Try.f83 (xs02.c v0 v1) = xs02.t (fun b => some (xs02.mk b)) v0 v1 := by kernel_rfl
theorem xs02.eq (v0 v1) {b} (h : xs02.t some v0 v1 = some b) : xs02 v0 v1 = some b := tOf_intro xs02.un (fun _ => by kernel_rfl) (vlim_fn (callT_le E tab) rfl rfl rfl ((xs02.k v0 v1).trans ((by unfold xs02.t; repeat' first | exact Sub.ret | exact Sub.none | exact Sub.loop | apply Sub.cond | (apply Sub.bind; intro _) : Sub xs02.mk _ _) b h)))
def xs04.s2 (v0 : List Int) (v1 : Int) (v2 : Int) (v3 : Int) : List Cell := vc (.d .fro (.sl (.int .i64)) v0) :: vc (.fn 84 [.rp [.fn 81 [.rp [iL v1] 0]] 0]) :: nn 5 (vc (iL v2) :: vc (iL v3) :: nn 10 ([]))
noncomputable def xs04.q2 := fun v0 v1 v2 v3 => loopAtL E (callT E tab) 108 Try.f108 2 [.r, .l, .r, .b] (xs04.s2 v0 v1 v2 v3)
noncomputable def xs04.l2 := fun v0 v1 v2 v3 => tOf xs04.mk (xs04.q2 v0 v1 v2 v3)
noncomputable def xs04.t {γ : Type} (ret : (Int) → Option γ) (lp2 : (List Int) → Int → Int → Int → Option γ) (v0 : List Int) (v1 : Int) : Option γ :=
 lp2 (v0) (v1) ((↑v0.length : Int)) ((0 : Int))
noncomputable def xs04.t2 {γ : Type} (ret : (Int) → Option γ) (lp2 : (List Int) → Int → Int → Int → Option γ) (v0 : List Int) (v1 : Int) (v2 : Int) (v3 : Int) : Option γ :=
 bif decide (v3 < v2) then
  bif decide ((0 : Int) ≤ v3) then
   bif decide (v3.toNat < v0.length) then
    (xi0j (v0.getD v3.toNat (0 : Int)) (v1)).bind fun (r0 : Bool) =>
    bif r0 then
     ret (v3)
    else
     lp2 (v0) (v1) (v2) (IntKind.i64.wrap (v3 + (1 : Int)))
   else
    none
  else
   none
 else
  ret ((-1 : Int))
theorem xs04.k (v0 v1) : topL E (callT E tab) 108 Try.f108 (xs04.c v0 v1) = xs04.t (fun b => some (xs04.mk b)) xs04.q2 v0 v1 := by kernel_rfl
theorem xs04.k2 (v0 v1 v2 v3) : roundL E (callT E tab) 108 Try.f108 2 [.r, .l, .r, .b] (xs04.s2 v0 v1 v2 v3) = xs04.t2 (fun b => some (xs04.mk b)) xs04.q2 v0 v1 v2 v3 := by kernel_rfl
theorem xs04.eq (v0 v1) {b} (h : xs04.t some xs04.l2 v0 v1 = some b) : xs04 v0 v1 = some b := tOf_intro xs04.un (fun _ => by kernel_rfl) (vlim_fn (callT_le E tab) rfl rfl rfl ((xs04.k v0 v1).trans ((by unfold xs04.t; repeat' first | exact Sub.ret | exact Sub.none | exact Sub.loop | apply Sub.cond | (apply Sub.bind; intro _) : Sub xs04.mk _ _) b h)))
theorem xs04.eq2 (v0 v1 v2 v3) {b} (h : xs04.t2 some xs04.l2 v0 v1 v2 v3 = some b) : xs04.l2 v0 v1 v2 v3 = some b := tOf_intro xs04.un (fun _ => by kernel_rfl) (loopAtL_step ((xs04.k2 v0 v1 v2 v3).trans ((by unfold xs04.t2; repeat' first | exact Sub.ret | exact Sub.none | exact Sub.loop | apply Sub.cond | (apply Sub.bind; intro _) : Sub xs04.mk _ _) b h)))
noncomputable def xi0j.t {γ : Type} (ret : (Bool) → Option γ) (v0 : Int) (v1 : Int) : Option γ :=
 (xi1a (v0) (v1)).bind fun (r0 : Bool) =>
 ret (!r0)
theorem xi0j.k (v0 v1) : topL E (callT E tab) 84 Try.f84 (xi0j.c v0 v1) = xi0j.t (fun b => some (xi0j.mk b)) v0 v1 := by kernel_rfl
theorem xi0j.eq (v0 v1) {b} (h : xi0j.t some v0 v1 = some b) : xi0j v0 v1 = some b := tOf_intro xi0j.un (fun _ => by kernel_rfl) (vlim_fn (callT_le E tab) rfl rfl rfl ((xi0j.k v0 v1).trans ((by unfold xi0j.t; repeat' first | exact Sub.ret | exact Sub.none | exact Sub.loop | apply Sub.cond | (apply Sub.bind; intro _) : Sub xi0j.mk _ _) b h)))
noncomputable def xi1a.t {γ : Type} (ret : (Bool) → Option γ) (v0 : Int) (v1 : Int) : Option γ :=
 (xi27 (v0) (v1)).bind fun (r0 : Bool) =>
 ret (r0)
theorem xi1a.k (v0 v1) : topL E (callT E tab) 81 Try.f81 (xi1a.c v0 v1) = xi1a.t (fun b => some (xi1a.mk b)) v0 v1 := by kernel_rfl
theorem xi1a.eq (v0 v1) {b} (h : xi1a.t some v0 v1 = some b) : xi1a v0 v1 = some b := tOf_intro xi1a.un (fun _ => by kernel_rfl) (vlim_fn (callT_le E tab) rfl rfl rfl ((xi1a.k v0 v1).trans ((by unfold xi1a.t; repeat' first | exact Sub.ret | exact Sub.none | exact Sub.loop | apply Sub.cond | (apply Sub.bind; intro _) : Sub xi1a.mk _ _) b h)))
noncomputable def xi27.t {γ : Type} (ret : (Bool) → Option γ) (v0 : Int) (v1 : Int) : Option γ :=
 bif decide (v0 ≥ (0 : Int)) then
  ret (decide (v0 < v1))
 else
  ret (Bool.false)
theorem xi27.k (v0 v1) : topL E (callT E tab) 82 Try.f82 (xi27.c v0 v1) = xi27.t (fun b => some (xi27.mk b)) v0 v1 := by kernel_rfl
theorem xi27.eq (v0 v1) {b} (h : xi27.t some v0 v1 = some b) : xi27 v0 v1 = some b := tOf_intro xi27.un (fun _ => by kernel_rfl) (vlim_fn (callT_le E tab) rfl rfl rfl ((xi27.k v0 v1).trans ((by unfold xi27.t; repeat' first | exact Sub.ret | exact Sub.none | exact Sub.loop | apply Sub.cond | (apply Sub.bind; intro _) : Sub xi27.mk _ _) b h)))
end GoV

/- Equations of the program's functions (printed by wip/tools/emit.py). -/
namespace GoV
open Go Go.Proofs
set_option maxRecDepth 100000

noncomputable def xi0o.t {γ : Type} (ret : (Bool) → Option γ) (v0 : List Int) : Option γ :=
 (xs05 (v0)).bind fun (r0 : Bool) =>
 ret (!r0)
theorem xi0o.k (v0) : topL E (callT E tab) 45 Try.f45 (xi0o.c v0) = xi0o.t (fun b => some (xi0o.mk b)) v0 := by kernel_rfl
theorem xi0o.eq (v0) {b} (h : xi0o.t some v0 = some b) : xi0o v0 = some b := tOf_intro xi0o.un (fun _ => by kernel_rfl) (vlim_fn (callT_le E tab) rfl rfl rfl ((xi0o.k v0).trans ((by unfold xi0o.t; repeat' first | exact Sub.ret | exact Sub.none | exact Sub.loop | apply Sub.cond | (apply Sub.bind; intro _) : Sub xi0o.mk _ _) b h)))
noncomputable def xs05.t {γ : Type} (ret : (Bool) → Option γ) (v0 : List Int) : Option γ :=
 (xs09 (v0)).bind fun (r0 : Int) =>
 ret (decide (r0 ≥ (0 : Int)))
theorem xs05.k (v0) : topL E (callT E tab) 83 Try.f83 (xs05.c v0) = xs05.t (fun b => some (xs05.mk b)) v0 := by kernel_rfl
theorem xs05.eq (v0) {b} (h : xs05.t some v0 = some b) : xs05 v0 = some b := tOf_intro xs05.un (fun _ => by kernel_rfl) (vlim_fn (callT_le E tab) rfl rfl rfl ((xs05.k v0).trans ((by unfold xs05.t; repeat' first | exact Sub.ret | exact Sub.none | exact Sub.loop | apply Sub.cond | (apply Sub.bind; intro _) : Sub xs05.mk _ _) b h)))
def xs09.s2 (v0 : List Int) (v1 : Int) (v2 : Int) : List Cell := vc (.d .fro (.sl (.int .i64)) v0) :: vc (.fn 84 [.rp [.fn 46 []] 0]) :: nn 5 (vc (iL v1) :: vc (iL v2) :: nn 10 ([]))
noncomputable def xs09.q2 := fun v0 v1 v2 => loopAtL E (callT E tab) 108 Try.f108 2 [.r, .l, .r, .b] (xs09.s2 v0 v1 v2)
noncomputable def xs09.l2 := fun v0 v1 v2 => tOf xs09.mk (xs09.q2 v0 v1 v2)
noncomputable def xs09.t {γ : Type} (ret : (Int) → Option γ) (lp2 : (List Int) → Int → Int → Option γ) (v0 : List Int) : Option γ :=
 lp2 (v0) ((↑v0.length : Int)) ((0 : Int))
noncomputable def xs09.t2 {γ : Type} (ret : (Int) → Option γ) (lp2 : (List Int) → Int → Int → Option γ) (v0 : List Int) (v1 : Int) (v2 : Int) : Option γ :=
 bif decide (v2 < v1) then
  bif decide ((0 : Int) ≤ v2) then
   bif decide (v2.toNat < v0.length) then
    (xi0m (v0.getD v2.toNat (0 : Int))).bind fun (r0 : Bool) =>
    bif r0 then
     ret (v2)
    else
     lp2 (v0) (v1) (IntKind.i64.wrap (v2 + (1 : Int)))
   else
    none
  else
   none
 else
  ret ((-1 : Int))
theorem xs09.k (v0) : topL E (callT E tab) 108 Try.f108 (xs09.c v0) = xs09.t (fun b => some (xs09.mk b)) xs09.q2 v0 := by kernel_rfl
theorem xs09.k2 (v0 v1 v2) : roundL E (callT E tab) 108 Try.f108 2 [.r, .l, .r, .b] (xs09.s2 v0 v1 v2) = xs09.t2 (fun b => some (xs09.mk b)) xs09.q2 v0 v1 v2 := by kernel_rfl
theorem xs09.eq (v0) {b} (h : xs09.t some xs09.l2 v0 = some b) : xs09 v0 = some b := tOf_intro xs09.un (fun _ => by kernel_rfl) (vlim_fn (callT_le E tab) rfl rfl rfl ((xs09.k v0).trans ((by unfold xs09.t; repeat' first | exact Sub.ret | exact Sub.none | exact Sub.loop | apply Sub.cond | (apply Sub.bind; intro _) : Sub xs09.mk _ _) b h)))
theorem xs09.eq2 (v0 v1 v2) {b} (h : xs09.t2 some xs09.l2 v0 v1 v2 = some b) : xs09.l2 v0 v1 v2 = some b := tOf_intro xs09.un (fun _ => by kernel_rfl) (loopAtL_step ((xs09.k2 v0 v1 v2).trans ((by unfold xs09.t2; repeat' first | exact Sub.ret | exact Sub.none | exact Sub.loop | apply Sub.cond | (apply Sub.bind; intro _) : Sub xs09.mk _ _) b h)))
noncomputable def xi0m.t {γ : Type} (ret : (Bool) → Option γ) (v0 : Int) : Option γ :=
 (xi1v (v0)).bind fun (r0 : Bool) =>
 ret (!r0)
theorem xi0m.k (v0) : topL E (callT E tab) 84 Try.f84 (xi0m.c v0) = xi0m.t (fun b => some (xi0m.mk b)) v0 := by kernel_rfl
theorem xi0m.eq (v0) {b} (h : xi0m.t some v0 = some b) : xi0m v0 = some b := tOf_intro xi0m.un (fun _ => by kernel_rfl) (vlim_fn (callT_le E tab) rfl rfl rfl ((xi0m.k v0).trans ((by unfold xi0m.t; repeat' first | exact Sub.ret | exact Sub.none | exact Sub.loop | apply Sub.cond | (apply Sub.bind; intro _) : Sub xi0m.mk _ _) b h)))
noncomputable def xi1v.t {γ : Type} (ret : (Bool) → Option γ) (v0 : Int) : Option γ :=
 ret (decide (v0 ≥ (0 : Int)))
theorem xi1v.k (v0) : topL E (callT E tab) 46 Try.f46 (xi1v.c v0) = xi1v.t (fun b => some (xi1v.mk b)) v0 := by kernel_rfl
theorem xi1v.eq (v0) {b} (h : xi1v.t some v0 = some b) : xi1v v0 = some b := tOf_intro xi1v.un (fun _ => by kernel_rfl) (vlim_fn (callT_le E tab) rfl rfl rfl ((xi1v.k v0).trans ((by unfold xi1v.t; repeat' first | exact Sub.ret | exact Sub.none | exact Sub.loop | apply Sub.cond | (apply Sub.bind; intro _) : Sub xi1v.mk _ _) b h)))
def xi1d.s2 (v0 : Zc) (v1 : Zc) (v2 : Int) (v3 : Int) : List Cell := vc (.d .fro (.sl (.pair (.sl (.int .i64)) (.pair (.int .i64) (.int .i64)))) v0) :: nn 4 (vc (.d .fro (.sl (.pair (.sl (.int .i64)) (.pair (.int .i64) (.int .i64)))) v1) :: vc (iL v2) :: vc (iL v3) :: nn 52 ([]))
noncomputable def xi1d.q2 := fun v0 v1 v2 v3 => loopAtL E (callT E tab) 38 Try.f38 1 [.r, .l, .r, .b] (xi1d.s2 v0 v1 v2 v3)
noncomputable def xi1d.l2 := fun v0 v1 v2 v3 => tOf xi1d.mk (xi1d.q2 v0 v1 v2 v3)
noncomputable def xi1d.t {γ : Type} (ret : (Bool) → Option γ) (lp2 : Zc → Zc → Int → Int → Option γ) (v0 : Zc) : Option γ :=
 lp2 (v0) (v0) ((↑v0.length : Int)) ((0 : Int))
noncomputable def xi1d.t2 {γ : Type} (ret : (Bool) → Option γ) (lp2 : Zc → Zc → Int → Int → Option γ) (v0 : Zc) (v1 : Zc) (v2 : Int) (v3 : Int) : Option γ :=
 bif decide (v3 < v2) then
  bif decide ((0 : Int) ≤ v3) then
   bif decide (v3.toNat < v1.length) then
    (xi1q (v0)).bind fun (r0 : Int) =>
    (xi28 ((v1.getD v3.toNat ([], (0 : Int), (0 : Int))).fst) (r0)).bind fun (r1 : Bool) =>
    bif !r1 then
     ret (Bool.false)
    else
     (xi2i ((v1.getD v3.toNat ([], (0 : Int), (0 : Int))).snd.fst)).bind fun (r2 : Bool) =>
     bif !r2 then
      ret (Bool.false)
     else
      (xi2i ((v1.getD v3.toNat ([], (0 : Int), (0 : Int))).snd.snd)).bind fun (r3 : Bool) =>
      bif !r3 then
       ret (Bool.false)
      else
       bif (v1.getD v3.toNat ([], (0 : Int), (0 : Int))).snd.fst == (0 : Int) then
        bif (v1.getD v3.toNat ([], (0 : Int), (0 : Int))).snd.snd == (0 : Int) then
         ret (Bool.false)
        else
         bif decide (v3 > (0 : Int)) then
          bif decide ((0 : Int) ≤ IntKind.i64.wrap (v3 - (1 : Int))) then
           bif decide ((IntKind.i64.wrap (v3 - (1 : Int))).toNat < v0.length) then
            (xi1b ((v0.getD (IntKind.i64.wrap (v3 - (1 : Int))).toNat ([], (0 : Int), (0 : Int))).fst) ((v1.getD v3.toNat ([], (0 : Int), (0 : Int))).fst)).bind fun (r4 : Int) =>
            bif decide (r4 ≥ (0 : Int)) then
             ret (Bool.false)
            else
             lp2 (v0) (v1) (v2) (IntKind.i64.wrap (v3 + (1 : Int)))
           else
            none
          else
           none
         else
          lp2 (v0) (v1) (v2) (IntKind.i64.wrap (v3 + (1 : Int)))
       else
        bif decide (v3 > (0 : Int)) then
         bif decide ((0 : Int) ≤ IntKind.i64.wrap (v3 - (1 : Int))) then
          bif decide ((IntKind.i64.wrap (v3 - (1 : Int))).toNat < v0.length) then
           (xi1b ((v0.getD (IntKind.i64.wrap (v3 - (1 : Int))).toNat ([], (0 : Int), (0 : Int))).fst) ((v1.getD v3.toNat ([], (0 : Int), (0 : Int))).fst)).bind fun (r5 : Int) =>
           bif decide (r5 ≥ (0 : Int)) then
            ret (Bool.false)
           else
            lp2 (v0) (v1) (v2) (IntKind.i64.wrap (v3 + (1 : Int)))
          else
           none
         else
          none
        else
         lp2 (v0) (v1) (v2) (IntKind.i64.wrap (v3 + (1 : Int)))
   else
    none
  else
   none
 else
  ret (decide ((↑v0.length : Int) ≤ (60 : Int)))
theorem xi1d.k (v0) : topL E (callT E tab) 38 Try.f38 (xi1d.c v0) = xi1d.t (fun b => some (xi1d.mk b)) xi1d.q2 v0 := by kernel_rfl
theorem xi1d.k2 (v0 v1 v2 v3) : roundL E (callT E tab) 38 Try.f38 1 [.r, .l, .r, .b] (xi1d.s2 v0 v1 v2 v3) = xi1d.t2 (fun b => some (xi1d.mk b)) xi1d.q2 v0 v1 v2 v3 := by kernel_rfl
theorem xi1d.eq (v0) {b} (h : xi1d.t some xi1d.l2 v0 = some b) : xi1d v0 = some b := tOf_intro xi1d.un (fun _ => by kernel_rfl) (vlim_fn (callT_le E tab) rfl rfl rfl ((xi1d.k v0).trans ((by unfold xi1d.t; repeat' first | exact Sub.ret | exact Sub.none | exact Sub.loop | apply Sub.cond | (apply Sub.bind; intro _) : Sub xi1d.mk _ _) b h)))
theorem xi1d.eq2 (v0 v1 v2 v3) {b} (h : xi1d.t2 some xi1d.l2 v0 v1 v2 v3 = some b) : xi1d.l2 v0 v1 v2 v3 = some b := tOf_intro xi1d.un (fun _ => by kernel_rfl) (loopAtL_step ((xi1d.k2 v0 v1 v2 v3).trans ((by unfold xi1d.t2; repeat' first | exact Sub.ret | exact Sub.none | exact Sub.loop | apply Sub.cond | (apply Sub.bind; intro _) : Sub xi1d.mk _ _) b h)))
noncomputable def xi28.t {γ : Type} (ret : (Bool) → Option γ) (v0 : List Int) (v1 : Int) : Option γ :=
 (xi23 (v0)).bind fun (r0 : Bool) =>
 bif r0 then
  ret ((↑v0.length : Int) == v1)
 else
  ret (Bool.false)
theorem xi28.k (v0 v1) : topL E (callT E tab) 72 Try.f72 (xi28.c v0 v1) = xi28.t (fun b => some (xi28.mk b)) v0 v1 := by kernel_rfl
theorem xi28.eq (v0 v1) {b} (h : xi28.t some v0 v1 = some b) : xi28 v0 v1 = some b := tOf_intro xi28.un (fun _ => by kernel_rfl) (vlim_fn (callT_le E tab) rfl rfl rfl ((xi28.k v0 v1).trans ((by unfold xi28.t; repeat' first | exact Sub.ret | exact Sub.none | exact Sub.loop | apply Sub.cond | (apply Sub.bind; intro _) : Sub xi28.mk _ _) b h)))
noncomputable def xi23.t {γ : Type} (ret : (Bool) → Option γ) (v0 : List Int) : Option γ :=
 bif decide ((↑v0.length : Int) ≤ (6 : Int)) then
  (xi0p (v0)).bind fun (r0 : Bool) =>
  ret (r0)
 else
  ret (Bool.false)
theorem xi23.k (v0) : topL E (callT E tab) 102 Try.f102 (xi23.c v0) = xi23.t (fun b => some (xi23.mk b)) v0 := by kernel_rfl
theorem xi23.eq (v0) {b} (h : xi23.t some v0 = some b) : xi23 v0 = some b := tOf_intro xi23.un (fun _ => by kernel_rfl) (vlim_fn (callT_le E tab) rfl rfl rfl ((xi23.k v0).trans ((by unfold xi23.t; repeat' first | exact Sub.ret | exact Sub.none | exact Sub.loop | apply Sub.cond | (apply Sub.bind; intro _) : Sub xi23.mk _ _) b h)))
noncomputable def xi0p.t {γ : Type} (ret : (Bool) → Option γ) (v0 : List Int) : Option γ :=
 (xs07 (v0)).bind fun (r0 : Bool) =>
 ret (!r0)
theorem xi0p.k (v0) : topL E (callT E tab) 45 Try.f45 (xi0p.c v0) = xi0p.t (fun b => some (xi0p.mk b)) v0 := by kernel_rfl
theorem xi0p.eq (v0) {b} (h : xi0p.t some v0 = some b) : xi0p v0 = some b := tOf_intro xi0p.un (fun _ => by kernel_rfl) (vlim_fn (callT_le E tab) rfl rfl rfl ((xi0p.k v0).trans ((by unfold xi0p.t; repeat' first | exact Sub.ret | exact Sub.none | exact Sub.loop | apply Sub.cond | (apply Sub.bind; intro _) : Sub xi0p.mk _ _) b h)))
noncomputable def xs07.t {γ : Type} (ret : (Bool) → Option γ) (v0 : List Int) : Option γ :=
 (xs0a (v0)).bind fun (r0 : Int) =>
 ret (decide (r0 ≥ (0 : Int)))
theorem xs07.k (v0) : topL E (callT E tab) 83 Try.f83 (xs07.c v0) = xs07.t (fun b => some (xs07.mk b)) v0 := by kernel_rfl
theorem xs07.eq (v0) {b} (h : xs07.t some v0 = some b) : xs07 v0 = some b := tOf_intro xs07.un (fun _ => by kernel_rfl) (vlim_fn (callT_le E tab) rfl rfl rfl ((xs07.k v0).trans ((by unfold xs07.t; repeat' first | exact Sub.ret | exact Sub.none | exact Sub.loop | apply Sub.cond | (apply Sub.bind; intro _) : Sub xs07.mk _ _) b h)))
def xs0a.s2 (v0 : List Int) (v1 : Int) (v2 : Int) : List Cell := vc (.d .fro (.sl (.int .i64)) v0) :: vc (.fn 84 [.rp [.fn 62 []] 0]) :: nn 5 (vc (iL v1) :: vc (iL v2) :: nn 10 ([]))
noncomputable def xs0a.q2 := fun v0 v1 v2 => loopAtL E (callT E tab) 108 Try.f108 2 [.r, .l, .r, .b] (xs0a.s2 v0 v1 v2)
noncomputable def xs0a.l2 := fun v0 v1 v2 => tOf xs0a.mk (xs0a.q2 v0 v1 v2)
noncomputable def xs0a.t {γ : Type} (ret : (Int) → Option γ) (lp2 : (List Int) → Int → Int → Option γ) (v0 : List Int) : Option γ :=
 lp2 (v0) ((↑v0.length : Int)) ((0 : Int))
noncomputable def xs0a.t2 {γ : Type} (ret : (Int) → Option γ) (lp2 : (List Int) → Int → Int → Option γ) (v0 : List Int) (v1 : Int) (v2 : Int) : Option γ :=
 bif decide (v2 < v1) then
  bif decide ((0 : Int) ≤ v2) then
   bif decide (v2.toNat < v0.length) then
    (xi0n (v0.getD v2.toNat (0 : Int))).bind fun (r0 : Bool) =>
    bif r0 then
     ret (v2)
    else
     lp2 (v0) (v1) (IntKind.i64.wrap (v2 + (1 : Int)))
   else
    none
  else
   none
 else
  ret ((-1 : Int))
theorem xs0a.k (v0) : topL E (callT E tab) 108 Try.f108 (xs0a.c v0) = xs0a.t (fun b => some (xs0a.mk b)) xs0a.q2 v0 := by kernel_rfl
theorem xs0a.k2 (v0 v1 v2) : roundL E (callT E tab) 108 Try.f108 2 [.r, .l, .r, .b] (xs0a.s2 v0 v1 v2) = xs0a.t2 (fun b => some (xs0a.mk b)) xs0a.q2 v0 v1 v2 := by kernel_rfl
theorem xs0a.eq (v0) {b} (h : xs0a.t some xs0a.l2 v0 = some b) : xs0a v0 = some b := tOf_intro xs0a.un (fun _ => by kernel_rfl) (vlim_fn (callT_le E tab) rfl rfl rfl ((xs0a.k v0).trans ((by unfold xs0a.t; repeat' first | exact Sub.ret | exact Sub.none | exact Sub.loop | apply Sub.cond | (apply Sub.bind; intro _) : Sub xs0a.mk _ _) b h)))
theorem xs0a.eq2 (v0 v1 v2) {b} (h : xs0a.t2 some xs0a.l2 v0 v1 v2 = some b) : xs0a.l2 v0 v1 v2 = some b := tOf_intro xs0a.un (fun _ => by kernel_rfl) (loopAtL_step ((xs0a.k2 v0 v1 v2).trans ((by unfold xs0a.t2; repeat' first | exact Sub.ret | exact Sub.none | exact Sub.loop | apply Sub.cond | (apply Sub.bind; intro _) : Sub xs0a.mk _ _) b h)))
noncomputable def xi0n.t {γ : Type} (ret : (Bool) → Option γ) (v0 : Int) : Option γ :=
 (xi2c (v0)).bind fun (r0 : Bool) =>
 ret (!r0)
theorem xi0n.k (v0) : topL E (callT E tab) 84 Try.f84 (xi0n.c v0) = xi0n.t (fun b => some (xi0n.mk b)) v0 := by kernel_rfl
theorem xi0n.eq (v0) {b} (h : xi0n.t some v0 = some b) : xi0n v0 = some b := tOf_intro xi0n.un (fun _ => by kernel_rfl) (vlim_fn (callT_le E tab) rfl rfl rfl ((xi0n.k v0).trans ((by unfold xi0n.t; repeat' first | exact Sub.ret | exact Sub.none | exact Sub.loop | apply Sub.cond | (apply Sub.bind; intro _) : Sub xi0n.mk _ _) b h)))
noncomputable def xi2c.t {γ : Type} (ret : (Bool) → Option γ) (v0 : Int) : Option γ :=
 (xi2d (v0) ((-100000 : Int)) ((100000 : Int))).bind fun (r0 : Bool) =>
 ret (r0)
theorem xi2c.k (v0) : topL E (callT E tab) 62 Try.f62 (xi2c.c v0) = xi2c.t (fun b => some (xi2c.mk b)) v0 := by kernel_rfl
theorem xi2c.eq (v0) {b} (h : xi2c.t some v0 = some b) : xi2c v0 = some b := tOf_intro xi2c.un (fun _ => by kernel_rfl) (vlim_fn (callT_le E tab) rfl rfl rfl ((xi2c.k v0).trans ((by unfold xi2c.t; repeat' first | exact Sub.ret | exact Sub.none | exact Sub.loop | apply Sub.cond | (apply Sub.bind; intro _) : Sub xi2c.mk _ _) b h)))
noncomputable def xi2d.t {γ : Type} (ret : (Bool) → Option γ) (v0 : Int) (v1 : Int) (v2 : Int) : Option γ :=
 bif decide (v1 ≤ v0) then
  ret (decide (v0 ≤ v2))
 else
  ret (Bool.false)
theorem xi2d.k (v0 v1 v2) : topL E (callT E tab) 53 Try.f53 (xi2d.c v0 v1 v2) = xi2d.t (fun b => some (xi2d.mk b)) v0 v1 v2 := by kernel_rfl
theorem xi2d.eq (v0 v1 v2) {b} (h : xi2d.t some v0 v1 v2 = some b) : xi2d v0 v1 v2 = some b := tOf_intro xi2d.un (fun _ => by kernel_rfl) (vlim_fn (callT_le E tab) rfl rfl rfl ((xi2d.k v0 v1 v2).trans ((by unfold xi2d.t; repeat' first | exact Sub.ret | exact Sub.none | exact Sub.loop | apply Sub.cond | (apply Sub.bind; intro _) : Sub xi2d.mk _ _) b h)))
noncomputable def xi2i.t {γ : Type} (ret : (Bool) → Option γ) (v0 : Int) : Option γ :=
 (xi2d (v0) ((-100000000000000 : Int)) ((100000000000000 : Int))).bind fun (r0 : Bool) =>
 ret (r0)
theorem xi2i.k (v0) : topL E (callT E tab) 60 Try.f60 (xi2i.c v0) = xi2i.t (fun b => some (xi2i.mk b)) v0 := by kernel_rfl
theorem xi2i.eq (v0) {b} (h : xi2i.t some v0 = some b) : xi2i v0 = some b := tOf_intro xi2i.un (fun _ => by kernel_rfl) (vlim_fn (callT_le E tab) rfl rfl rfl ((xi2i.k v0).trans ((by unfold xi2i.t; repeat' first | exact Sub.ret | exact Sub.none | exact Sub.loop | apply Sub.cond | (apply Sub.bind; intro _) : Sub xi2i.mk _ _) b h)))
noncomputable def xi1b.t {γ : Type} (ret : (Int) → Option γ) (v0 : List Int) (v1 : List Int) : Option γ :=
 (xs0s (v0) (v1)).bind fun (r0 : Int) =>
 ret (r0)
theorem xi1b.k (v0 v1) : topL E (callT E tab) 73 Try.f73 (xi1b.c v0 v1) = xi1b.t (fun b => some (xi1b.mk b)) v0 v1 := by kernel_rfl
theorem xi1b.eq (v0 v1) {b} (h : xi1b.t some v0 v1 = some b) : xi1b v0 v1 = some b := tOf_intro xi1b.un (fun _ => by kernel_rfl) (vlim_fn (callT_le E tab) rfl rfl rfl ((xi1b.k v0 v1).trans ((by unfold xi1b.t; repeat' first | exact Sub.ret | exact Sub.none | exact Sub.loop | apply Sub.cond | (apply Sub.bind; intro _) : Sub xi1b.mk _ _) b h)))
def xs0s.s2 (v0 : List Int) (v1 : List Int) (v2 : List Int) (v3 : Int) (v4 : Int) : List Cell := vc (.d .fro (.sl (.int .i64)) v0) :: vc (.d .fro (.sl (.int .i64)) v1) :: nn 7 (vc (.d .fro (.sl (.int .i64)) v2) :: vc (iL v3) :: vc (iL v4) :: nn 24 ([]))
noncomputable def xs0s.q2 := fun v0 v1 v2 v3 v4 => loopAtL E (callT E tab) 103 Try.f103 2 [.r, .l, .r, .b] (xs0s.s2 v0 v1 v2 v3 v4)
noncomputable def xs0s.l2 := fun v0 v1 v2 v3 v4 => tOf xs0s.mk (xs0s.q2 v0 v1 v2 v3 v4)
noncomputable def xs0s.t {γ : Type} (ret : (Int) → Option γ) (lp2 : (List Int) → (List Int) → (List Int) → Int → Int → Option γ) (v0 : List Int) (v1 : List Int) : Option γ :=
 lp2 (v0) (v1) (v0) ((↑v0.length : Int)) ((0 : Int))
noncomputable def xs0s.t2 {γ : Type} (ret : (Int) → Option γ) (lp2 : (List Int) → (List Int) → (List Int) → Int → Int → Option γ) (v0 : List Int) (v1 : List Int) (v2 : List Int) (v3 : Int) (v4 : Int) : Option γ :=
 bif decide (v4 < v3) then
  bif decide ((0 : Int) ≤ v4) then
   bif decide (v4.toNat < v2.length) then
    bif decide (v4 ≥ (↑v1.length : Int)) then
     ret ((1 : Int))
    else
     bif decide ((0 : Int) ≤ v4) then
      bif decide (v4.toNat < v1.length) then
       (xc1c (v2.getD v4.toNat (0 : Int)) (v1.getD v4.toNat (0 : Int))).bind fun (r0 : Int) =>
       bif r0 != (0 : Int) then
        ret (r0)
       else
        lp2 (v0) (v1) (v2) (v3) (IntKind.i64.wrap (v4 + (1 : Int)))
      else
       none
     else
      none
   else
    none
  else
   none
 else
  bif decide ((↑v0.length : Int) < (↑v1.length : Int)) then
   ret ((-1 : Int))
  else
   ret ((0 : Int))
theorem xs0s.k (v0 v1) : topL E (callT E tab) 103 Try.f103 (xs0s.c v0 v1) = xs0s.t (fun b => some (xs0s.mk b)) xs0s.q2 v0 v1 := by kernel_rfl
theorem xs0s.k2 (v0 v1 v2 v3 v4) : roundL E (callT E tab) 103 Try.f103 2 [.r, .l, .r, .b] (xs0s.s2 v0 v1 v2 v3 v4) = xs0s.t2 (fun b => some (xs0s.mk b)) xs0s.q2 v0 v1 v2 v3 v4 := by kernel_rfl
theorem xs0s.eq (v0 v1) {b} (h : xs0s.t some xs0s.l2 v0 v1 = some b) : xs0s v0 v1 = some b := tOf_intro xs0s.un (fun _ => by kernel_rfl) (vlim_fn (callT_le E tab) rfl rfl rfl ((xs0s.k v0 v1).trans ((by unfold xs0s.t; repeat' first | exact Sub.ret | exact Sub.none | exact Sub.loop | apply Sub.cond | (apply Sub.bind; intro _) : Sub xs0s.mk _ _) b h)))
theorem xs0s.eq2 (v0 v1 v2 v3 v4) {b} (h : xs0s.t2 some xs0s.l2 v0 v1 v2 v3 v4 = some b) : xs0s.l2 v0 v1 v2 v3 v4 = some b := tOf_intro xs0s.un (fun _ => by kernel_rfl) (loopAtL_step ((xs0s.k2 v0 v1 v2 v3 v4).trans ((by unfold xs0s.t2; repeat' first | exact Sub.ret | exact Sub.none | exact Sub.loop | apply Sub.cond | (apply Sub.bind; intro _) : Sub xs0s.mk _ _) b h)))
noncomputable def xc1c.t {γ : Type} (ret : (Int) → Option γ) (v0 : Int) (v1 : Int) : Option γ :=
 (xc1u (v0)).bind fun (r0 : Bool) =>
 (xc1u (v1)).bind fun (r1 : Bool) =>
 bif r0 then
  bif r1 then
   ret ((0 : Int))
  else
   ret ((-1 : Int))
 else
  bif r1 then
   ret ((1 : Int))
  else
   bif decide (v0 < v1) then
    ret ((-1 : Int))
   else
    bif decide (v0 > v1) then
     ret ((1 : Int))
    else
     ret ((0 : Int))
theorem xc1c.k (v0 v1) : topL E (callT E tab) 115 Try.f115 (xc1c.c v0 v1) = xc1c.t (fun b => some (xc1c.mk b)) v0 v1 := by kernel_rfl
theorem xc1c.eq (v0 v1) {b} (h : xc1c.t some v0 v1 = some b) : xc1c v0 v1 = some b := tOf_intro xc1c.un (fun _ => by kernel_rfl) (vlim_fn (callT_le E tab) rfl rfl rfl ((xc1c.k v0 v1).trans ((by unfold xc1c.t; repeat' first | exact Sub.ret | exact Sub.none | exact Sub.loop | apply Sub.cond | (apply Sub.bind; intro _) : Sub xc1c.mk _ _) b h)))
noncomputable def xc1u.t {γ : Type} (ret : (Bool) → Option γ) (v0 : Int) : Option γ :=
 ret (v0 != v0)
theorem xc1u.k (v0) : topL E (callT E tab) 121 Try.f121 (xc1u.c v0) = xc1u.t (fun b => some (xc1u.mk b)) v0 := by kernel_rfl
theorem xc1u.eq (v0) {b} (h : xc1u.t some v0 = some b) : xc1u v0 = some b := tOf_intro xc1u.un (fun _ => by kernel_rfl) (vlim_fn (callT_le E tab) rfl rfl rfl ((xc1u.k v0).trans ((by unfold xc1u.t; repeat' first | exact Sub.ret | exact Sub.none | exact Sub.loop | apply Sub.cond | (apply Sub.bind; intro _) : Sub xc1u.mk _ _) b h)))
def xi1e.s3 (v0 : List Int) (v1 : List Int) (v2 : List Int) (v3 : List Int) (v4 : Int) (v5 : Int) : List Cell := nn 2 (⟨(.box false), [.d .fro (.sl (.int .i64)) v0], false, false, false, 0, 0⟩ :: nn 1 (⟨(.box false), [.d .deep (.sl (.int .i64)) v1], false, false, false, 0, 0⟩ :: ⟨(.box false), [.d .deep (.sl (.int .i64)) v2], false, false, false, 0, 0⟩ :: nn 2 (vc (.d .fro (.sl (.int .i64)) v3) :: vc (iL v4) :: vc (iL v5) :: nn 15 ([]))))
noncomputable def xi1e.q3 := fun v0 v1 v2 v3 v4 v5 => loopAtL E (callT E tab) 47 Try.f47 2 [.r, .r, .l, .r, .b] (xi1e.s3 v0 v1 v2 v3 v4 v5)
noncomputable def xi1e.l3 := fun v0 v1 v2 v3 v4 v5 => tOf xi1e.mk (xi1e.q3 v0 v1 v2 v3 v4 v5)
noncomputable def xi1e.t {γ : Type} (ret : ((List Int)) → Option γ) (lp3 : (List Int) → (List Int) → (List Int) → (List Int) → Int → Int → Option γ) (v0 : List Int) (v1 : List Int) : Option γ :=
 lp3 (v0) ([]) ([]) (v1) ((↑v1.length : Int)) ((0 : Int))
noncomputable def xi1e.t3 {γ : Type} (ret : ((List Int)) → Option γ) (lp3 : (List Int) → (List Int) → (List Int) → (List Int) → Int → Int → Option γ) (v0 : List Int) (v1 : List Int) (v2 : List Int) (v3 : List Int) (v4 : Int) (v5 : Int) : Option γ :=
 bif decide (v5 < v4) then
  bif decide ((0 : Int) ≤ v5) then
   bif decide (v5.toNat < v3.length) then
    bif decide ((0 : Int) ≤ v3.getD v5.toNat (0 : Int)) then
     bif decide ((v3.getD v5.toNat (0 : Int)).toNat < v0.length) then
      bif decide (v2.length + [v0.getD (v3.getD v5.toNat (0 : Int)).toNat (0 : Int)].length ≤ (4294967296 : Nat)) then
       lp3 (v0) (v1) (v2 ++ [v0.getD (v3.getD v5.toNat (0 : Int)).toNat (0 : Int)]) (v3) (v4) (IntKind.i64.wrap (v5 + (1 : Int)))
      else
       none
     else
      none
    else
     none
   else
    none
  else
   none
 else
  ret (v2)
theorem xi1e.k (v0 v1) : topL E (callT E tab) 47 Try.f47 (xi1e.c v0 v1) = xi1e.t (fun b => some (xi1e.mk b)) xi1e.q3 v0 v1 := by kernel_rfl
theorem xi1e.k3 (v0 v1 v2 v3 v4 v5) : roundL E (callT E tab) 47 Try.f47 2 [.r, .r, .l, .r, .b] (xi1e.s3 v0 v1 v2 v3 v4 v5) = xi1e.t3 (fun b => some (xi1e.mk b)) xi1e.q3 v0 v1 v2 v3 v4 v5 := by kernel_rfl
theorem xi1e.eq (v0 v1) {b} (h : xi1e.t some xi1e.l3 v0 v1 = some b) : xi1e v0 v1 = some b := tOf_intro xi1e.un (fun _ => by kernel_rfl) (vlim_fn (callT_le E tab) rfl rfl rfl ((xi1e.k v0 v1).trans ((by unfold xi1e.t; repeat' first | exact Sub.ret | exact Sub.none | exact Sub.loop | apply Sub.cond | (apply Sub.bind; intro _) : Sub xi1e.mk _ _) b h)))
theorem xi1e.eq3 (v0 v1 v2 v3 v4 v5) {b} (h : xi1e.t3 some xi1e.l3 v0 v1 v2 v3 v4 v5 = some b) : xi1e.l3 v0 v1 v2 v3 v4 v5 = some b := tOf_intro xi1e.un (fun _ => by kernel_rfl) (loopAtL_step ((xi1e.k3 v0 v1 v2 v3 v4 v5).trans ((by unfold xi1e.t3; repeat' first | exact Sub.ret | exact Sub.none | exact Sub.loop | apply Sub.cond | (apply Sub.bind; intro _) : Sub xi1e.mk _ _) b h)))
end GoV
