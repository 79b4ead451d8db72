/- A part of the proof of FnExactCostOf: an interpreter of the model over plain data, its soundness, and what it makes of the functions that the statement reaches. Conditions: none beyond what the given statement itself says. -/
import Derived.Test.YtcilpkgidhkfjaaTH
set_option linter.unusedVariables false
set_option linter.unusedSimpArgs false
set_option linter.unnecessarySimpa false
set_option linter.unusedSectionVars false
/- The functions of the program, each told by what it answers in the end (printed by wip/tools/emit.py). -/
namespace GoV
open Go Go.Proofs
set_option maxRecDepth 100000

def laws_szStats.c (v0 : List Int) (v1 : List (List Int)) (v2 : Int) : List Cell := ac [.d .fro (.sl (.int .i64)) v0, .d .fro (.sl (.sl (.int .i64))) v1] :: vc (iL v2) :: []
def laws_szStats.mk (b : Int) : R := (⟨.one, [iL b]⟩, nn 2 ([]))
def laws_szStats.un (r : R) : Int := ((leafR r 0).dat (.int .i64))
noncomputable def laws_szStats (v0 : List Int) (v1 : List (List Int)) (v2 : Int) : Option (Int) := tOf laws_szStats.mk (vlim E 9 (laws_szStats.c v0 v1 v2))
def laws_szIntS.c (v0 : List Int) (v1 : Int) : List Cell := vc (.d .fro (.sl (.int .i64)) v0) :: vc (iL v1) :: []
def laws_szIntS.mk (b : Int) : R := (⟨.one, [iL b]⟩, nn 2 ([]))
def laws_szIntS.un (r : R) : Int := ((leafR r 0).dat (.int .i64))
noncomputable def laws_szIntS (v0 : List Int) (v1 : Int) : Option (Int) := tOf laws_szIntS.mk (vlim E 40 (laws_szIntS.c v0 v1))
def laws_szIntSS.c (v0 : List (List Int)) (v1 : Int) : List Cell := vc (.d .fro (.sl (.sl (.int .i64))) v0) :: vc (iL v1) :: []
def laws_szIntSS.mk (b : Int) : R := (⟨.one, [iL b]⟩, nn 2 ([]))
def laws_szIntSS.un (r : R) : Int := ((leafR r 0).dat (.int .i64))
noncomputable def laws_szIntSS (v0 : List (List Int)) (v1 : Int) : Option (Int) := tOf laws_szIntSS.mk (vlim E 41 (laws_szIntSS.c v0 v1))
def laws_toStats.c (v0 : List Int) (v1 : List (List Int)) : List Cell := ac [.d .fro (.sl (.int .i64)) v0, .d .fro (.sl (.sl (.int .i64))) v1] :: []
def laws_toStats.mk (b : (List Int) × (List (List Int))) : R := (⟨.agg, [.d .deep (.sl (.int .i64)) b.1, .d .deep (.sl (.sl (.int .i64))) b.2]⟩, nn 1 ([]))
def laws_toStats.un (r : R) : (List Int) × (List (List Int)) := ((leafR r 0).dat (.sl (.int .i64)), (leafR r 1).dat (.sl (.sl (.int .i64))))
noncomputable def laws_toStats (v0 : List Int) (v1 : List (List Int)) : Option ((List Int) × (List (List Int))) := tOf laws_toStats.mk (vlim E 11 (laws_toStats.c v0 v1))
def laws_toIntS.c (v0 : List Int) : List Cell := vc (.d .fro (.sl (.int .i64)) v0) :: []
def laws_toIntS.mk (b : (List Int)) : R := (⟨.one, [.d .deep (.sl (.int .i64)) b]⟩, nn 1 ([]))
def laws_toIntS.un (r : R) : (List Int) := ((leafR r 0).dat (.sl (.int .i64)))
noncomputable def laws_toIntS (v0 : List Int) : Option ((List Int)) := tOf laws_toIntS.mk (vlim E 12 (laws_toIntS.c v0))
def laws_toIntSS.c (v0 : List (List Int)) : List Cell := vc (.d .fro (.sl (.sl (.int .i64))) v0) :: []
def laws_toIntSS.mk (b : (List (List Int))) : R := (⟨.one, [.d .deep (.sl (.sl (.int .i64))) b]⟩, nn 1 ([]))
def laws_toIntSS.un (r : R) : (List (List Int)) := ((leafR r 0).dat (.sl (.sl (.int .i64))))
noncomputable def laws_toIntSS (v0 : List (List Int)) : Option ((List (List Int))) := tOf laws_toIntSS.mk (vlim E 45 (laws_toIntSS.c v0))
def spec_GoodStats.c (v0 : List Int) (v1 : List (List Int)) : List Cell := ac [.d .fro (.sl (.int .i64)) v0, .d .fro (.sl (.sl (.int .i64))) v1] :: []
def spec_GoodStats.mk (b : Bool) : R := (⟨.one, [bL b]⟩, nn 1 ([]))
def spec_GoodStats.un (r : R) : Bool := ((leafR r 0).dat .bool)
noncomputable def spec_GoodStats (v0 : List Int) (v1 : List (List Int)) : Option (Bool) := tOf spec_GoodStats.mk (vlim E 42 (spec_GoodStats.c v0 v1))
def spec_l1In.c (v0 : Int) (v1 : Int) (v2 : Int) : List Cell := vc (iL v0) :: vc (iL v1) :: vc (iL v2) :: []
def spec_l1In.mk (b : Bool) : R := (⟨.one, [bL b]⟩, nn 3 ([]))
def spec_l1In.un (r : R) : Bool := ((leafR r 0).dat .bool)
noncomputable def spec_l1In (v0 : Int) (v1 : Int) (v2 : Int) : Option (Bool) := tOf spec_l1In.mk (vlim E 69 (spec_l1In.c v0 v1 v2))
def spec_l12Size.c (v0 : List Int) (v1 : List (List Int)) (v2 : List Int) : List Cell := ac [.d .fro (.sl (.int .i64)) v0, .d .fro (.sl (.sl (.int .i64))) v1] :: vc (.d .fro (.sl (.int .i64)) v2) :: []
def spec_l12Size.mk (b : Int) : R := (⟨.one, [iL b]⟩, nn 2 ([]))
def spec_l12Size.un (r : R) : Int := ((leafR r 0).dat (.int .i64))
noncomputable def spec_l12Size (v0 : List Int) (v1 : List (List Int)) (v2 : List Int) : Option (Int) := tOf spec_l12Size.mk (vlim E 44 (spec_l12Size.c v0 v1 v2))
def impl_GoodStats.c (v0 : List Int) (v1 : List (List Int)) : List Cell := ac [.d .fro (.sl (.int .i64)) v0, .d .fro (.sl (.sl (.int .i64))) v1] :: []
def impl_GoodStats.mk (b : Bool) : R := (⟨.one, [bL b]⟩, nn 1 ([]))
def impl_GoodStats.un (r : R) : Bool := ((leafR r 0).dat .bool)
noncomputable def impl_GoodStats (v0 : List Int) (v1 : List (List Int)) : Option (Bool) := tOf impl_GoodStats.mk (vlim E 46 (impl_GoodStats.c v0 v1))
def impl_within.c (v0 : Int) (v1 : Int) (v2 : Int) : List Cell := vc (iL v0) :: vc (iL v1) :: vc (iL v2) :: []
def impl_within.mk (b : Bool) : R := (⟨.one, [bL b]⟩, nn 3 ([]))
def impl_within.un (r : R) : Bool := ((leafR r 0).dat .bool)
noncomputable def impl_within (v0 : Int) (v1 : Int) (v2 : Int) : Option (Bool) := tOf impl_within.mk (vlim E 81 (impl_within.c v0 v1 v2))
def impl_areAll_int_impl_GoodStats_1.c (v0 : List Int) : List Cell := vc (.d .fro (.sl (.int .i64)) v0) :: vc (.fn 82 []) :: []
def impl_areAll_int_impl_GoodStats_1.mk (b : Bool) : R := (⟨.one, [bL b]⟩, nn 2 ([]))
def impl_areAll_int_impl_GoodStats_1.un (r : R) : Bool := ((leafR r 0).dat .bool)
noncomputable def impl_areAll_int_impl_GoodStats_1 (v0 : List Int) : Option (Bool) := tOf impl_areAll_int_impl_GoodStats_1.mk (vlim E 63 (impl_areAll_int_impl_GoodStats_1.c v0))
def slices_ContainsFunc_int_int_impl_areAll_int_1_impl_GoodStats_1.c (v0 : List Int) : List Cell := vc (.d .fro (.sl (.int .i64)) v0) :: vc (.fn 95 [.rp [.fn 82 []] 0]) :: []
def slices_ContainsFunc_int_int_impl_areAll_int_1_impl_GoodStats_1.mk (b : Bool) : R := (⟨.one, [bL b]⟩, nn 2 ([]))
def slices_ContainsFunc_int_int_impl_areAll_int_1_impl_GoodStats_1.un (r : R) : Bool := ((leafR r 0).dat .bool)
noncomputable def slices_ContainsFunc_int_int_impl_areAll_int_1_impl_GoodStats_1 (v0 : List Int) : Option (Bool) := tOf slices_ContainsFunc_int_int_impl_areAll_int_1_impl_GoodStats_1.mk (vlim E 94 (slices_ContainsFunc_int_int_impl_areAll_int_1_impl_GoodStats_1.c v0))
def slices_IndexFunc_int_int_impl_areAll_int_1_impl_GoodStats_1.c (v0 : List Int) : List Cell := vc (.d .fro (.sl (.int .i64)) v0) :: vc (.fn 95 [.rp [.fn 82 []] 0]) :: []
def slices_IndexFunc_int_int_impl_areAll_int_1_impl_GoodStats_1.mk (b : Int) : R := (⟨.one, [iL b]⟩, nn 2 ([]))
def slices_IndexFunc_int_int_impl_areAll_int_1_impl_GoodStats_1.un (r : R) : Int := ((leafR r 0).dat (.int .i64))
noncomputable def slices_IndexFunc_int_int_impl_areAll_int_1_impl_GoodStats_1 (v0 : List Int) : Option (Int) := tOf slices_IndexFunc_int_int_impl_areAll_int_1_impl_GoodStats_1.mk (vlim E 108 (slices_IndexFunc_int_int_impl_areAll_int_1_impl_GoodStats_1.c v0))
def impl_areAll_int_1_impl_GoodStats_1.c (v0 : Int) : List Cell := vc (iL v0) :: vc (.rp [.fn 82 []] 0) :: []
def impl_areAll_int_1_impl_GoodStats_1.mk (b : Bool) : R := (⟨.one, [bL b]⟩, nn 2 ([]))
def impl_areAll_int_1_impl_GoodStats_1.un (r : R) : Bool := ((leafR r 0).dat .bool)
noncomputable def impl_areAll_int_1_impl_GoodStats_1 (v0 : Int) : Option (Bool) := tOf impl_areAll_int_1_impl_GoodStats_1.mk (vlim E 95 (impl_areAll_int_1_impl_GoodStats_1.c v0))
def impl_GoodStats_1.c (v0 : Int) : List Cell := vc (iL v0) :: []
def impl_GoodStats_1.mk (b : Bool) : R := (⟨.one, [bL b]⟩, nn 1 ([]))
def impl_GoodStats_1.un (r : R) : Bool := ((leafR r 0).dat .bool)
noncomputable def impl_GoodStats_1 (v0 : Int) : Option (Bool) := tOf impl_GoodStats_1.mk (vlim E 82 (impl_GoodStats_1.c v0))
def impl_areAll_int_impl_GoodStats_2.c (v0 : List Int) : List Cell := vc (.d .fro (.sl (.int .i64)) v0) :: vc (.fn 83 []) :: []
def impl_areAll_int_impl_GoodStats_2.mk (b : Bool) : R := (⟨.one, [bL b]⟩, nn 2 ([]))
def impl_areAll_int_impl_GoodStats_2.un (r : R) : Bool := ((leafR r 0).dat .bool)
noncomputable def impl_areAll_int_impl_GoodStats_2 (v0 : List Int) : Option (Bool) := tOf impl_areAll_int_impl_GoodStats_2.mk (vlim E 63 (impl_areAll_int_impl_GoodStats_2.c v0))
def slices_ContainsFunc_int_int_impl_areAll_int_1_impl_GoodStats_2.c (v0 : List Int) : List Cell := vc (.d .fro (.sl (.int .i64)) v0) :: vc (.fn 95 [.rp [.fn 83 []] 0]) :: []
def slices_ContainsFunc_int_int_impl_areAll_int_1_impl_GoodStats_2.mk (b : Bool) : R := (⟨.one, [bL b]⟩, nn 2 ([]))
def slices_ContainsFunc_int_int_impl_areAll_int_1_impl_GoodStats_2.un (r : R) : Bool := ((leafR r 0).dat .bool)
noncomputable def slices_ContainsFunc_int_int_impl_areAll_int_1_impl_GoodStats_2 (v0 : List Int) : Option (Bool) := tOf slices_ContainsFunc_int_int_impl_areAll_int_1_impl_GoodStats_2.mk (vlim E 94 (slices_ContainsFunc_int_int_impl_areAll_int_1_impl_GoodStats_2.c v0))
def slices_IndexFunc_int_int_impl_areAll_int_1_impl_GoodStats_2.c (v0 : List Int) : List Cell := vc (.d .fro (.sl (.int .i64)) v0) :: vc (.fn 95 [.rp [.fn 83 []] 0]) :: []
def slices_IndexFunc_int_int_impl_areAll_int_1_impl_GoodStats_2.mk (b : Int) : R := (⟨.one, [iL b]⟩, nn 2 ([]))
def slices_IndexFunc_int_int_impl_areAll_int_1_impl_GoodStats_2.un (r : R) : Int := ((leafR r 0).dat (.int .i64))
noncomputable def slices_IndexFunc_int_int_impl_areAll_int_1_impl_GoodStats_2 (v0 : List Int) : Option (Int) := tOf slices_IndexFunc_int_int_impl_areAll_int_1_impl_GoodStats_2.mk (vlim E 108 (slices_IndexFunc_int_int_impl_areAll_int_1_impl_GoodStats_2.c v0))
def impl_areAll_int_1_impl_GoodStats_2.c (v0 : Int) : List Cell := vc (iL v0) :: vc (.rp [.fn 83 []] 0) :: []
def impl_areAll_int_1_impl_GoodStats_2.mk (b : Bool) : R := (⟨.one, [bL b]⟩, nn 2 ([]))
def impl_areAll_int_1_impl_GoodStats_2.un (r : R) : Bool := ((leafR r 0).dat .bool)
noncomputable def impl_areAll_int_1_impl_GoodStats_2 (v0 : Int) : Option (Bool) := tOf impl_areAll_int_1_impl_GoodStats_2.mk (vlim E 95 (impl_areAll_int_1_impl_GoodStats_2.c v0))
def impl_GoodStats_2.c (v0 : Int) : List Cell := vc (iL v0) :: []
def impl_GoodStats_2.mk (b : Bool) : R := (⟨.one, [bL b]⟩, nn 1 ([]))
def impl_GoodStats_2.un (r : R) : Bool := ((leafR r 0).dat .bool)
noncomputable def impl_GoodStats_2 (v0 : Int) : Option (Bool) := tOf impl_GoodStats_2.mk (vlim E 83 (impl_GoodStats_2.c v0))
def impl_setOf.c (v0 : List Int) : List Cell := vc (.d .fro (.sl (.int .i64)) v0) :: []
def impl_setOf.mk (b : Int) : R := (⟨.one, [iL b]⟩, nn 1 ([]))
def impl_setOf.un (r : R) : Int := ((leafR r 0).dat (.int .i64))
noncomputable def impl_setOf (v0 : List Int) : Option (Int) := tOf impl_setOf.mk (vlim E 49 (impl_setOf.c v0))
def impl_Stats_size.c (v0 : List Int) (v1 : List (List Int)) (v2 : Int) : List Cell := ac [.d .fro (.sl (.int .i64)) v0, .d .fro (.sl (.sl (.int .i64))) v1] :: vc (iL v2) :: []
def impl_Stats_size.mk (b : Int) : R := (⟨.one, [iL b]⟩, nn 2 ([]))
def impl_Stats_size.un (r : R) : Int := ((leafR r 0).dat (.int .i64))
noncomputable def impl_Stats_size (v0 : List Int) (v1 : List (List Int)) (v2 : Int) : Option (Int) := tOf impl_Stats_size.mk (vlim E 48 (impl_Stats_size.c v0 v1 v2))
def impl_set_list.c (v0 : Int) : List Cell := vc (iL v0) :: []
def impl_set_list.mk (b : (List Int)) : R := (⟨.one, [.d .deep (.sl (.int .i64)) b]⟩, nn 1 ([]))
def impl_set_list.un (r : R) : (List Int) := ((leafR r 0).dat (.sl (.int .i64)))
noncomputable def impl_set_list (v0 : Int) : Option ((List Int)) := tOf impl_set_list.mk (vlim E 55 (impl_set_list.c v0))
def laws_eqStats.c (v0 : List Int) (v1 : List (List Int)) (v2 : List Int) (v3 : List (List Int)) : List Cell := ac [.d .fro (.sl (.int .i64)) v0, .d .fro (.sl (.sl (.int .i64))) v1] :: ac [.d .fro (.sl (.int .i64)) v2, .d .fro (.sl (.sl (.int .i64))) v3] :: []
def laws_eqStats.mk (b : Bool) : R := (⟨.one, [bL b]⟩, nn 2 ([]))
def laws_eqStats.un (r : R) : Bool := ((leafR r 0).dat .bool)
noncomputable def laws_eqStats (v0 : List Int) (v1 : List (List Int)) (v2 : List Int) (v3 : List (List Int)) : Option (Bool) := tOf laws_eqStats.mk (vlim E 14 (laws_eqStats.c v0 v1 v2 v3))
def laws_eqIntS.c (v0 : List Int) (v1 : List Int) : List Cell := vc (.d .fro (.sl (.int .i64)) v0) :: vc (.d .fro (.sl (.int .i64)) v1) :: []
def laws_eqIntS.mk (b : Bool) : R := (⟨.one, [bL b]⟩, nn 2 ([]))
def laws_eqIntS.un (r : R) : Bool := ((leafR r 0).dat .bool)
noncomputable def laws_eqIntS (v0 : List Int) (v1 : List Int) : Option (Bool) := tOf laws_eqIntS.mk (vlim E 15 (laws_eqIntS.c v0 v1))
def laws_eqIntSS.c (v0 : List (List Int)) (v1 : List (List Int)) : List Cell := vc (.d .fro (.sl (.sl (.int .i64))) v0) :: vc (.d .fro (.sl (.sl (.int .i64))) v1) :: []
def laws_eqIntSS.mk (b : Bool) : R := (⟨.one, [bL b]⟩, nn 2 ([]))
def laws_eqIntSS.un (r : R) : Bool := ((leafR r 0).dat .bool)
noncomputable def laws_eqIntSS (v0 : List (List Int)) (v1 : List (List Int)) : Option (Bool) := tOf laws_eqIntSS.mk (vlim E 20 (laws_eqIntSS.c v0 v1))
def spec_l7Put.c (v0 : List Int) (v1 : Int) : List Cell := vc (.d .fro (.sl (.int .i64)) v0) :: vc (iL v1) :: []
def spec_l7Put.mk (b : (List Int)) : R := (⟨.one, [.d .fro (.sl (.int .i64)) b]⟩, nn 2 ([]))
def spec_l7Put.un (r : R) : (List Int) := ((leafR r 0).dat (.sl (.int .i64)))
noncomputable def spec_l7Put (v0 : List Int) (v1 : Int) : Option ((List Int)) := tOf spec_l7Put.mk (vlim E 86 (spec_l7Put.c v0 v1))
def spec_l1Has.c (v0 : List Int) (v1 : Int) : List Cell := vc (.d .fro (.sl (.int .i64)) v0) :: vc (iL v1) :: []
def spec_l1Has.mk (b : Bool) : R := (⟨.one, [bL b]⟩, nn 2 ([]))
def spec_l1Has.un (r : R) : Bool := ((leafR r 0).dat .bool)
noncomputable def spec_l1Has (v0 : List Int) (v1 : Int) : Option (Bool) := tOf spec_l1Has.mk (vlim E 73 (spec_l1Has.c v0 v1))
def laws_FnExactCostOf.c (v0 : List Int) (v1 : List (List Int)) (v2 : List Int) : List Cell := ac [.d .fro (.sl (.int .i64)) v0, .d .fro (.sl (.sl (.int .i64))) v1] :: vc (.d .fro (.sl (.int .i64)) v2) :: []
def laws_FnExactCostOf.mk (b : Bool) : R := (⟨.one, [bL b]⟩, nn 2 ([]))
def laws_FnExactCostOf.un (r : R) : Bool := ((leafR r 0).dat .bool)
noncomputable def laws_FnExactCostOf (v0 : List Int) (v1 : List (List Int)) (v2 : List Int) : Option (Bool) := tOf laws_FnExactCostOf.mk (vlim E 8 (laws_FnExactCostOf.c v0 v1 v2))
def spec_CostOf.c (v0 : List Int) (v1 : List (List Int)) (v2 : List Int) : List Cell := ac [.d .fro (.sl (.int .i64)) v0, .d .fro (.sl (.sl (.int .i64))) v1] :: vc (.d .fro (.sl (.int .i64)) v2) :: []
def spec_CostOf.mk (b : Int × Bool) : R := (⟨(.tup [none, none]), [iL b.1, bL b.2]⟩, nn 2 ([]))
def spec_CostOf.un (r : R) : Int × Bool := ((leafR r 0).dat (.int .i64), (leafR r 1).dat .bool)
noncomputable def spec_CostOf (v0 : List Int) (v1 : List (List Int)) (v2 : List Int) : Option (Int × Bool) := tOf spec_CostOf.mk (vlim E 38 (spec_CostOf.c v0 v1 v2))
def spec_IsOrder.c (v0 : List Int) (v1 : List (List Int)) (v2 : List Int) : List Cell := ac [.d .fro (.sl (.int .i64)) v0, .d .fro (.sl (.sl (.int .i64))) v1] :: vc (.d .fro (.sl (.int .i64)) v2) :: []
def spec_IsOrder.mk (b : Bool) : R := (⟨.one, [bL b]⟩, nn 2 ([]))
def spec_IsOrder.un (r : R) : Bool := ((leafR r 0).dat .bool)
noncomputable def spec_IsOrder (v0 : List Int) (v1 : List (List Int)) (v2 : List Int) : Option (Bool) := tOf spec_IsOrder.mk (vlim E 78 (spec_IsOrder.c v0 v1 v2))
def spec_l12Cost.c (v0 : List Int) (v1 : List (List Int)) (v2 : List Int) : List Cell := ac [.d .fro (.sl (.int .i64)) v0, .d .fro (.sl (.sl (.int .i64))) v1] :: vc (.d .fro (.sl (.int .i64)) v2) :: []
def spec_l12Cost.mk (b : Int) : R := (⟨.one, [iL b]⟩, nn 2 ([]))
def spec_l12Cost.un (r : R) : Int := ((leafR r 0).dat (.int .i64))
noncomputable def spec_l12Cost (v0 : List Int) (v1 : List (List Int)) (v2 : List Int) : Option (Int) := tOf spec_l12Cost.mk (vlim E 79 (spec_l12Cost.c v0 v1 v2))
def impl_CostOf.c (v0 : List Int) (v1 : List (List Int)) (v2 : List Int) : List Cell := ac [.d .fro (.sl (.int .i64)) v0, .d .fro (.sl (.sl (.int .i64))) v1] :: vc (.d .fro (.sl (.int .i64)) v2) :: []
def impl_CostOf.mk (b : Int × Bool) : R := (⟨(.tup [none, none]), [iL b.1, bL b.2]⟩, nn 2 ([]))
def impl_CostOf.un (r : R) : Int × Bool := ((leafR r 0).dat (.int .i64), (leafR r 1).dat .bool)
noncomputable def impl_CostOf (v0 : List Int) (v1 : List (List Int)) (v2 : List Int) : Option (Int × Bool) := tOf impl_CostOf.mk (vlim E 39 (impl_CostOf.c v0 v1 v2))
def impl_IsOrder.c (v0 : List Int) (v1 : List (List Int)) (v2 : List Int) : List Cell := ac [.d .fro (.sl (.int .i64)) v0, .d .fro (.sl (.sl (.int .i64))) v1] :: vc (.d .fro (.sl (.int .i64)) v2) :: []
def impl_IsOrder.mk (b : Bool) : R := (⟨.one, [bL b]⟩, nn 2 ([]))
def impl_IsOrder.un (r : R) : Bool := ((leafR r 0).dat .bool)
noncomputable def impl_IsOrder (v0 : List Int) (v1 : List (List Int)) (v2 : List Int) : Option (Bool) := tOf impl_IsOrder.mk (vlim E 80 (impl_IsOrder.c v0 v1 v2))
def impl_Stats_isOrder.c (v0 : List Int) (v1 : List (List Int)) (v2 : List Int) : List Cell := ac [.d .fro (.sl (.int .i64)) v0, .d .fro (.sl (.sl (.int .i64))) v1] :: vc (.d .fro (.sl (.int .i64)) v2) :: []
def impl_Stats_isOrder.mk (b : Bool) : R := (⟨.one, [bL b]⟩, nn 2 ([]))
def impl_Stats_isOrder.un (r : R) : Bool := ((leafR r 0).dat .bool)
noncomputable def impl_Stats_isOrder (v0 : List Int) (v1 : List (List Int)) (v2 : List Int) : Option (Bool) := tOf impl_Stats_isOrder.mk (vlim E 103 (impl_Stats_isOrder.c v0 v1 v2))
def impl_set_has.c (v0 : Int) (v1 : Int) : List Cell := vc (iL v0) :: vc (iL v1) :: []
def impl_set_has.mk (b : Bool) : R := (⟨.one, [bL b]⟩, nn 2 ([]))
def impl_set_has.un (r : R) : Bool := ((leafR r 0).dat .bool)
noncomputable def impl_set_has (v0 : Int) (v1 : Int) : Option (Bool) := tOf impl_set_has.mk (vlim E 112 (impl_set_has.c v0 v1))
def tabT : List (Nat × List (List Cell × Tb)) := [
  (8, [(laws_FnExactCostOf.c [] [] [], ⟨Bool, laws_FnExactCostOf.mk⟩)]),
  (9, [(laws_szStats.c [] [] 0, ⟨Int, laws_szStats.mk⟩)]),
  (11, [(laws_toStats.c [] [], ⟨(List Int) × (List (List Int)), laws_toStats.mk⟩)]),
  (12, [(laws_toIntS.c [], ⟨(List Int), laws_toIntS.mk⟩)]),
  (14, [(laws_eqStats.c [] [] [] [], ⟨Bool, laws_eqStats.mk⟩)]),
  (15, [(laws_eqIntS.c [] [], ⟨Bool, laws_eqIntS.mk⟩)]),
  (20, [(laws_eqIntSS.c [] [], ⟨Bool, laws_eqIntSS.mk⟩)]),
  (38, [(spec_CostOf.c [] [] [], ⟨Int × Bool, spec_CostOf.mk⟩)]),
  (39, [(impl_CostOf.c [] [] [], ⟨Int × Bool, impl_CostOf.mk⟩)]),
  (40, [(laws_szIntS.c [] 0, ⟨Int, laws_szIntS.mk⟩)]),
  (41, [(laws_szIntSS.c [] 0, ⟨Int, laws_szIntSS.mk⟩)]),
  (42, [(spec_GoodStats.c [] [], ⟨Bool, spec_GoodStats.mk⟩)]),
  (44, [(spec_l12Size.c [] [] [], ⟨Int, spec_l12Size.mk⟩)]),
  (45, [(laws_toIntSS.c [], ⟨(List (List Int)), laws_toIntSS.mk⟩)]),
  (46, [(impl_GoodStats.c [] [], ⟨Bool, impl_GoodStats.mk⟩)]),
  (48, [(impl_Stats_size.c [] [] 0, ⟨Int, impl_Stats_size.mk⟩)]),
  (49, [(impl_setOf.c [], ⟨Int, impl_setOf.mk⟩)]),
  (55, [(impl_set_list.c 0, ⟨(List Int), impl_set_list.mk⟩)]),
  (63, [(impl_areAll_int_impl_GoodStats_1.c [], ⟨Bool, impl_areAll_int_impl_GoodStats_1.mk⟩), (impl_areAll_int_impl_GoodStats_2.c [], ⟨Bool, impl_areAll_int_impl_GoodStats_2.mk⟩)]),
  (69, [(spec_l1In.c 0 0 0, ⟨Bool, spec_l1In.mk⟩)]),
  (73, [(spec_l1Has.c [] 0, ⟨Bool, spec_l1Has.mk⟩)]),
  (78, [(spec_IsOrder.c [] [] [], ⟨Bool, spec_IsOrder.mk⟩)]),
  (79, [(spec_l12Cost.c [] [] [], ⟨Int, spec_l12Cost.mk⟩)]),
  (80, [(impl_IsOrder.c [] [] [], ⟨Bool, impl_IsOrder.mk⟩)]),
  (81, [(impl_within.c 0 0 0, ⟨Bool, impl_within.mk⟩)]),
  (82, [(impl_GoodStats_1.c 0, ⟨Bool, impl_GoodStats_1.mk⟩)]),
  (83, [(impl_GoodStats_2.c 0, ⟨Bool, impl_GoodStats_2.mk⟩)]),
  (86, [(spec_l7Put.c [] 0, ⟨(List Int), spec_l7Put.mk⟩)]),
  (94, [(slices_ContainsFunc_int_int_impl_areAll_int_1_impl_GoodStats_1.c [], ⟨Bool, slices_ContainsFunc_int_int_impl_areAll_int_1_impl_GoodStats_1.mk⟩), (slices_ContainsFunc_int_int_impl_areAll_int_1_impl_GoodStats_2.c [], ⟨Bool, slices_ContainsFunc_int_int_impl_areAll_int_1_impl_GoodStats_2.mk⟩)]),
  (95, [(impl_areAll_int_1_impl_GoodStats_1.c 0, ⟨Bool, impl_areAll_int_1_impl_GoodStats_1.mk⟩), (impl_areAll_int_1_impl_GoodStats_2.c 0, ⟨Bool, impl_areAll_int_1_impl_GoodStats_2.mk⟩)]),
  (103, [(impl_Stats_isOrder.c [] [] [], ⟨Bool, impl_Stats_isOrder.mk⟩)]),
  (108, [(slices_IndexFunc_int_int_impl_areAll_int_1_impl_GoodStats_1.c [], ⟨Int, slices_IndexFunc_int_int_impl_areAll_int_1_impl_GoodStats_1.mk⟩), (slices_IndexFunc_int_int_impl_areAll_int_1_impl_GoodStats_2.c [], ⟨Int, slices_IndexFunc_int_int_impl_areAll_int_1_impl_GoodStats_2.mk⟩)]),
  (112, [(impl_set_has.c 0 0, ⟨Bool, impl_set_has.mk⟩)])]
def tab : FuncId → List Cell → Tb := fun g cs => match assoc tabT g with | some l => pickT l cs | none => ⟨Unit, fun _ => (⟨.one, []⟩, [])⟩
end GoV

/- Equations of the program's functions (printed by wip/tools/emit.py). -/
namespace GoV
open Go Go.Proofs
set_option maxRecDepth 100000

noncomputable def laws_szStats.t {γ : Type} (ret : (Int) → Option γ) (v0 : List Int) (v1 : List (List Int)) (v2 : Int) : Option γ :=
  (laws_szIntS (v0) (v2)).bind fun (r0 : Int) =>
  bif Decidable.decide (r0 < (0 : Int)) then
    ret ((-1 : Int))
  else
    (laws_szIntSS (v1) (r0)).bind fun (r1 : Int) =>
    bif Decidable.decide (r1 < (0 : Int)) then
      ret ((-1 : Int))
    else
      ret (r1)
theorem laws_szStats.k (v0 : List Int) (v1 : List (List Int)) (v2 : Int) : topL E (callT E tab) 9 Try.f9 (laws_szStats.c v0 v1 v2) = laws_szStats.t (fun b => some (laws_szStats.mk b)) v0 v1 v2 := by kernel_rfl
theorem laws_szStats.s (v0 : List Int) (v1 : List (List Int)) (v2 : Int) : Sub laws_szStats.mk (laws_szStats.t some v0 v1 v2) (laws_szStats.t (fun b => some (laws_szStats.mk b)) v0 v1 v2) := by
  unfold laws_szStats.t
  repeat' first | exact Sub.ret | exact Sub.none | exact Sub.loop | apply Sub.cond | (apply Sub.bind; intro _)
theorem laws_szStats.eq (v0 : List Int) (v1 : List (List Int)) (v2 : Int) {b : Int} (h : laws_szStats.t some v0 v1 v2 = some b) : laws_szStats v0 v1 v2 = some b := tOf_intro laws_szStats.un (fun _ => by kernel_rfl) (vlim_fn (callT_le E tab) rfl rfl rfl ((laws_szStats.k v0 v1 v2).trans (laws_szStats.s v0 v1 v2 b h)))
noncomputable def laws_szIntS.t {γ : Type} (ret : (Int) → Option γ) (v0 : List Int) (v1 : Int) : Option γ :=
  bif Decidable.decide (Go.IntKind.i64.wrap (v1 - (↑v0.length : Int)) < (0 : Int)) then
    ret ((-1 : Int))
  else
    ret (Go.IntKind.i64.wrap (v1 - (↑v0.length : Int)))
theorem laws_szIntS.k (v0 : List Int) (v1 : Int) : topL E (callT E tab) 40 Try.f40 (laws_szIntS.c v0 v1) = laws_szIntS.t (fun b => some (laws_szIntS.mk b)) v0 v1 := by kernel_rfl
theorem laws_szIntS.s (v0 : List Int) (v1 : Int) : Sub laws_szIntS.mk (laws_szIntS.t some v0 v1) (laws_szIntS.t (fun b => some (laws_szIntS.mk b)) v0 v1) := by
  unfold laws_szIntS.t
  repeat' first | exact Sub.ret | exact Sub.none | exact Sub.loop | apply Sub.cond | (apply Sub.bind; intro _)
theorem laws_szIntS.eq (v0 : List Int) (v1 : Int) {b : Int} (h : laws_szIntS.t some v0 v1 = some b) : laws_szIntS v0 v1 = some b := tOf_intro laws_szIntS.un (fun _ => by kernel_rfl) (vlim_fn (callT_le E tab) rfl rfl rfl ((laws_szIntS.k v0 v1).trans (laws_szIntS.s v0 v1 b h)))
noncomputable def laws_szIntSS.q5 (v0 : List (List Int)) (v1 : Int) (v2 : Int) : Option R := loopAtL E (callT E tab) 41 Try.f41 2 [.r, .r, .r, .l, .r, .b] (vc (.d .fro (.sl (.sl (.int .i64))) v0) :: vc (iL v1) :: nn 3 (vc (iL v2) :: nn 21 ([])))
noncomputable def laws_szIntSS.l5 (v0 : List (List Int)) (v1 : Int) (v2 : Int) : Option (Int) := tOf laws_szIntSS.mk (laws_szIntSS.q5 v0 v1 v2)
noncomputable def laws_szIntSS.t {γ : Type} (ret : (Int) → Option γ) (lp5 : (List (List Int)) → Int → Int → Option γ) (v0 : List (List Int)) (v1 : Int) : Option γ :=
  bif Decidable.decide (Go.IntKind.i64.wrap (v1 - (↑v0.length : Int)) < (0 : Int)) then
    ret ((-1 : Int))
  else
    lp5 (v0) (Go.IntKind.i64.wrap (v1 - (↑v0.length : Int))) ((0 : Int))
noncomputable def laws_szIntSS.t5 {γ : Type} (ret : (Int) → Option γ) (lp5 : (List (List Int)) → Int → Int → Option γ) (v0 : List (List Int)) (v1 : Int) (v2 : Int) : Option γ :=
  bif Decidable.decide (v2 < (↑v0.length : Int)) then
    bif Decidable.decide ((0 : Int) ≤ v2) then
      bif Decidable.decide (v2.toNat < v0.length) then
        (laws_szIntS (v0.getD v2.toNat []) (v1)).bind fun (r0 : Int) =>
        bif Decidable.decide (r0 < (0 : Int)) then
          ret ((-1 : Int))
        else
          lp5 (v0) (r0) (Go.IntKind.i64.wrap (v2 + (1 : Int)))
      else
        none
    else
      none
  else
    ret (v1)
theorem laws_szIntSS.k (v0 : List (List Int)) (v1 : Int) : topL E (callT E tab) 41 Try.f41 (laws_szIntSS.c v0 v1) = laws_szIntSS.t (fun b => some (laws_szIntSS.mk b)) laws_szIntSS.q5 v0 v1 := by kernel_rfl
theorem laws_szIntSS.k5 (v0 : List (List Int)) (v1 : Int) (v2 : Int) : roundL E (callT E tab) 41 Try.f41 2 [.r, .r, .r, .l, .r, .b] (vc (.d .fro (.sl (.sl (.int .i64))) v0) :: vc (iL v1) :: nn 3 (vc (iL v2) :: nn 21 ([]))) = laws_szIntSS.t5 (fun b => some (laws_szIntSS.mk b)) laws_szIntSS.q5 v0 v1 v2 := by kernel_rfl
theorem laws_szIntSS.s (v0 : List (List Int)) (v1 : Int) : Sub laws_szIntSS.mk (laws_szIntSS.t some laws_szIntSS.l5 v0 v1) (laws_szIntSS.t (fun b => some (laws_szIntSS.mk b)) laws_szIntSS.q5 v0 v1) := by
  unfold laws_szIntSS.t
  repeat' first | exact Sub.ret | exact Sub.none | exact Sub.loop | apply Sub.cond | (apply Sub.bind; intro _)
theorem laws_szIntSS.eq (v0 : List (List Int)) (v1 : Int) {b : Int} (h : laws_szIntSS.t some laws_szIntSS.l5 v0 v1 = some b) : laws_szIntSS v0 v1 = some b := tOf_intro laws_szIntSS.un (fun _ => by kernel_rfl) (vlim_fn (callT_le E tab) rfl rfl rfl ((laws_szIntSS.k v0 v1).trans (laws_szIntSS.s v0 v1 b h)))
theorem laws_szIntSS.s5 (v0 : List (List Int)) (v1 : Int) (v2 : Int) : Sub laws_szIntSS.mk (laws_szIntSS.t5 some laws_szIntSS.l5 v0 v1 v2) (laws_szIntSS.t5 (fun b => some (laws_szIntSS.mk b)) laws_szIntSS.q5 v0 v1 v2) := by
  unfold laws_szIntSS.t5
  repeat' first | exact Sub.ret | exact Sub.none | exact Sub.loop | apply Sub.cond | (apply Sub.bind; intro _)
theorem laws_szIntSS.eq5 (v0 : List (List Int)) (v1 : Int) (v2 : Int) {b : Int} (h : laws_szIntSS.t5 some laws_szIntSS.l5 v0 v1 v2 = some b) : laws_szIntSS.l5 v0 v1 v2 = some b := tOf_intro laws_szIntSS.un (fun _ => by kernel_rfl) (loopAtL_step ((laws_szIntSS.k5 v0 v1 v2).trans (laws_szIntSS.s5 v0 v1 v2 b h)))
noncomputable def laws_toStats.t {γ : Type} (ret : ((List Int) × (List (List Int))) → Option γ) (v0 : List Int) (v1 : List (List Int)) : Option γ :=
  (laws_toIntS (v0)).bind fun (r0 : (List Int)) =>
  (laws_toIntSS (v1)).bind fun (r1 : (List (List Int))) =>
  ret (r0, r1)
theorem laws_toStats.k (v0 : List Int) (v1 : List (List Int)) : topL E (callT E tab) 11 Try.f11 (laws_toStats.c v0 v1) = laws_toStats.t (fun b => some (laws_toStats.mk b)) v0 v1 := by kernel_rfl
theorem laws_toStats.s (v0 : List Int) (v1 : List (List Int)) : Sub laws_toStats.mk (laws_toStats.t some v0 v1) (laws_toStats.t (fun b => some (laws_toStats.mk b)) v0 v1) := by
  unfold laws_toStats.t
  repeat' first | exact Sub.ret | exact Sub.none | exact Sub.loop | apply Sub.cond | (apply Sub.bind; intro _)
theorem laws_toStats.eq (v0 : List Int) (v1 : List (List Int)) {b : (List Int) × (List (List Int))} (h : laws_toStats.t some v0 v1 = some b) : laws_toStats v0 v1 = some b := tOf_intro laws_toStats.un (fun _ => by kernel_rfl) (vlim_fn (callT_le E tab) rfl rfl rfl ((laws_toStats.k v0 v1).trans (laws_toStats.s v0 v1 b h)))
noncomputable def laws_toIntS.q3 (v0 : List Int) (v1 : List Int) (v2 : Int) : Option R := loopAtL E (callT E tab) 12 Try.f12 1 [.r, .r, .l, .r, .b] (vc (.d .fro (.sl (.int .i64)) v0) :: nn 2 (vc (.d .deep (.sl (.int .i64)) v1) :: vc (iL v2) :: nn 17 ([])))
noncomputable def laws_toIntS.l3 (v0 : List Int) (v1 : List Int) (v2 : Int) : Option ((List Int)) := tOf laws_toIntS.mk (laws_toIntS.q3 v0 v1 v2)
noncomputable def laws_toIntS.t {γ : Type} (ret : ((List Int)) → Option γ) (lp3 : (List Int) → (List Int) → Int → Option γ) (v0 : List Int) : Option γ :=
  bif Decidable.decide ((↑v0.length : Int) = (↑v0.length : Int)) then
    bif Decidable.decide ((↑v0.length : Int) ≤ (↑(4294967296 : Nat) : Int)) then
      lp3 (v0) (List.replicate (↑v0.length : Int).toNat (0 : Int)) ((0 : Int))
    else
      none
  else
    none
noncomputable def laws_toIntS.t3 {γ : Type} (ret : ((List Int)) → Option γ) (lp3 : (List Int) → (List Int) → Int → Option γ) (v0 : List Int) (v1 : List Int) (v2 : Int) : Option γ :=
  bif Decidable.decide (v2 < (↑v0.length : Int)) then
    bif Decidable.decide ((0 : Int) ≤ v2) then
      bif Decidable.decide (v2.toNat < v0.length) then
        bif Decidable.decide ((0 : Int) ≤ v2) then
          bif Decidable.decide (v2.toNat < v1.length) then
            bif Decidable.decide (v2.toNat < v1.length) then
              lp3 (v0) (v1.set v2.toNat (v0.getD v2.toNat (0 : Int))) (Go.IntKind.i64.wrap (v2 + (1 : Int)))
            else
              none
          else
            none
        else
          none
      else
        none
    else
      none
  else
    ret (v1)
theorem laws_toIntS.k (v0 : List Int) : topL E (callT E tab) 12 Try.f12 (laws_toIntS.c v0) = laws_toIntS.t (fun b => some (laws_toIntS.mk b)) laws_toIntS.q3 v0 := by kernel_rfl
theorem laws_toIntS.k3 (v0 : List Int) (v1 : List Int) (v2 : Int) : roundL E (callT E tab) 12 Try.f12 1 [.r, .r, .l, .r, .b] (vc (.d .fro (.sl (.int .i64)) v0) :: nn 2 (vc (.d .deep (.sl (.int .i64)) v1) :: vc (iL v2) :: nn 17 ([]))) = laws_toIntS.t3 (fun b => some (laws_toIntS.mk b)) laws_toIntS.q3 v0 v1 v2 := by kernel_rfl
theorem laws_toIntS.s (v0 : List Int) : Sub laws_toIntS.mk (laws_toIntS.t some laws_toIntS.l3 v0) (laws_toIntS.t (fun b => some (laws_toIntS.mk b)) laws_toIntS.q3 v0) := by
  unfold laws_toIntS.t
  repeat' first | exact Sub.ret | exact Sub.none | exact Sub.loop | apply Sub.cond | (apply Sub.bind; intro _)
theorem laws_toIntS.eq (v0 : List Int) {b : (List Int)} (h : laws_toIntS.t some laws_toIntS.l3 v0 = some b) : laws_toIntS v0 = some b := tOf_intro laws_toIntS.un (fun _ => by kernel_rfl) (vlim_fn (callT_le E tab) rfl rfl rfl ((laws_toIntS.k v0).trans (laws_toIntS.s v0 b h)))
theorem laws_toIntS.s3 (v0 : List Int) (v1 : List Int) (v2 : Int) : Sub laws_toIntS.mk (laws_toIntS.t3 some laws_toIntS.l3 v0 v1 v2) (laws_toIntS.t3 (fun b => some (laws_toIntS.mk b)) laws_toIntS.q3 v0 v1 v2) := by
  unfold laws_toIntS.t3
  repeat' first | exact Sub.ret | exact Sub.none | exact Sub.loop | apply Sub.cond | (apply Sub.bind; intro _)
theorem laws_toIntS.eq3 (v0 : List Int) (v1 : List Int) (v2 : Int) {b : (List Int)} (h : laws_toIntS.t3 some laws_toIntS.l3 v0 v1 v2 = some b) : laws_toIntS.l3 v0 v1 v2 = some b := tOf_intro laws_toIntS.un (fun _ => by kernel_rfl) (loopAtL_step ((laws_toIntS.k3 v0 v1 v2).trans (laws_toIntS.s3 v0 v1 v2 b h)))
noncomputable def laws_toIntSS.q3 (v0 : List (List Int)) (v1 : List (List Int)) (v2 : Int) : Option R := loopAtL E (callT E tab) 45 Try.f45 1 [.r, .r, .l, .r, .b] (vc (.d .fro (.sl (.sl (.int .i64))) v0) :: nn 2 (vc (.d .deep (.sl (.sl (.int .i64))) v1) :: vc (iL v2) :: nn 18 ([])))
noncomputable def laws_toIntSS.l3 (v0 : List (List Int)) (v1 : List (List Int)) (v2 : Int) : Option ((List (List Int))) := tOf laws_toIntSS.mk (laws_toIntSS.q3 v0 v1 v2)
noncomputable def laws_toIntSS.t {γ : Type} (ret : ((List (List Int))) → Option γ) (lp3 : (List (List Int)) → (List (List Int)) → Int → Option γ) (v0 : List (List Int)) : Option γ :=
  bif Decidable.decide ((↑v0.length : Int) = (↑v0.length : Int)) then
    bif Decidable.decide ((↑v0.length : Int) ≤ (↑(4294967296 : Nat) : Int)) then
      lp3 (v0) (List.replicate (↑v0.length : Int).toNat []) ((0 : Int))
    else
      none
  else
    none
noncomputable def laws_toIntSS.t3 {γ : Type} (ret : ((List (List Int))) → Option γ) (lp3 : (List (List Int)) → (List (List Int)) → Int → Option γ) (v0 : List (List Int)) (v1 : List (List Int)) (v2 : Int) : Option γ :=
  bif Decidable.decide (v2 < (↑v0.length : Int)) then
    bif Decidable.decide ((0 : Int) ≤ v2) then
      bif Decidable.decide (v2.toNat < v0.length) then
        (laws_toIntS (v0.getD v2.toNat [])).bind fun (r0 : (List Int)) =>
        bif Decidable.decide ((0 : Int) ≤ v2) then
          bif Decidable.decide (v2.toNat < v1.length) then
            bif Decidable.decide (v2.toNat < v1.length) then
              lp3 (v0) (v1.set v2.toNat r0) (Go.IntKind.i64.wrap (v2 + (1 : Int)))
            else
              none
          else
            none
        else
          none
      else
        none
    else
      none
  else
    ret (v1)
theorem laws_toIntSS.k (v0 : List (List Int)) : topL E (callT E tab) 45 Try.f45 (laws_toIntSS.c v0) = laws_toIntSS.t (fun b => some (laws_toIntSS.mk b)) laws_toIntSS.q3 v0 := by kernel_rfl
theorem laws_toIntSS.k3 (v0 : List (List Int)) (v1 : List (List Int)) (v2 : Int) : roundL E (callT E tab) 45 Try.f45 1 [.r, .r, .l, .r, .b] (vc (.d .fro (.sl (.sl (.int .i64))) v0) :: nn 2 (vc (.d .deep (.sl (.sl (.int .i64))) v1) :: vc (iL v2) :: nn 18 ([]))) = laws_toIntSS.t3 (fun b => some (laws_toIntSS.mk b)) laws_toIntSS.q3 v0 v1 v2 := by kernel_rfl
theorem laws_toIntSS.s (v0 : List (List Int)) : Sub laws_toIntSS.mk (laws_toIntSS.t some laws_toIntSS.l3 v0) (laws_toIntSS.t (fun b => some (laws_toIntSS.mk b)) laws_toIntSS.q3 v0) := by
  unfold laws_toIntSS.t
  repeat' first | exact Sub.ret | exact Sub.none | exact Sub.loop | apply Sub.cond | (apply Sub.bind; intro _)
theorem laws_toIntSS.eq (v0 : List (List Int)) {b : (List (List Int))} (h : laws_toIntSS.t some laws_toIntSS.l3 v0 = some b) : laws_toIntSS v0 = some b := tOf_intro laws_toIntSS.un (fun _ => by kernel_rfl) (vlim_fn (callT_le E tab) rfl rfl rfl ((laws_toIntSS.k v0).trans (laws_toIntSS.s v0 b h)))
theorem laws_toIntSS.s3 (v0 : List (List Int)) (v1 : List (List Int)) (v2 : Int) : Sub laws_toIntSS.mk (laws_toIntSS.t3 some laws_toIntSS.l3 v0 v1 v2) (laws_toIntSS.t3 (fun b => some (laws_toIntSS.mk b)) laws_toIntSS.q3 v0 v1 v2) := by
  unfold laws_toIntSS.t3
  repeat' first | exact Sub.ret | exact Sub.none | exact Sub.loop | apply Sub.cond | (apply Sub.bind; intro _)
theorem laws_toIntSS.eq3 (v0 : List (List Int)) (v1 : List (List Int)) (v2 : Int) {b : (List (List Int))} (h : laws_toIntSS.t3 some laws_toIntSS.l3 v0 v1 v2 = some b) : laws_toIntSS.l3 v0 v1 v2 = some b := tOf_intro laws_toIntSS.un (fun _ => by kernel_rfl) (loopAtL_step ((laws_toIntSS.k3 v0 v1 v2).trans (laws_toIntSS.s3 v0 v1 v2 b h)))
noncomputable def spec_GoodStats.q9 (v0 : List Int) (v1 : List (List Int)) (v2 : List Int) (v3 : Int) (v4 : Int) (v5 : List Int) (v6 : Int) (v7 : Int) : Option R := loopAtL E (callT E tab) 42 Try.f42 1 [.r, .r, .l, .r, .b, .o, .r, .r, .l, .b, .r, .r, .r, .b] (nn 1 (⟨(.box false), [.d .fro (.sl (.int .i64)) v0, .d .fro (.sl (.sl (.int .i64))) v1], false, false, false, 0, 0⟩ :: nn 20 (vc (.d .fro (.sl (.int .i64)) v2) :: vc (iL v3) :: vc (iL v4) :: nn 21 (vc (.d .fro (.sl (.int .i64)) v5) :: vc (iL v6) :: vc (iL v7) :: nn 8 ([])))))
noncomputable def spec_GoodStats.l9 (v0 : List Int) (v1 : List (List Int)) (v2 : List Int) (v3 : Int) (v4 : Int) (v5 : List Int) (v6 : Int) (v7 : Int) : Option (Bool) := tOf spec_GoodStats.mk (spec_GoodStats.q9 v0 v1 v2 v3 v4 v5 v6 v7)
noncomputable def spec_GoodStats.q4 (v0 : List Int) (v1 : List (List Int)) (v2 : List Int) (v3 : Int) (v4 : Int) : Option R := loopAtL E (callT E tab) 42 Try.f42 1 [.r, .r, .l, .r, .b] (nn 1 (⟨(.box false), [.d .fro (.sl (.int .i64)) v0, .d .fro (.sl (.sl (.int .i64))) v1], false, false, false, 0, 0⟩ :: nn 20 (vc (.d .fro (.sl (.int .i64)) v2) :: vc (iL v3) :: vc (iL v4) :: nn 32 ([]))))
noncomputable def spec_GoodStats.l4 (v0 : List Int) (v1 : List (List Int)) (v2 : List Int) (v3 : Int) (v4 : Int) : Option (Bool) := tOf spec_GoodStats.mk (spec_GoodStats.q4 v0 v1 v2 v3 v4)
noncomputable def spec_GoodStats.t {γ : Type} (ret : (Bool) → Option γ) (lp9 : (List Int) → (List (List Int)) → (List Int) → Int → Int → (List Int) → Int → Int → Option γ) (lp4 : (List Int) → (List (List Int)) → (List Int) → Int → Int → Option γ) (v0 : List Int) (v1 : List (List Int)) : Option γ :=
  (spec_l1In ((↑v0.length : Int)) ((1 : Int)) ((6 : Int))).bind fun (r0 : Bool) =>
  bif !r0 then
    ret (Bool.false)
  else
    bif (↑v1.length : Int) != (↑v0.length : Int) then
      ret (Bool.false)
    else
      lp4 (v0) (v1) (v0) ((↑v0.length : Int)) ((0 : Int))
noncomputable def spec_GoodStats.t9 {γ : Type} (ret : (Bool) → Option γ) (lp9 : (List Int) → (List (List Int)) → (List Int) → Int → Int → (List Int) → Int → Int → Option γ) (lp4 : (List Int) → (List (List Int)) → (List Int) → Int → Int → Option γ) (v0 : List Int) (v1 : List (List Int)) (v2 : List Int) (v3 : Int) (v4 : Int) (v5 : List Int) (v6 : Int) (v7 : Int) : Option γ :=
  bif Decidable.decide (v7 < v6) then
    bif Decidable.decide ((0 : Int) ≤ v7) then
      bif Decidable.decide (v7.toNat < v5.length) then
        (spec_l1In (v5.getD v7.toNat (0 : Int)) ((1 : Int)) ((10 : Int))).bind fun (r2 : Bool) =>
        bif !r2 then
          ret (Bool.false)
        else
          lp9 (v0) (v1) (v2) (v3) (v4) (v5) (v6) (Go.IntKind.i64.wrap (v7 + (1 : Int)))
      else
        none
    else
      none
  else
    lp4 (v0) (v1) (v2) (v3) (Go.IntKind.i64.wrap (v4 + (1 : Int)))
noncomputable def spec_GoodStats.t4 {γ : Type} (ret : (Bool) → Option γ) (lp9 : (List Int) → (List (List Int)) → (List Int) → Int → Int → (List Int) → Int → Int → Option γ) (lp4 : (List Int) → (List (List Int)) → (List Int) → Int → Int → Option γ) (v0 : List Int) (v1 : List (List Int)) (v2 : List Int) (v3 : Int) (v4 : Int) : Option γ :=
  bif Decidable.decide (v4 < v3) then
    bif Decidable.decide ((0 : Int) ≤ v4) then
      bif Decidable.decide (v4.toNat < v2.length) then
        (spec_l1In (v2.getD v4.toNat (0 : Int)) ((1 : Int)) ((50 : Int))).bind fun (r1 : Bool) =>
        bif !r1 then
          ret (Bool.false)
        else
          bif Decidable.decide ((0 : Int) ≤ v4) then
            bif Decidable.decide (v4.toNat < v1.length) then
              bif (↑(v1.getD v4.toNat []).length : Int) != v4 then
                ret (Bool.false)
              else
                bif Decidable.decide ((0 : Int) ≤ v4) then
                  bif Decidable.decide (v4.toNat < v1.length) then
                    lp9 (v0) (v1) (v2) (v3) (v4) (v1.getD v4.toNat []) ((↑(v1.getD v4.toNat []).length : Int)) ((0 : Int))
                  else
                    none
                else
                  none
            else
              none
          else
            none
      else
        none
    else
      none
  else
    ret (Bool.true)
theorem spec_GoodStats.k (v0 : List Int) (v1 : List (List Int)) : topL E (callT E tab) 42 Try.f42 (spec_GoodStats.c v0 v1) = spec_GoodStats.t (fun b => some (spec_GoodStats.mk b)) spec_GoodStats.q9 spec_GoodStats.q4 v0 v1 := by kernel_rfl
theorem spec_GoodStats.k9 (v0 : List Int) (v1 : List (List Int)) (v2 : List Int) (v3 : Int) (v4 : Int) (v5 : List Int) (v6 : Int) (v7 : Int) : roundL E (callT E tab) 42 Try.f42 1 [.r, .r, .l, .r, .b, .o, .r, .r, .l, .b, .r, .r, .r, .b] (nn 1 (⟨(.box false), [.d .fro (.sl (.int .i64)) v0, .d .fro (.sl (.sl (.int .i64))) v1], false, false, false, 0, 0⟩ :: nn 20 (vc (.d .fro (.sl (.int .i64)) v2) :: vc (iL v3) :: vc (iL v4) :: nn 21 (vc (.d .fro (.sl (.int .i64)) v5) :: vc (iL v6) :: vc (iL v7) :: nn 8 ([]))))) = spec_GoodStats.t9 (fun b => some (spec_GoodStats.mk b)) spec_GoodStats.q9 spec_GoodStats.q4 v0 v1 v2 v3 v4 v5 v6 v7 := by kernel_rfl
theorem spec_GoodStats.k4 (v0 : List Int) (v1 : List (List Int)) (v2 : List Int) (v3 : Int) (v4 : Int) : roundL E (callT E tab) 42 Try.f42 1 [.r, .r, .l, .r, .b] (nn 1 (⟨(.box false), [.d .fro (.sl (.int .i64)) v0, .d .fro (.sl (.sl (.int .i64))) v1], false, false, false, 0, 0⟩ :: nn 20 (vc (.d .fro (.sl (.int .i64)) v2) :: vc (iL v3) :: vc (iL v4) :: nn 32 ([])))) = spec_GoodStats.t4 (fun b => some (spec_GoodStats.mk b)) spec_GoodStats.q9 spec_GoodStats.q4 v0 v1 v2 v3 v4 := by kernel_rfl
theorem spec_GoodStats.s (v0 : List Int) (v1 : List (List Int)) : Sub spec_GoodStats.mk (spec_GoodStats.t some spec_GoodStats.l9 spec_GoodStats.l4 v0 v1) (spec_GoodStats.t (fun b => some (spec_GoodStats.mk b)) spec_GoodStats.q9 spec_GoodStats.q4 v0 v1) := by
  unfold spec_GoodStats.t
  repeat' first | exact Sub.ret | exact Sub.none | exact Sub.loop | apply Sub.cond | (apply Sub.bind; intro _)
theorem spec_GoodStats.eq (v0 : List Int) (v1 : List (List Int)) {b : Bool} (h : spec_GoodStats.t some spec_GoodStats.l9 spec_GoodStats.l4 v0 v1 = some b) : spec_GoodStats v0 v1 = some b := tOf_intro spec_GoodStats.un (fun _ => by kernel_rfl) (vlim_fn (callT_le E tab) rfl rfl rfl ((spec_GoodStats.k v0 v1).trans (spec_GoodStats.s v0 v1 b h)))
theorem spec_GoodStats.s9 (v0 : List Int) (v1 : List (List Int)) (v2 : List Int) (v3 : Int) (v4 : Int) (v5 : List Int) (v6 : Int) (v7 : Int) : Sub spec_GoodStats.mk (spec_GoodStats.t9 some spec_GoodStats.l9 spec_GoodStats.l4 v0 v1 v2 v3 v4 v5 v6 v7) (spec_GoodStats.t9 (fun b => some (spec_GoodStats.mk b)) spec_GoodStats.q9 spec_GoodStats.q4 v0 v1 v2 v3 v4 v5 v6 v7) := by
  unfold spec_GoodStats.t9
  repeat' first | exact Sub.ret | exact Sub.none | exact Sub.loop | apply Sub.cond | (apply Sub.bind; intro _)
theorem spec_GoodStats.eq9 (v0 : List Int) (v1 : List (List Int)) (v2 : List Int) (v3 : Int) (v4 : Int) (v5 : List Int) (v6 : Int) (v7 : Int) {b : Bool} (h : spec_GoodStats.t9 some spec_GoodStats.l9 spec_GoodStats.l4 v0 v1 v2 v3 v4 v5 v6 v7 = some b) : spec_GoodStats.l9 v0 v1 v2 v3 v4 v5 v6 v7 = some b := tOf_intro spec_GoodStats.un (fun _ => by kernel_rfl) (loopAtL_step ((spec_GoodStats.k9 v0 v1 v2 v3 v4 v5 v6 v7).trans (spec_GoodStats.s9 v0 v1 v2 v3 v4 v5 v6 v7 b h)))
theorem spec_GoodStats.s4 (v0 : List Int) (v1 : List (List Int)) (v2 : List Int) (v3 : Int) (v4 : Int) : Sub spec_GoodStats.mk (spec_GoodStats.t4 some spec_GoodStats.l9 spec_GoodStats.l4 v0 v1 v2 v3 v4) (spec_GoodStats.t4 (fun b => some (spec_GoodStats.mk b)) spec_GoodStats.q9 spec_GoodStats.q4 v0 v1 v2 v3 v4) := by
  unfold spec_GoodStats.t4
  repeat' first | exact Sub.ret | exact Sub.none | exact Sub.loop | apply Sub.cond | (apply Sub.bind; intro _)
theorem spec_GoodStats.eq4 (v0 : List Int) (v1 : List (List Int)) (v2 : List Int) (v3 : Int) (v4 : Int) {b : Bool} (h : spec_GoodStats.t4 some spec_GoodStats.l9 spec_GoodStats.l4 v0 v1 v2 v3 v4 = some b) : spec_GoodStats.l4 v0 v1 v2 v3 v4 = some b := tOf_intro spec_GoodStats.un (fun _ => by kernel_rfl) (loopAtL_step ((spec_GoodStats.k4 v0 v1 v2 v3 v4).trans (spec_GoodStats.s4 v0 v1 v2 v3 v4 b h)))
noncomputable def spec_l1In.t {γ : Type} (ret : (Bool) → Option γ) (v0 : Int) (v1 : Int) (v2 : Int) : Option γ :=
  bif Decidable.decide (v0 ≥ v1) then
    ret (Decidable.decide (v0 ≤ v2))
  else
    ret (Bool.false)
theorem spec_l1In.k (v0 : Int) (v1 : Int) (v2 : Int) : topL E (callT E tab) 69 Try.f69 (spec_l1In.c v0 v1 v2) = spec_l1In.t (fun b => some (spec_l1In.mk b)) v0 v1 v2 := by kernel_rfl
theorem spec_l1In.s (v0 : Int) (v1 : Int) (v2 : Int) : Sub spec_l1In.mk (spec_l1In.t some v0 v1 v2) (spec_l1In.t (fun b => some (spec_l1In.mk b)) v0 v1 v2) := by
  unfold spec_l1In.t
  repeat' first | exact Sub.ret | exact Sub.none | exact Sub.loop | apply Sub.cond | (apply Sub.bind; intro _)
theorem spec_l1In.eq (v0 : Int) (v1 : Int) (v2 : Int) {b : Bool} (h : spec_l1In.t some v0 v1 v2 = some b) : spec_l1In v0 v1 v2 = some b := tOf_intro spec_l1In.un (fun _ => by kernel_rfl) (vlim_fn (callT_le E tab) rfl rfl rfl ((spec_l1In.k v0 v1 v2).trans (spec_l1In.s v0 v1 v2 b h)))
noncomputable def spec_l12Size.q8 (v0 : List Int) (v1 : List Int) (v2 : List (List Int)) (v3 : Int) (v4 : Int) (v5 : Int) (v6 : List Int) (v7 : Int) (v8 : Int) (v9 : List Int) (v10 : Int) (v11 : Int) : Option R := loopAtL E (callT E tab) 44 Try.f44 2 [.r, .r, .r, .l, .r, .b, .o, .r, .r, .l, .b, .r, .r, .r, .b] (nn 1 (vc (.d .fro (.sl (.int .i64)) v0) :: ⟨(.box false), [.d .fro (.sl (.int .i64)) v1, .d .fro (.sl (.sl (.int .i64))) v2], false, false, false, 0, 0⟩ :: nn 2 (vc (iL v3) :: vc (iL v4) :: nn 1 (vc (iL v5) :: nn 2 (vc (.d .fro (.sl (.int .i64)) v6) :: vc (iL v7) :: vc (iL v8) :: nn 13 (vc (.d .fro (.sl (.int .i64)) v9) :: vc (iL v10) :: vc (iL v11) :: nn 18 ([])))))))
noncomputable def spec_l12Size.l8 (v0 : List Int) (v1 : List Int) (v2 : List (List Int)) (v3 : Int) (v4 : Int) (v5 : Int) (v6 : List Int) (v7 : Int) (v8 : Int) (v9 : List Int) (v10 : Int) (v11 : Int) : Option (Int) := tOf spec_l12Size.mk (spec_l12Size.q8 v0 v1 v2 v3 v4 v5 v6 v7 v8 v9 v10 v11)
noncomputable def spec_l12Size.q4 (v0 : List Int) (v1 : List Int) (v2 : List (List Int)) (v3 : Int) (v4 : Int) (v5 : List Int) (v6 : Int) (v7 : Int) : Option R := loopAtL E (callT E tab) 44 Try.f44 2 [.r, .r, .r, .l, .r, .b] (nn 1 (vc (.d .fro (.sl (.int .i64)) v0) :: ⟨(.box false), [.d .fro (.sl (.int .i64)) v1, .d .fro (.sl (.sl (.int .i64))) v2], false, false, false, 0, 0⟩ :: nn 2 (vc (iL v3) :: vc (iL v4) :: nn 4 (vc (.d .fro (.sl (.int .i64)) v5) :: vc (iL v6) :: vc (iL v7) :: nn 34 ([])))))
noncomputable def spec_l12Size.l4 (v0 : List Int) (v1 : List Int) (v2 : List (List Int)) (v3 : Int) (v4 : Int) (v5 : List Int) (v6 : Int) (v7 : Int) : Option (Int) := tOf spec_l12Size.mk (spec_l12Size.q4 v0 v1 v2 v3 v4 v5 v6 v7)
noncomputable def spec_l12Size.t {γ : Type} (ret : (Int) → Option γ) (lp8 : (List Int) → (List Int) → (List (List Int)) → Int → Int → Int → (List Int) → Int → Int → (List Int) → Int → Int → Option γ) (lp4 : (List Int) → (List Int) → (List (List Int)) → Int → Int → (List Int) → Int → Int → Option γ) (v0 : List Int) (v1 : List (List Int)) (v2 : List Int) : Option γ :=
  lp4 (v2) (v0) (v1) ((1 : Int)) ((1 : Int)) (v2) ((↑v2.length : Int)) ((0 : Int))
noncomputable def spec_l12Size.t8 {γ : Type} (ret : (Int) → Option γ) (lp8 : (List Int) → (List Int) → (List (List Int)) → Int → Int → Int → (List Int) → Int → Int → (List Int) → Int → Int → Option γ) (lp4 : (List Int) → (List Int) → (List (List Int)) → Int → Int → (List Int) → Int → Int → Option γ) (v0 : List Int) (v1 : List Int) (v2 : List (List Int)) (v3 : Int) (v4 : Int) (v5 : Int) (v6 : List Int) (v7 : Int) (v8 : Int) (v9 : List Int) (v10 : Int) (v11 : Int) : Option γ :=
  bif Decidable.decide (v11 < v10) then
    bif Decidable.decide ((0 : Int) ≤ v11) then
      bif Decidable.decide (v11.toNat < v9.length) then
        bif Decidable.decide ((0 : Int) ≤ v5) then
          bif Decidable.decide (v5.toNat < v2.length) then
            bif Decidable.decide ((0 : Int) ≤ v9.getD v11.toNat (0 : Int)) then
              bif Decidable.decide ((v9.getD v11.toNat (0 : Int)).toNat < (v2.getD v5.toNat []).length) then
                lp8 (v0) (v1) (v2) (v3) (Go.IntKind.i64.wrap (v4 * (v2.getD v5.toNat []).getD (v9.getD v11.toNat (0 : Int)).toNat (0 : Int))) (v5) (v6) (v7) (v8) (v9) (v10) (Go.IntKind.i64.wrap (v11 + (1 : Int)))
              else
                none
            else
              none
          else
            none
        else
          none
      else
        none
    else
      none
  else
    lp4 (v0) (v1) (v2) (v3) (v4) (v6) (v7) (Go.IntKind.i64.wrap (v8 + (1 : Int)))
noncomputable def spec_l12Size.t4 {γ : Type} (ret : (Int) → Option γ) (lp8 : (List Int) → (List Int) → (List (List Int)) → Int → Int → Int → (List Int) → Int → Int → (List Int) → Int → Int → Option γ) (lp4 : (List Int) → (List Int) → (List (List Int)) → Int → Int → (List Int) → Int → Int → Option γ) (v0 : List Int) (v1 : List Int) (v2 : List (List Int)) (v3 : Int) (v4 : Int) (v5 : List Int) (v6 : Int) (v7 : Int) : Option γ :=
  bif Decidable.decide (v7 < v6) then
    bif Decidable.decide ((0 : Int) ≤ v7) then
      bif Decidable.decide (v7.toNat < v5.length) then
        bif Decidable.decide ((0 : Int) ≤ v5.getD v7.toNat (0 : Int)) then
          bif Decidable.decide ((v5.getD v7.toNat (0 : Int)).toNat < v1.length) then
            bif Decidable.decide (Option.none.getD (0 : Int) ≤ v7) then
              bif Decidable.decide (v7 ≤ (↑v0.length : Int)) then
                lp8 (v0) (v1) (v2) (Go.IntKind.i64.wrap (v3 * v1.getD (v5.getD v7.toNat (0 : Int)).toNat (0 : Int))) (v4) (v5.getD v7.toNat (0 : Int)) (v5) (v6) (v7) (List.take (v7 - Option.none.getD (0 : Int)).toNat (List.drop (Option.none.getD (0 : Int)).toNat v0)) ((↑(List.take (v7 - Option.none.getD (0 : Int)).toNat (List.drop (Option.none.getD (0 : Int)).toNat v0)).length : Int)) ((0 : Int))
              else
                none
            else
              none
          else
            none
        else
          none
      else
        none
    else
      none
  else
    bif Decidable.decide (v4 ≠ (0 : Int)) then
      ret (Go.IntKind.i64.wrap (v3.tdiv v4))
    else
      none
theorem spec_l12Size.k (v0 : List Int) (v1 : List (List Int)) (v2 : List Int) : topL E (callT E tab) 44 Try.f44 (spec_l12Size.c v0 v1 v2) = spec_l12Size.t (fun b => some (spec_l12Size.mk b)) spec_l12Size.q8 spec_l12Size.q4 v0 v1 v2 := by kernel_rfl
theorem spec_l12Size.k8 (v0 : List Int) (v1 : List Int) (v2 : List (List Int)) (v3 : Int) (v4 : Int) (v5 : Int) (v6 : List Int) (v7 : Int) (v8 : Int) (v9 : List Int) (v10 : Int) (v11 : Int) : roundL E (callT E tab) 44 Try.f44 2 [.r, .r, .r, .l, .r, .b, .o, .r, .r, .l, .b, .r, .r, .r, .b] (nn 1 (vc (.d .fro (.sl (.int .i64)) v0) :: ⟨(.box false), [.d .fro (.sl (.int .i64)) v1, .d .fro (.sl (.sl (.int .i64))) v2], false, false, false, 0, 0⟩ :: nn 2 (vc (iL v3) :: vc (iL v4) :: nn 1 (vc (iL v5) :: nn 2 (vc (.d .fro (.sl (.int .i64)) v6) :: vc (iL v7) :: vc (iL v8) :: nn 13 (vc (.d .fro (.sl (.int .i64)) v9) :: vc (iL v10) :: vc (iL v11) :: nn 18 ([]))))))) = spec_l12Size.t8 (fun b => some (spec_l12Size.mk b)) spec_l12Size.q8 spec_l12Size.q4 v0 v1 v2 v3 v4 v5 v6 v7 v8 v9 v10 v11 := by kernel_rfl
theorem spec_l12Size.k4 (v0 : List Int) (v1 : List Int) (v2 : List (List Int)) (v3 : Int) (v4 : Int) (v5 : List Int) (v6 : Int) (v7 : Int) : roundL E (callT E tab) 44 Try.f44 2 [.r, .r, .r, .l, .r, .b] (nn 1 (vc (.d .fro (.sl (.int .i64)) v0) :: ⟨(.box false), [.d .fro (.sl (.int .i64)) v1, .d .fro (.sl (.sl (.int .i64))) v2], false, false, false, 0, 0⟩ :: nn 2 (vc (iL v3) :: vc (iL v4) :: nn 4 (vc (.d .fro (.sl (.int .i64)) v5) :: vc (iL v6) :: vc (iL v7) :: nn 34 ([]))))) = spec_l12Size.t4 (fun b => some (spec_l12Size.mk b)) spec_l12Size.q8 spec_l12Size.q4 v0 v1 v2 v3 v4 v5 v6 v7 := by kernel_rfl
theorem spec_l12Size.s (v0 : List Int) (v1 : List (List Int)) (v2 : List Int) : Sub spec_l12Size.mk (spec_l12Size.t some spec_l12Size.l8 spec_l12Size.l4 v0 v1 v2) (spec_l12Size.t (fun b => some (spec_l12Size.mk b)) spec_l12Size.q8 spec_l12Size.q4 v0 v1 v2) := by
  unfold spec_l12Size.t
  repeat' first | exact Sub.ret | exact Sub.none | exact Sub.loop | apply Sub.cond | (apply Sub.bind; intro _)
theorem spec_l12Size.eq (v0 : List Int) (v1 : List (List Int)) (v2 : List Int) {b : Int} (h : spec_l12Size.t some spec_l12Size.l8 spec_l12Size.l4 v0 v1 v2 = some b) : spec_l12Size v0 v1 v2 = some b := tOf_intro spec_l12Size.un (fun _ => by kernel_rfl) (vlim_fn (callT_le E tab) rfl rfl rfl ((spec_l12Size.k v0 v1 v2).trans (spec_l12Size.s v0 v1 v2 b h)))
theorem spec_l12Size.s8 (v0 : List Int) (v1 : List Int) (v2 : List (List Int)) (v3 : Int) (v4 : Int) (v5 : Int) (v6 : List Int) (v7 : Int) (v8 : Int) (v9 : List Int) (v10 : Int) (v11 : Int) : Sub spec_l12Size.mk (spec_l12Size.t8 some spec_l12Size.l8 spec_l12Size.l4 v0 v1 v2 v3 v4 v5 v6 v7 v8 v9 v10 v11) (spec_l12Size.t8 (fun b => some (spec_l12Size.mk b)) spec_l12Size.q8 spec_l12Size.q4 v0 v1 v2 v3 v4 v5 v6 v7 v8 v9 v10 v11) := by
  unfold spec_l12Size.t8
  repeat' first | exact Sub.ret | exact Sub.none | exact Sub.loop | apply Sub.cond | (apply Sub.bind; intro _)
theorem spec_l12Size.eq8 (v0 : List Int) (v1 : List Int) (v2 : List (List Int)) (v3 : Int) (v4 : Int) (v5 : Int) (v6 : List Int) (v7 : Int) (v8 : Int) (v9 : List Int) (v10 : Int) (v11 : Int) {b : Int} (h : spec_l12Size.t8 some spec_l12Size.l8 spec_l12Size.l4 v0 v1 v2 v3 v4 v5 v6 v7 v8 v9 v10 v11 = some b) : spec_l12Size.l8 v0 v1 v2 v3 v4 v5 v6 v7 v8 v9 v10 v11 = some b := tOf_intro spec_l12Size.un (fun _ => by kernel_rfl) (loopAtL_step ((spec_l12Size.k8 v0 v1 v2 v3 v4 v5 v6 v7 v8 v9 v10 v11).trans (spec_l12Size.s8 v0 v1 v2 v3 v4 v5 v6 v7 v8 v9 v10 v11 b h)))
theorem spec_l12Size.s4 (v0 : List Int) (v1 : List Int) (v2 : List (List Int)) (v3 : Int) (v4 : Int) (v5 : List Int) (v6 : Int) (v7 : Int) : Sub spec_l12Size.mk (spec_l12Size.t4 some spec_l12Size.l8 spec_l12Size.l4 v0 v1 v2 v3 v4 v5 v6 v7) (spec_l12Size.t4 (fun b => some (spec_l12Size.mk b)) spec_l12Size.q8 spec_l12Size.q4 v0 v1 v2 v3 v4 v5 v6 v7) := by
  unfold spec_l12Size.t4
  repeat' first | exact Sub.ret | exact Sub.none | exact Sub.loop | apply Sub.cond | (apply Sub.bind; intro _)
theorem spec_l12Size.eq4 (v0 : List Int) (v1 : List Int) (v2 : List (List Int)) (v3 : Int) (v4 : Int) (v5 : List Int) (v6 : Int) (v7 : Int) {b : Int} (h : spec_l12Size.t4 some spec_l12Size.l8 spec_l12Size.l4 v0 v1 v2 v3 v4 v5 v6 v7 = some b) : spec_l12Size.l4 v0 v1 v2 v3 v4 v5 v6 v7 = some b := tOf_intro spec_l12Size.un (fun _ => by kernel_rfl) (loopAtL_step ((spec_l12Size.k4 v0 v1 v2 v3 v4 v5 v6 v7).trans (spec_l12Size.s4 v0 v1 v2 v3 v4 v5 v6 v7 b h)))
noncomputable def impl_GoodStats.q4 (v0 : List (List Int)) (v1 : Int) (v2 : Int) : Option R := loopAtL E (callT E tab) 46 Try.f46 1 [.r, .r, .l, .r, .b] (nn 26 (vc (.d .fro (.sl (.sl (.int .i64))) v0) :: vc (iL v1) :: vc (iL v2) :: nn 14 ([])))
noncomputable def impl_GoodStats.l4 (v0 : List (List Int)) (v1 : Int) (v2 : Int) : Option (Bool) := tOf impl_GoodStats.mk (impl_GoodStats.q4 v0 v1 v2)
noncomputable def impl_GoodStats.t {γ : Type} (ret : (Bool) → Option γ) (lp4 : (List (List Int)) → Int → Int → Option γ) (v0 : List Int) (v1 : List (List Int)) : Option γ :=
  (impl_within ((↑v0.length : Int)) ((1 : Int)) ((6 : Int))).bind fun (r0 : Bool) =>
  bif !r0 then
    ret (Bool.false)
  else
    bif (↑v1.length : Int) != (↑v0.length : Int) then
      ret (Bool.false)
    else
      (impl_areAll_int_impl_GoodStats_1 (v0)).bind fun (r1 : Bool) =>
      bif !r1 then
        ret (Bool.false)
      else
        lp4 (v1) ((↑v1.length : Int)) ((0 : Int))
noncomputable def impl_GoodStats.t4 {γ : Type} (ret : (Bool) → Option γ) (lp4 : (List (List Int)) → Int → Int → Option γ) (v0 : List (List Int)) (v1 : Int) (v2 : Int) : Option γ :=
  bif Decidable.decide (v2 < v1) then
    bif Decidable.decide ((0 : Int) ≤ v2) then
      bif Decidable.decide (v2.toNat < v0.length) then
        bif (↑(v0.getD v2.toNat []).length : Int) != v2 then
          ret (Bool.false)
        else
          (impl_areAll_int_impl_GoodStats_2 (v0.getD v2.toNat [])).bind fun (r2 : Bool) =>
          bif !r2 then
            ret (Bool.false)
          else
            lp4 (v0) (v1) (Go.IntKind.i64.wrap (v2 + (1 : Int)))
      else
        none
    else
      none
  else
    ret (Bool.true)
theorem impl_GoodStats.k (v0 : List Int) (v1 : List (List Int)) : topL E (callT E tab) 46 Try.f46 (impl_GoodStats.c v0 v1) = impl_GoodStats.t (fun b => some (impl_GoodStats.mk b)) impl_GoodStats.q4 v0 v1 := by kernel_rfl
theorem impl_GoodStats.k4 (v0 : List (List Int)) (v1 : Int) (v2 : Int) : roundL E (callT E tab) 46 Try.f46 1 [.r, .r, .l, .r, .b] (nn 26 (vc (.d .fro (.sl (.sl (.int .i64))) v0) :: vc (iL v1) :: vc (iL v2) :: nn 14 ([]))) = impl_GoodStats.t4 (fun b => some (impl_GoodStats.mk b)) impl_GoodStats.q4 v0 v1 v2 := by kernel_rfl
theorem impl_GoodStats.s (v0 : List Int) (v1 : List (List Int)) : Sub impl_GoodStats.mk (impl_GoodStats.t some impl_GoodStats.l4 v0 v1) (impl_GoodStats.t (fun b => some (impl_GoodStats.mk b)) impl_GoodStats.q4 v0 v1) := by
  unfold impl_GoodStats.t
  repeat' first | exact Sub.ret | exact Sub.none | exact Sub.loop | apply Sub.cond | (apply Sub.bind; intro _)
theorem impl_GoodStats.eq (v0 : List Int) (v1 : List (List Int)) {b : Bool} (h : impl_GoodStats.t some impl_GoodStats.l4 v0 v1 = some b) : impl_GoodStats v0 v1 = some b := tOf_intro impl_GoodStats.un (fun _ => by kernel_rfl) (vlim_fn (callT_le E tab) rfl rfl rfl ((impl_GoodStats.k v0 v1).trans (impl_GoodStats.s v0 v1 b h)))
theorem impl_GoodStats.s4 (v0 : List (List Int)) (v1 : Int) (v2 : Int) : Sub impl_GoodStats.mk (impl_GoodStats.t4 some impl_GoodStats.l4 v0 v1 v2) (impl_GoodStats.t4 (fun b => some (impl_GoodStats.mk b)) impl_GoodStats.q4 v0 v1 v2) := by
  unfold impl_GoodStats.t4
  repeat' first | exact Sub.ret | exact Sub.none | exact Sub.loop | apply Sub.cond | (apply Sub.bind; intro _)
theorem impl_GoodStats.eq4 (v0 : List (List Int)) (v1 : Int) (v2 : Int) {b : Bool} (h : impl_GoodStats.t4 some impl_GoodStats.l4 v0 v1 v2 = some b) : impl_GoodStats.l4 v0 v1 v2 = some b := tOf_intro impl_GoodStats.un (fun _ => by kernel_rfl) (loopAtL_step ((impl_GoodStats.k4 v0 v1 v2).trans (impl_GoodStats.s4 v0 v1 v2 b h)))
noncomputable def impl_within.t {γ : Type} (ret : (Bool) → Option γ) (v0 : Int) (v1 : Int) (v2 : Int) : Option γ :=
  bif Decidable.decide (v1 ≤ v0) then
    ret (Decidable.decide (v0 ≤ v2))
  else
    ret (Bool.false)
theorem impl_within.k (v0 : Int) (v1 : Int) (v2 : Int) : topL E (callT E tab) 81 Try.f81 (impl_within.c v0 v1 v2) = impl_within.t (fun b => some (impl_within.mk b)) v0 v1 v2 := by kernel_rfl
theorem impl_within.s (v0 : Int) (v1 : Int) (v2 : Int) : Sub impl_within.mk (impl_within.t some v0 v1 v2) (impl_within.t (fun b => some (impl_within.mk b)) v0 v1 v2) := by
  unfold impl_within.t
  repeat' first | exact Sub.ret | exact Sub.none | exact Sub.loop | apply Sub.cond | (apply Sub.bind; intro _)
theorem impl_within.eq (v0 : Int) (v1 : Int) (v2 : Int) {b : Bool} (h : impl_within.t some v0 v1 v2 = some b) : impl_within v0 v1 v2 = some b := tOf_intro impl_within.un (fun _ => by kernel_rfl) (vlim_fn (callT_le E tab) rfl rfl rfl ((impl_within.k v0 v1 v2).trans (impl_within.s v0 v1 v2 b h)))
noncomputable def impl_areAll_int_impl_GoodStats_1.t {γ : Type} (ret : (Bool) → Option γ) (v0 : List Int) : Option γ :=
  (slices_ContainsFunc_int_int_impl_areAll_int_1_impl_GoodStats_1 (v0)).bind fun (r0 : Bool) =>
  ret (!r0)
theorem impl_areAll_int_impl_GoodStats_1.k (v0 : List Int) : topL E (callT E tab) 63 Try.f63 (impl_areAll_int_impl_GoodStats_1.c v0) = impl_areAll_int_impl_GoodStats_1.t (fun b => some (impl_areAll_int_impl_GoodStats_1.mk b)) v0 := by kernel_rfl
theorem impl_areAll_int_impl_GoodStats_1.s (v0 : List Int) : Sub impl_areAll_int_impl_GoodStats_1.mk (impl_areAll_int_impl_GoodStats_1.t some v0) (impl_areAll_int_impl_GoodStats_1.t (fun b => some (impl_areAll_int_impl_GoodStats_1.mk b)) v0) := by
  unfold impl_areAll_int_impl_GoodStats_1.t
  repeat' first | exact Sub.ret | exact Sub.none | exact Sub.loop | apply Sub.cond | (apply Sub.bind; intro _)
theorem impl_areAll_int_impl_GoodStats_1.eq (v0 : List Int) {b : Bool} (h : impl_areAll_int_impl_GoodStats_1.t some v0 = some b) : impl_areAll_int_impl_GoodStats_1 v0 = some b := tOf_intro impl_areAll_int_impl_GoodStats_1.un (fun _ => by kernel_rfl) (vlim_fn (callT_le E tab) rfl rfl rfl ((impl_areAll_int_impl_GoodStats_1.k v0).trans (impl_areAll_int_impl_GoodStats_1.s v0 b h)))
noncomputable def slices_ContainsFunc_int_int_impl_areAll_int_1_impl_GoodStats_1.t {γ : Type} (ret : (Bool) → Option γ) (v0 : List Int) : Option γ :=
  (slices_IndexFunc_int_int_impl_areAll_int_1_impl_GoodStats_1 (v0)).bind fun (r0 : Int) =>
  ret (Decidable.decide (r0 ≥ (0 : Int)))
theorem slices_ContainsFunc_int_int_impl_areAll_int_1_impl_GoodStats_1.k (v0 : List Int) : topL E (callT E tab) 94 Try.f94 (slices_ContainsFunc_int_int_impl_areAll_int_1_impl_GoodStats_1.c v0) = slices_ContainsFunc_int_int_impl_areAll_int_1_impl_GoodStats_1.t (fun b => some (slices_ContainsFunc_int_int_impl_areAll_int_1_impl_GoodStats_1.mk b)) v0 := by kernel_rfl
theorem slices_ContainsFunc_int_int_impl_areAll_int_1_impl_GoodStats_1.s (v0 : List Int) : Sub slices_ContainsFunc_int_int_impl_areAll_int_1_impl_GoodStats_1.mk (slices_ContainsFunc_int_int_impl_areAll_int_1_impl_GoodStats_1.t some v0) (slices_ContainsFunc_int_int_impl_areAll_int_1_impl_GoodStats_1.t (fun b => some (slices_ContainsFunc_int_int_impl_areAll_int_1_impl_GoodStats_1.mk b)) v0) := by
  unfold slices_ContainsFunc_int_int_impl_areAll_int_1_impl_GoodStats_1.t
  repeat' first | exact Sub.ret | exact Sub.none | exact Sub.loop | apply Sub.cond | (apply Sub.bind; intro _)
theorem slices_ContainsFunc_int_int_impl_areAll_int_1_impl_GoodStats_1.eq (v0 : List Int) {b : Bool} (h : slices_ContainsFunc_int_int_impl_areAll_int_1_impl_GoodStats_1.t some v0 = some b) : slices_ContainsFunc_int_int_impl_areAll_int_1_impl_GoodStats_1 v0 = some b := tOf_intro slices_ContainsFunc_int_int_impl_areAll_int_1_impl_GoodStats_1.un (fun _ => by kernel_rfl) (vlim_fn (callT_le E tab) rfl rfl rfl ((slices_ContainsFunc_int_int_impl_areAll_int_1_impl_GoodStats_1.k v0).trans (slices_ContainsFunc_int_int_impl_areAll_int_1_impl_GoodStats_1.s v0 b h)))
noncomputable def slices_IndexFunc_int_int_impl_areAll_int_1_impl_GoodStats_1.q2 (v0 : List Int) (v1 : Int) (v2 : Int) : Option R := loopAtL E (callT E tab) 108 Try.f108 2 [.r, .l, .r, .b] (vc (.d .fro (.sl (.int .i64)) v0) :: vc (.fn 95 [.rp [.fn 82 []] 0]) :: nn 5 (vc (iL v1) :: vc (iL v2) :: nn 10 ([])))
noncomputable def slices_IndexFunc_int_int_impl_areAll_int_1_impl_GoodStats_1.l2 (v0 : List Int) (v1 : Int) (v2 : Int) : Option (Int) := tOf slices_IndexFunc_int_int_impl_areAll_int_1_impl_GoodStats_1.mk (slices_IndexFunc_int_int_impl_areAll_int_1_impl_GoodStats_1.q2 v0 v1 v2)
noncomputable def slices_IndexFunc_int_int_impl_areAll_int_1_impl_GoodStats_1.t {γ : Type} (ret : (Int) → Option γ) (lp2 : (List Int) → Int → Int → Option γ) (v0 : List Int) : Option γ :=
  lp2 (v0) ((↑v0.length : Int)) ((0 : Int))
noncomputable def slices_IndexFunc_int_int_impl_areAll_int_1_impl_GoodStats_1.t2 {γ : Type} (ret : (Int) → Option γ) (lp2 : (List Int) → Int → Int → Option γ) (v0 : List Int) (v1 : Int) (v2 : Int) : Option γ :=
  bif Decidable.decide (v2 < v1) then
    bif Decidable.decide ((0 : Int) ≤ v2) then
      bif Decidable.decide (v2.toNat < v0.length) then
        (impl_areAll_int_1_impl_GoodStats_1 (v0.getD v2.toNat (0 : Int))).bind fun (r0 : Bool) =>
        bif r0 then
          ret (v2)
        else
          lp2 (v0) (v1) (Go.IntKind.i64.wrap (v2 + (1 : Int)))
      else
        none
    else
      none
  else
    ret ((-1 : Int))
theorem slices_IndexFunc_int_int_impl_areAll_int_1_impl_GoodStats_1.k (v0 : List Int) : topL E (callT E tab) 108 Try.f108 (slices_IndexFunc_int_int_impl_areAll_int_1_impl_GoodStats_1.c v0) = slices_IndexFunc_int_int_impl_areAll_int_1_impl_GoodStats_1.t (fun b => some (slices_IndexFunc_int_int_impl_areAll_int_1_impl_GoodStats_1.mk b)) slices_IndexFunc_int_int_impl_areAll_int_1_impl_GoodStats_1.q2 v0 := by kernel_rfl
theorem slices_IndexFunc_int_int_impl_areAll_int_1_impl_GoodStats_1.k2 (v0 : List Int) (v1 : Int) (v2 : Int) : roundL E (callT E tab) 108 Try.f108 2 [.r, .l, .r, .b] (vc (.d .fro (.sl (.int .i64)) v0) :: vc (.fn 95 [.rp [.fn 82 []] 0]) :: nn 5 (vc (iL v1) :: vc (iL v2) :: nn 10 ([]))) = slices_IndexFunc_int_int_impl_areAll_int_1_impl_GoodStats_1.t2 (fun b => some (slices_IndexFunc_int_int_impl_areAll_int_1_impl_GoodStats_1.mk b)) slices_IndexFunc_int_int_impl_areAll_int_1_impl_GoodStats_1.q2 v0 v1 v2 := by kernel_rfl
theorem slices_IndexFunc_int_int_impl_areAll_int_1_impl_GoodStats_1.s (v0 : List Int) : Sub slices_IndexFunc_int_int_impl_areAll_int_1_impl_GoodStats_1.mk (slices_IndexFunc_int_int_impl_areAll_int_1_impl_GoodStats_1.t some slices_IndexFunc_int_int_impl_areAll_int_1_impl_GoodStats_1.l2 v0) (slices_IndexFunc_int_int_impl_areAll_int_1_impl_GoodStats_1.t (fun b => some (slices_IndexFunc_int_int_impl_areAll_int_1_impl_GoodStats_1.mk b)) slices_IndexFunc_int_int_impl_areAll_int_1_impl_GoodStats_1.q2 v0) := by
  unfold slices_IndexFunc_int_int_impl_areAll_int_1_impl_GoodStats_1.t
  repeat' first | exact Sub.ret | exact Sub.none | exact Sub.loop | apply Sub.cond | (apply Sub.bind; intro _)
theorem slices_IndexFunc_int_int_impl_areAll_int_1_impl_GoodStats_1.eq (v0 : List Int) {b : Int} (h : slices_IndexFunc_int_int_impl_areAll_int_1_impl_GoodStats_1.t some slices_IndexFunc_int_int_impl_areAll_int_1_impl_GoodStats_1.l2 v0 = some b) : slices_IndexFunc_int_int_impl_areAll_int_1_impl_GoodStats_1 v0 = some b := tOf_intro slices_IndexFunc_int_int_impl_areAll_int_1_impl_GoodStats_1.un (fun _ => by kernel_rfl) (vlim_fn (callT_le E tab) rfl rfl rfl ((slices_IndexFunc_int_int_impl_areAll_int_1_impl_GoodStats_1.k v0).trans (slices_IndexFunc_int_int_impl_areAll_int_1_impl_GoodStats_1.s v0 b h)))
theorem slices_IndexFunc_int_int_impl_areAll_int_1_impl_GoodStats_1.s2 (v0 : List Int) (v1 : Int) (v2 : Int) : Sub slices_IndexFunc_int_int_impl_areAll_int_1_impl_GoodStats_1.mk (slices_IndexFunc_int_int_impl_areAll_int_1_impl_GoodStats_1.t2 some slices_IndexFunc_int_int_impl_areAll_int_1_impl_GoodStats_1.l2 v0 v1 v2) (slices_IndexFunc_int_int_impl_areAll_int_1_impl_GoodStats_1.t2 (fun b => some (slices_IndexFunc_int_int_impl_areAll_int_1_impl_GoodStats_1.mk b)) slices_IndexFunc_int_int_impl_areAll_int_1_impl_GoodStats_1.q2 v0 v1 v2) := by
  unfold slices_IndexFunc_int_int_impl_areAll_int_1_impl_GoodStats_1.t2
  repeat' first | exact Sub.ret | exact Sub.none | exact Sub.loop | apply Sub.cond | (apply Sub.bind; intro _)
theorem slices_IndexFunc_int_int_impl_areAll_int_1_impl_GoodStats_1.eq2 (v0 : List Int) (v1 : Int) (v2 : Int) {b : Int} (h : slices_IndexFunc_int_int_impl_areAll_int_1_impl_GoodStats_1.t2 some slices_IndexFunc_int_int_impl_areAll_int_1_impl_GoodStats_1.l2 v0 v1 v2 = some b) : slices_IndexFunc_int_int_impl_areAll_int_1_impl_GoodStats_1.l2 v0 v1 v2 = some b := tOf_intro slices_IndexFunc_int_int_impl_areAll_int_1_impl_GoodStats_1.un (fun _ => by kernel_rfl) (loopAtL_step ((slices_IndexFunc_int_int_impl_areAll_int_1_impl_GoodStats_1.k2 v0 v1 v2).trans (slices_IndexFunc_int_int_impl_areAll_int_1_impl_GoodStats_1.s2 v0 v1 v2 b h)))
noncomputable def impl_areAll_int_1_impl_GoodStats_1.t {γ : Type} (ret : (Bool) → Option γ) (v0 : Int) : Option γ :=
  (impl_GoodStats_1 (v0)).bind fun (r0 : Bool) =>
  ret (!r0)
theorem impl_areAll_int_1_impl_GoodStats_1.k (v0 : Int) : topL E (callT E tab) 95 Try.f95 (impl_areAll_int_1_impl_GoodStats_1.c v0) = impl_areAll_int_1_impl_GoodStats_1.t (fun b => some (impl_areAll_int_1_impl_GoodStats_1.mk b)) v0 := by kernel_rfl
theorem impl_areAll_int_1_impl_GoodStats_1.s (v0 : Int) : Sub impl_areAll_int_1_impl_GoodStats_1.mk (impl_areAll_int_1_impl_GoodStats_1.t some v0) (impl_areAll_int_1_impl_GoodStats_1.t (fun b => some (impl_areAll_int_1_impl_GoodStats_1.mk b)) v0) := by
  unfold impl_areAll_int_1_impl_GoodStats_1.t
  repeat' first | exact Sub.ret | exact Sub.none | exact Sub.loop | apply Sub.cond | (apply Sub.bind; intro _)
theorem impl_areAll_int_1_impl_GoodStats_1.eq (v0 : Int) {b : Bool} (h : impl_areAll_int_1_impl_GoodStats_1.t some v0 = some b) : impl_areAll_int_1_impl_GoodStats_1 v0 = some b := tOf_intro impl_areAll_int_1_impl_GoodStats_1.un (fun _ => by kernel_rfl) (vlim_fn (callT_le E tab) rfl rfl rfl ((impl_areAll_int_1_impl_GoodStats_1.k v0).trans (impl_areAll_int_1_impl_GoodStats_1.s v0 b h)))
noncomputable def impl_GoodStats_1.t {γ : Type} (ret : (Bool) → Option γ) (v0 : Int) : Option γ :=
  (impl_within (v0) ((1 : Int)) ((50 : Int))).bind fun (r0 : Bool) =>
  ret (r0)
theorem impl_GoodStats_1.k (v0 : Int) : topL E (callT E tab) 82 Try.f82 (impl_GoodStats_1.c v0) = impl_GoodStats_1.t (fun b => some (impl_GoodStats_1.mk b)) v0 := by kernel_rfl
theorem impl_GoodStats_1.s (v0 : Int) : Sub impl_GoodStats_1.mk (impl_GoodStats_1.t some v0) (impl_GoodStats_1.t (fun b => some (impl_GoodStats_1.mk b)) v0) := by
  unfold impl_GoodStats_1.t
  repeat' first | exact Sub.ret | exact Sub.none | exact Sub.loop | apply Sub.cond | (apply Sub.bind; intro _)
theorem impl_GoodStats_1.eq (v0 : Int) {b : Bool} (h : impl_GoodStats_1.t some v0 = some b) : impl_GoodStats_1 v0 = some b := tOf_intro impl_GoodStats_1.un (fun _ => by kernel_rfl) (vlim_fn (callT_le E tab) rfl rfl rfl ((impl_GoodStats_1.k v0).trans (impl_GoodStats_1.s v0 b h)))
noncomputable def impl_areAll_int_impl_GoodStats_2.t {γ : Type} (ret : (Bool) → Option γ) (v0 : List Int) : Option γ :=
  (slices_ContainsFunc_int_int_impl_areAll_int_1_impl_GoodStats_2 (v0)).bind fun (r0 : Bool) =>
  ret (!r0)
theorem impl_areAll_int_impl_GoodStats_2.k (v0 : List Int) : topL E (callT E tab) 63 Try.f63 (impl_areAll_int_impl_GoodStats_2.c v0) = impl_areAll_int_impl_GoodStats_2.t (fun b => some (impl_areAll_int_impl_GoodStats_2.mk b)) v0 := by kernel_rfl
theorem impl_areAll_int_impl_GoodStats_2.s (v0 : List Int) : Sub impl_areAll_int_impl_GoodStats_2.mk (impl_areAll_int_impl_GoodStats_2.t some v0) (impl_areAll_int_impl_GoodStats_2.t (fun b => some (impl_areAll_int_impl_GoodStats_2.mk b)) v0) := by
  unfold impl_areAll_int_impl_GoodStats_2.t
  repeat' first | exact Sub.ret | exact Sub.none | exact Sub.loop | apply Sub.cond | (apply Sub.bind; intro _)
theorem impl_areAll_int_impl_GoodStats_2.eq (v0 : List Int) {b : Bool} (h : impl_areAll_int_impl_GoodStats_2.t some v0 = some b) : impl_areAll_int_impl_GoodStats_2 v0 = some b := tOf_intro impl_areAll_int_impl_GoodStats_2.un (fun _ => by kernel_rfl) (vlim_fn (callT_le E tab) rfl rfl rfl ((impl_areAll_int_impl_GoodStats_2.k v0).trans (impl_areAll_int_impl_GoodStats_2.s v0 b h)))
noncomputable def slices_ContainsFunc_int_int_impl_areAll_int_1_impl_GoodStats_2.t {γ : Type} (ret : (Bool) → Option γ) (v0 : List Int) : Option γ :=
  (slices_IndexFunc_int_int_impl_areAll_int_1_impl_GoodStats_2 (v0)).bind fun (r0 : Int) =>
  ret (Decidable.decide (r0 ≥ (0 : Int)))
theorem slices_ContainsFunc_int_int_impl_areAll_int_1_impl_GoodStats_2.k (v0 : List Int) : topL E (callT E tab) 94 Try.f94 (slices_ContainsFunc_int_int_impl_areAll_int_1_impl_GoodStats_2.c v0) = slices_ContainsFunc_int_int_impl_areAll_int_1_impl_GoodStats_2.t (fun b => some (slices_ContainsFunc_int_int_impl_areAll_int_1_impl_GoodStats_2.mk b)) v0 := by kernel_rfl
theorem slices_ContainsFunc_int_int_impl_areAll_int_1_impl_GoodStats_2.s (v0 : List Int) : Sub slices_ContainsFunc_int_int_impl_areAll_int_1_impl_GoodStats_2.mk (slices_ContainsFunc_int_int_impl_areAll_int_1_impl_GoodStats_2.t some v0) (slices_ContainsFunc_int_int_impl_areAll_int_1_impl_GoodStats_2.t (fun b => some (slices_ContainsFunc_int_int_impl_areAll_int_1_impl_GoodStats_2.mk b)) v0) := by
  unfold slices_ContainsFunc_int_int_impl_areAll_int_1_impl_GoodStats_2.t
  repeat' first | exact Sub.ret | exact Sub.none | exact Sub.loop | apply Sub.cond | (apply Sub.bind; intro _)
theorem slices_ContainsFunc_int_int_impl_areAll_int_1_impl_GoodStats_2.eq (v0 : List Int) {b : Bool} (h : slices_ContainsFunc_int_int_impl_areAll_int_1_impl_GoodStats_2.t some v0 = some b) : slices_ContainsFunc_int_int_impl_areAll_int_1_impl_GoodStats_2 v0 = some b := tOf_intro slices_ContainsFunc_int_int_impl_areAll_int_1_impl_GoodStats_2.un (fun _ => by kernel_rfl) (vlim_fn (callT_le E tab) rfl rfl rfl ((slices_ContainsFunc_int_int_impl_areAll_int_1_impl_GoodStats_2.k v0).trans (slices_ContainsFunc_int_int_impl_areAll_int_1_impl_GoodStats_2.s v0 b h)))
noncomputable def slices_IndexFunc_int_int_impl_areAll_int_1_impl_GoodStats_2.q2 (v0 : List Int) (v1 : Int) (v2 : Int) : Option R := loopAtL E (callT E tab) 108 Try.f108 2 [.r, .l, .r, .b] (vc (.d .fro (.sl (.int .i64)) v0) :: vc (.fn 95 [.rp [.fn 83 []] 0]) :: nn 5 (vc (iL v1) :: vc (iL v2) :: nn 10 ([])))
noncomputable def slices_IndexFunc_int_int_impl_areAll_int_1_impl_GoodStats_2.l2 (v0 : List Int) (v1 : Int) (v2 : Int) : Option (Int) := tOf slices_IndexFunc_int_int_impl_areAll_int_1_impl_GoodStats_2.mk (slices_IndexFunc_int_int_impl_areAll_int_1_impl_GoodStats_2.q2 v0 v1 v2)
noncomputable def slices_IndexFunc_int_int_impl_areAll_int_1_impl_GoodStats_2.t {γ : Type} (ret : (Int) → Option γ) (lp2 : (List Int) → Int → Int → Option γ) (v0 : List Int) : Option γ :=
  lp2 (v0) ((↑v0.length : Int)) ((0 : Int))
noncomputable def slices_IndexFunc_int_int_impl_areAll_int_1_impl_GoodStats_2.t2 {γ : Type} (ret : (Int) → Option γ) (lp2 : (List Int) → Int → Int → Option γ) (v0 : List Int) (v1 : Int) (v2 : Int) : Option γ :=
  bif Decidable.decide (v2 < v1) then
    bif Decidable.decide ((0 : Int) ≤ v2) then
      bif Decidable.decide (v2.toNat < v0.length) then
        (impl_areAll_int_1_impl_GoodStats_2 (v0.getD v2.toNat (0 : Int))).bind fun (r0 : Bool) =>
        bif r0 then
          ret (v2)
        else
          lp2 (v0) (v1) (Go.IntKind.i64.wrap (v2 + (1 : Int)))
      else
        none
    else
      none
  else
    ret ((-1 : Int))
theorem slices_IndexFunc_int_int_impl_areAll_int_1_impl_GoodStats_2.k (v0 : List Int) : topL E (callT E tab) 108 Try.f108 (slices_IndexFunc_int_int_impl_areAll_int_1_impl_GoodStats_2.c v0) = slices_IndexFunc_int_int_impl_areAll_int_1_impl_GoodStats_2.t (fun b => some (slices_IndexFunc_int_int_impl_areAll_int_1_impl_GoodStats_2.mk b)) slices_IndexFunc_int_int_impl_areAll_int_1_impl_GoodStats_2.q2 v0 := by kernel_rfl
theorem slices_IndexFunc_int_int_impl_areAll_int_1_impl_GoodStats_2.k2 (v0 : List Int) (v1 : Int) (v2 : Int) : roundL E (callT E tab) 108 Try.f108 2 [.r, .l, .r, .b] (vc (.d .fro (.sl (.int .i64)) v0) :: vc (.fn 95 [.rp [.fn 83 []] 0]) :: nn 5 (vc (iL v1) :: vc (iL v2) :: nn 10 ([]))) = slices_IndexFunc_int_int_impl_areAll_int_1_impl_GoodStats_2.t2 (fun b => some (slices_IndexFunc_int_int_impl_areAll_int_1_impl_GoodStats_2.mk b)) slices_IndexFunc_int_int_impl_areAll_int_1_impl_GoodStats_2.q2 v0 v1 v2 := by kernel_rfl
theorem slices_IndexFunc_int_int_impl_areAll_int_1_impl_GoodStats_2.s (v0 : List Int) : Sub slices_IndexFunc_int_int_impl_areAll_int_1_impl_GoodStats_2.mk (slices_IndexFunc_int_int_impl_areAll_int_1_impl_GoodStats_2.t some slices_IndexFunc_int_int_impl_areAll_int_1_impl_GoodStats_2.l2 v0) (slices_IndexFunc_int_int_impl_areAll_int_1_impl_GoodStats_2.t (fun b => some (slices_IndexFunc_int_int_impl_areAll_int_1_impl_GoodStats_2.mk b)) slices_IndexFunc_int_int_impl_areAll_int_1_impl_GoodStats_2.q2 v0) := by
  unfold slices_IndexFunc_int_int_impl_areAll_int_1_impl_GoodStats_2.t
  repeat' first | exact Sub.ret | exact Sub.none | exact Sub.loop | apply Sub.cond | (apply Sub.bind; intro _)
theorem slices_IndexFunc_int_int_impl_areAll_int_1_impl_GoodStats_2.eq (v0 : List Int) {b : Int} (h : slices_IndexFunc_int_int_impl_areAll_int_1_impl_GoodStats_2.t some slices_IndexFunc_int_int_impl_areAll_int_1_impl_GoodStats_2.l2 v0 = some b) : slices_IndexFunc_int_int_impl_areAll_int_1_impl_GoodStats_2 v0 = some b := tOf_intro slices_IndexFunc_int_int_impl_areAll_int_1_impl_GoodStats_2.un (fun _ => by kernel_rfl) (vlim_fn (callT_le E tab) rfl rfl rfl ((slices_IndexFunc_int_int_impl_areAll_int_1_impl_GoodStats_2.k v0).trans (slices_IndexFunc_int_int_impl_areAll_int_1_impl_GoodStats_2.s v0 b h)))
theorem slices_IndexFunc_int_int_impl_areAll_int_1_impl_GoodStats_2.s2 (v0 : List Int) (v1 : Int) (v2 : Int) : Sub slices_IndexFunc_int_int_impl_areAll_int_1_impl_GoodStats_2.mk (slices_IndexFunc_int_int_impl_areAll_int_1_impl_GoodStats_2.t2 some slices_IndexFunc_int_int_impl_areAll_int_1_impl_GoodStats_2.l2 v0 v1 v2) (slices_IndexFunc_int_int_impl_areAll_int_1_impl_GoodStats_2.t2 (fun b => some (slices_IndexFunc_int_int_impl_areAll_int_1_impl_GoodStats_2.mk b)) slices_IndexFunc_int_int_impl_areAll_int_1_impl_GoodStats_2.q2 v0 v1 v2) := by
  unfold slices_IndexFunc_int_int_impl_areAll_int_1_impl_GoodStats_2.t2
  repeat' first | exact Sub.ret | exact Sub.none | exact Sub.loop | apply Sub.cond | (apply Sub.bind; intro _)
theorem slices_IndexFunc_int_int_impl_areAll_int_1_impl_GoodStats_2.eq2 (v0 : List Int) (v1 : Int) (v2 : Int) {b : Int} (h : slices_IndexFunc_int_int_impl_areAll_int_1_impl_GoodStats_2.t2 some slices_IndexFunc_int_int_impl_areAll_int_1_impl_GoodStats_2.l2 v0 v1 v2 = some b) : slices_IndexFunc_int_int_impl_areAll_int_1_impl_GoodStats_2.l2 v0 v1 v2 = some b := tOf_intro slices_IndexFunc_int_int_impl_areAll_int_1_impl_GoodStats_2.un (fun _ => by kernel_rfl) (loopAtL_step ((slices_IndexFunc_int_int_impl_areAll_int_1_impl_GoodStats_2.k2 v0 v1 v2).trans (slices_IndexFunc_int_int_impl_areAll_int_1_impl_GoodStats_2.s2 v0 v1 v2 b h)))
noncomputable def impl_areAll_int_1_impl_GoodStats_2.t {γ : Type} (ret : (Bool) → Option γ) (v0 : Int) : Option γ :=
  (impl_GoodStats_2 (v0)).bind fun (r0 : Bool) =>
  ret (!r0)
theorem impl_areAll_int_1_impl_GoodStats_2.k (v0 : Int) : topL E (callT E tab) 95 Try.f95 (impl_areAll_int_1_impl_GoodStats_2.c v0) = impl_areAll_int_1_impl_GoodStats_2.t (fun b => some (impl_areAll_int_1_impl_GoodStats_2.mk b)) v0 := by kernel_rfl
theorem impl_areAll_int_1_impl_GoodStats_2.s (v0 : Int) : Sub impl_areAll_int_1_impl_GoodStats_2.mk (impl_areAll_int_1_impl_GoodStats_2.t some v0) (impl_areAll_int_1_impl_GoodStats_2.t (fun b => some (impl_areAll_int_1_impl_GoodStats_2.mk b)) v0) := by
  unfold impl_areAll_int_1_impl_GoodStats_2.t
  repeat' first | exact Sub.ret | exact Sub.none | exact Sub.loop | apply Sub.cond | (apply Sub.bind; intro _)
theorem impl_areAll_int_1_impl_GoodStats_2.eq (v0 : Int) {b : Bool} (h : impl_areAll_int_1_impl_GoodStats_2.t some v0 = some b) : impl_areAll_int_1_impl_GoodStats_2 v0 = some b := tOf_intro impl_areAll_int_1_impl_GoodStats_2.un (fun _ => by kernel_rfl) (vlim_fn (callT_le E tab) rfl rfl rfl ((impl_areAll_int_1_impl_GoodStats_2.k v0).trans (impl_areAll_int_1_impl_GoodStats_2.s v0 b h)))
end GoV

/- Equations of the program's functions (printed by wip/tools/emit.py). -/
namespace GoV
open Go Go.Proofs
set_option maxRecDepth 100000

noncomputable def impl_GoodStats_2.t {γ : Type} (ret : (Bool) → Option γ) (v0 : Int) : Option γ :=
  (impl_within (v0) ((1 : Int)) ((10 : Int))).bind fun (r0 : Bool) =>
  ret (r0)
theorem impl_GoodStats_2.k (v0 : Int) : topL E (callT E tab) 83 Try.f83 (impl_GoodStats_2.c v0) = impl_GoodStats_2.t (fun b => some (impl_GoodStats_2.mk b)) v0 := by kernel_rfl
theorem impl_GoodStats_2.s (v0 : Int) : Sub impl_GoodStats_2.mk (impl_GoodStats_2.t some v0) (impl_GoodStats_2.t (fun b => some (impl_GoodStats_2.mk b)) v0) := by
  unfold impl_GoodStats_2.t
  repeat' first | exact Sub.ret | exact Sub.none | exact Sub.loop | apply Sub.cond | (apply Sub.bind; intro _)
theorem impl_GoodStats_2.eq (v0 : Int) {b : Bool} (h : impl_GoodStats_2.t some v0 = some b) : impl_GoodStats_2 v0 = some b := tOf_intro impl_GoodStats_2.un (fun _ => by kernel_rfl) (vlim_fn (callT_le E tab) rfl rfl rfl ((impl_GoodStats_2.k v0).trans (impl_GoodStats_2.s v0 b h)))
noncomputable def impl_setOf.q3 (v0 : Int) (v1 : List Int) (v2 : Int) (v3 : Int) : Option R := loopAtL E (callT E tab) 49 Try.f49 1 [.r, .r, .l, .r, .b] (nn 3 (vc (iL v0) :: nn 2 (vc (.d .fro (.sl (.int .i64)) v1) :: vc (iL v2) :: vc (iL v3) :: nn 9 ([]))))
noncomputable def impl_setOf.l3 (v0 : Int) (v1 : List Int) (v2 : Int) (v3 : Int) : Option (Int) := tOf impl_setOf.mk (impl_setOf.q3 v0 v1 v2 v3)
noncomputable def impl_setOf.t {γ : Type} (ret : (Int) → Option γ) (lp3 : Int → (List Int) → Int → Int → Option γ) (v0 : List Int) : Option γ :=
  lp3 ((0 : Int)) (v0) ((↑v0.length : Int)) ((0 : Int))
noncomputable def impl_setOf.t3 {γ : Type} (ret : (Int) → Option γ) (lp3 : Int → (List Int) → Int → Int → Option γ) (v0 : Int) (v1 : List Int) (v2 : Int) (v3 : Int) : Option γ :=
  bif Decidable.decide (v3 < v2) then
    bif Decidable.decide ((0 : Int) ≤ v3) then
      bif Decidable.decide (v3.toNat < v1.length) then
        bif Decidable.decide ((0 : Int) ≤ v1.getD v3.toNat (0 : Int)) then
          lp3 (Go.IntKind.i64.wrap   (↑(BitVec.ofInt Go.IntKind.i64.bits v0 |||           BitVec.ofInt Go.IntKind.i64.bits             (Go.IntKind.i64.wrap               ((1 : Int) * (2 : Int) ^ Min.min (v1.getD v3.toNat (0 : Int)).toNat Go.IntKind.i64.bits))).toNat :     Int)) (v1) (v2) (Go.IntKind.i64.wrap (v3 + (1 : Int)))
        else
          none
      else
        none
    else
      none
  else
    ret (v0)
theorem impl_setOf.k (v0 : List Int) : topL E (callT E tab) 49 Try.f49 (impl_setOf.c v0) = impl_setOf.t (fun b => some (impl_setOf.mk b)) impl_setOf.q3 v0 := by kernel_rfl
theorem impl_setOf.k3 (v0 : Int) (v1 : List Int) (v2 : Int) (v3 : Int) : roundL E (callT E tab) 49 Try.f49 1 [.r, .r, .l, .r, .b] (nn 3 (vc (iL v0) :: nn 2 (vc (.d .fro (.sl (.int .i64)) v1) :: vc (iL v2) :: vc (iL v3) :: nn 9 ([])))) = impl_setOf.t3 (fun b => some (impl_setOf.mk b)) impl_setOf.q3 v0 v1 v2 v3 := by kernel_rfl
theorem impl_setOf.s (v0 : List Int) : Sub impl_setOf.mk (impl_setOf.t some impl_setOf.l3 v0) (impl_setOf.t (fun b => some (impl_setOf.mk b)) impl_setOf.q3 v0) := by
  unfold impl_setOf.t
  repeat' first | exact Sub.ret | exact Sub.none | exact Sub.loop | apply Sub.cond | (apply Sub.bind; intro _)
theorem impl_setOf.eq (v0 : List Int) {b : Int} (h : impl_setOf.t some impl_setOf.l3 v0 = some b) : impl_setOf v0 = some b := tOf_intro impl_setOf.un (fun _ => by kernel_rfl) (vlim_fn (callT_le E tab) rfl rfl rfl ((impl_setOf.k v0).trans (impl_setOf.s v0 b h)))
theorem impl_setOf.s3 (v0 : Int) (v1 : List Int) (v2 : Int) (v3 : Int) : Sub impl_setOf.mk (impl_setOf.t3 some impl_setOf.l3 v0 v1 v2 v3) (impl_setOf.t3 (fun b => some (impl_setOf.mk b)) impl_setOf.q3 v0 v1 v2 v3) := by
  unfold impl_setOf.t3
  repeat' first | exact Sub.ret | exact Sub.none | exact Sub.loop | apply Sub.cond | (apply Sub.bind; intro _)
theorem impl_setOf.eq3 (v0 : Int) (v1 : List Int) (v2 : Int) (v3 : Int) {b : Int} (h : impl_setOf.t3 some impl_setOf.l3 v0 v1 v2 v3 = some b) : impl_setOf.l3 v0 v1 v2 v3 = some b := tOf_intro impl_setOf.un (fun _ => by kernel_rfl) (loopAtL_step ((impl_setOf.k3 v0 v1 v2 v3).trans (impl_setOf.s3 v0 v1 v2 v3 b h)))
noncomputable def impl_Stats_size.q7 (v0 : Int) (v1 : List Int) (v2 : List (List Int)) (v3 : Int) (v4 : Int) (v5 : Int) (v6 : List Int) (v7 : Int) (v8 : Int) (v9 : List Int) (v10 : Int) (v11 : Int) : Option R := loopAtL E (callT E tab) 48 Try.f48 2 [.r, .r, .l, .r, .b, .o, .r, .r, .l, .b, .r, .r, .r, .b] (nn 1 (vc (iL v0) :: ⟨(.box false), [.d .fro (.sl (.int .i64)) v1, .d .fro (.sl (.sl (.int .i64))) v2], false, false, false, 0, 0⟩ :: nn 2 (vc (iL v3) :: vc (iL v4) :: nn 1 (vc (iL v5) :: nn 3 (vc (.d .deep (.sl (.int .i64)) v6) :: vc (iL v7) :: vc (iL v8) :: nn 11 (vc (.d .deep (.sl (.int .i64)) v9) :: vc (iL v10) :: vc (iL v11) :: nn 21 ([])))))))
noncomputable def impl_Stats_size.l7 (v0 : Int) (v1 : List Int) (v2 : List (List Int)) (v3 : Int) (v4 : Int) (v5 : Int) (v6 : List Int) (v7 : Int) (v8 : Int) (v9 : List Int) (v10 : Int) (v11 : Int) : Option (Int) := tOf impl_Stats_size.mk (impl_Stats_size.q7 v0 v1 v2 v3 v4 v5 v6 v7 v8 v9 v10 v11)
noncomputable def impl_Stats_size.q3 (v0 : Int) (v1 : List Int) (v2 : List (List Int)) (v3 : Int) (v4 : Int) (v5 : List Int) (v6 : Int) (v7 : Int) : Option R := loopAtL E (callT E tab) 48 Try.f48 2 [.r, .r, .l, .r, .b] (nn 1 (vc (iL v0) :: ⟨(.box false), [.d .fro (.sl (.int .i64)) v1, .d .fro (.sl (.sl (.int .i64))) v2], false, false, false, 0, 0⟩ :: nn 2 (vc (iL v3) :: vc (iL v4) :: nn 5 (vc (.d .deep (.sl (.int .i64)) v5) :: vc (iL v6) :: vc (iL v7) :: nn 35 ([])))))
noncomputable def impl_Stats_size.l3 (v0 : Int) (v1 : List Int) (v2 : List (List Int)) (v3 : Int) (v4 : Int) (v5 : List Int) (v6 : Int) (v7 : Int) : Option (Int) := tOf impl_Stats_size.mk (impl_Stats_size.q3 v0 v1 v2 v3 v4 v5 v6 v7)
noncomputable def impl_Stats_size.t {γ : Type} (ret : (Int) → Option γ) (lp7 : Int → (List Int) → (List (List Int)) → Int → Int → Int → (List Int) → Int → Int → (List Int) → Int → Int → Option γ) (lp3 : Int → (List Int) → (List (List Int)) → Int → Int → (List Int) → Int → Int → Option γ) (v0 : List Int) (v1 : List (List Int)) (v2 : Int) : Option γ :=
  (impl_set_list (v2)).bind fun (r0 : (List Int)) =>
  lp3 (v2) (v0) (v1) ((1 : Int)) ((1 : Int)) (r0) ((↑r0.length : Int)) ((0 : Int))
noncomputable def impl_Stats_size.t7 {γ : Type} (ret : (Int) → Option γ) (lp7 : Int → (List Int) → (List (List Int)) → Int → Int → Int → (List Int) → Int → Int → (List Int) → Int → Int → Option γ) (lp3 : Int → (List Int) → (List (List Int)) → Int → Int → (List Int) → Int → Int → Option γ) (v0 : Int) (v1 : List Int) (v2 : List (List Int)) (v3 : Int) (v4 : Int) (v5 : Int) (v6 : List Int) (v7 : Int) (v8 : Int) (v9 : List Int) (v10 : Int) (v11 : Int) : Option γ :=
  bif Decidable.decide (v11 < v10) then
    bif Decidable.decide ((0 : Int) ≤ v11) then
      bif Decidable.decide (v11.toNat < v9.length) then
        bif Decidable.decide (v11.toNat < v9.length) then
          bif Decidable.decide (v9.getD v11.toNat (0 : Int) < v5) then
            bif Decidable.decide ((0 : Int) ≤ v5) then
              bif Decidable.decide (v5.toNat < v2.length) then
                bif Decidable.decide ((0 : Int) ≤ v9.getD v11.toNat (0 : Int)) then
                  bif Decidable.decide ((v9.getD v11.toNat (0 : Int)).toNat < (v2.getD v5.toNat []).length) then
                    lp7 (v0) (v1) (v2) (v3) (Go.IntKind.i64.wrap (v4 * (v2.getD v5.toNat []).getD (v9.getD v11.toNat (0 : Int)).toNat (0 : Int))) (v5) (v6) (v7) (v8) (v9) (v10) (Go.IntKind.i64.wrap (v11 + (1 : Int)))
                  else
                    none
                else
                  none
              else
                none
            else
              none
          else
            lp7 (v0) (v1) (v2) (v3) (v4) (v5) (v6) (v7) (v8) (v9) (v10) (Go.IntKind.i64.wrap (v11 + (1 : Int)))
        else
          none
      else
        none
    else
      none
  else
    lp3 (v0) (v1) (v2) (v3) (v4) (v6) (v7) (Go.IntKind.i64.wrap (v8 + (1 : Int)))
noncomputable def impl_Stats_size.t3 {γ : Type} (ret : (Int) → Option γ) (lp7 : Int → (List Int) → (List (List Int)) → Int → Int → Int → (List Int) → Int → Int → (List Int) → Int → Int → Option γ) (lp3 : Int → (List Int) → (List (List Int)) → Int → Int → (List Int) → Int → Int → Option γ) (v0 : Int) (v1 : List Int) (v2 : List (List Int)) (v3 : Int) (v4 : Int) (v5 : List Int) (v6 : Int) (v7 : Int) : Option γ :=
  bif Decidable.decide (v7 < v6) then
    bif Decidable.decide ((0 : Int) ≤ v7) then
      bif Decidable.decide (v7.toNat < v5.length) then
        bif Decidable.decide (v7.toNat < v5.length) then
          bif Decidable.decide ((0 : Int) ≤ v5.getD v7.toNat (0 : Int)) then
            bif Decidable.decide ((v5.getD v7.toNat (0 : Int)).toNat < v1.length) then
              (impl_set_list (v0)).bind fun (r1 : (List Int)) =>
              lp7 (v0) (v1) (v2) (Go.IntKind.i64.wrap (v3 * v1.getD (v5.getD v7.toNat (0 : Int)).toNat (0 : Int))) (v4) (v5.getD v7.toNat (0 : Int)) (v5) (v6) (v7) (r1) ((↑r1.length : Int)) ((0 : Int))
            else
              none
          else
            none
        else
          none
      else
        none
    else
      none
  else
    bif Decidable.decide (v4 ≠ (0 : Int)) then
      ret (Go.IntKind.i64.wrap (v3.tdiv v4))
    else
      none
theorem impl_Stats_size.k (v0 : List Int) (v1 : List (List Int)) (v2 : Int) : topL E (callT E tab) 48 Try.f48 (impl_Stats_size.c v0 v1 v2) = impl_Stats_size.t (fun b => some (impl_Stats_size.mk b)) impl_Stats_size.q7 impl_Stats_size.q3 v0 v1 v2 := by kernel_rfl
theorem impl_Stats_size.k7 (v0 : Int) (v1 : List Int) (v2 : List (List Int)) (v3 : Int) (v4 : Int) (v5 : Int) (v6 : List Int) (v7 : Int) (v8 : Int) (v9 : List Int) (v10 : Int) (v11 : Int) : roundL E (callT E tab) 48 Try.f48 2 [.r, .r, .l, .r, .b, .o, .r, .r, .l, .b, .r, .r, .r, .b] (nn 1 (vc (iL v0) :: ⟨(.box false), [.d .fro (.sl (.int .i64)) v1, .d .fro (.sl (.sl (.int .i64))) v2], false, false, false, 0, 0⟩ :: nn 2 (vc (iL v3) :: vc (iL v4) :: nn 1 (vc (iL v5) :: nn 3 (vc (.d .deep (.sl (.int .i64)) v6) :: vc (iL v7) :: vc (iL v8) :: nn 11 (vc (.d .deep (.sl (.int .i64)) v9) :: vc (iL v10) :: vc (iL v11) :: nn 21 ([]))))))) = impl_Stats_size.t7 (fun b => some (impl_Stats_size.mk b)) impl_Stats_size.q7 impl_Stats_size.q3 v0 v1 v2 v3 v4 v5 v6 v7 v8 v9 v10 v11 := by kernel_rfl
theorem impl_Stats_size.k3 (v0 : Int) (v1 : List Int) (v2 : List (List Int)) (v3 : Int) (v4 : Int) (v5 : List Int) (v6 : Int) (v7 : Int) : roundL E (callT E tab) 48 Try.f48 2 [.r, .r, .l, .r, .b] (nn 1 (vc (iL v0) :: ⟨(.box false), [.d .fro (.sl (.int .i64)) v1, .d .fro (.sl (.sl (.int .i64))) v2], false, false, false, 0, 0⟩ :: nn 2 (vc (iL v3) :: vc (iL v4) :: nn 5 (vc (.d .deep (.sl (.int .i64)) v5) :: vc (iL v6) :: vc (iL v7) :: nn 35 ([]))))) = impl_Stats_size.t3 (fun b => some (impl_Stats_size.mk b)) impl_Stats_size.q7 impl_Stats_size.q3 v0 v1 v2 v3 v4 v5 v6 v7 := by kernel_rfl
theorem impl_Stats_size.s (v0 : List Int) (v1 : List (List Int)) (v2 : Int) : Sub impl_Stats_size.mk (impl_Stats_size.t some impl_Stats_size.l7 impl_Stats_size.l3 v0 v1 v2) (impl_Stats_size.t (fun b => some (impl_Stats_size.mk b)) impl_Stats_size.q7 impl_Stats_size.q3 v0 v1 v2) := by
  unfold impl_Stats_size.t
  repeat' first | exact Sub.ret | exact Sub.none | exact Sub.loop | apply Sub.cond | (apply Sub.bind; intro _)
theorem impl_Stats_size.eq (v0 : List Int) (v1 : List (List Int)) (v2 : Int) {b : Int} (h : impl_Stats_size.t some impl_Stats_size.l7 impl_Stats_size.l3 v0 v1 v2 = some b) : impl_Stats_size v0 v1 v2 = some b := tOf_intro impl_Stats_size.un (fun _ => by kernel_rfl) (vlim_fn (callT_le E tab) rfl rfl rfl ((impl_Stats_size.k v0 v1 v2).trans (impl_Stats_size.s v0 v1 v2 b h)))
theorem impl_Stats_size.s7 (v0 : Int) (v1 : List Int) (v2 : List (List Int)) (v3 : Int) (v4 : Int) (v5 : Int) (v6 : List Int) (v7 : Int) (v8 : Int) (v9 : List Int) (v10 : Int) (v11 : Int) : Sub impl_Stats_size.mk (impl_Stats_size.t7 some impl_Stats_size.l7 impl_Stats_size.l3 v0 v1 v2 v3 v4 v5 v6 v7 v8 v9 v10 v11) (impl_Stats_size.t7 (fun b => some (impl_Stats_size.mk b)) impl_Stats_size.q7 impl_Stats_size.q3 v0 v1 v2 v3 v4 v5 v6 v7 v8 v9 v10 v11) := by
  unfold impl_Stats_size.t7
  repeat' first | exact Sub.ret | exact Sub.none | exact Sub.loop | apply Sub.cond | (apply Sub.bind; intro _)
theorem impl_Stats_size.eq7 (v0 : Int) (v1 : List Int) (v2 : List (List Int)) (v3 : Int) (v4 : Int) (v5 : Int) (v6 : List Int) (v7 : Int) (v8 : Int) (v9 : List Int) (v10 : Int) (v11 : Int) {b : Int} (h : impl_Stats_size.t7 some impl_Stats_size.l7 impl_Stats_size.l3 v0 v1 v2 v3 v4 v5 v6 v7 v8 v9 v10 v11 = some b) : impl_Stats_size.l7 v0 v1 v2 v3 v4 v5 v6 v7 v8 v9 v10 v11 = some b := tOf_intro impl_Stats_size.un (fun _ => by kernel_rfl) (loopAtL_step ((impl_Stats_size.k7 v0 v1 v2 v3 v4 v5 v6 v7 v8 v9 v10 v11).trans (impl_Stats_size.s7 v0 v1 v2 v3 v4 v5 v6 v7 v8 v9 v10 v11 b h)))
theorem impl_Stats_size.s3 (v0 : Int) (v1 : List Int) (v2 : List (List Int)) (v3 : Int) (v4 : Int) (v5 : List Int) (v6 : Int) (v7 : Int) : Sub impl_Stats_size.mk (impl_Stats_size.t3 some impl_Stats_size.l7 impl_Stats_size.l3 v0 v1 v2 v3 v4 v5 v6 v7) (impl_Stats_size.t3 (fun b => some (impl_Stats_size.mk b)) impl_Stats_size.q7 impl_Stats_size.q3 v0 v1 v2 v3 v4 v5 v6 v7) := by
  unfold impl_Stats_size.t3
  repeat' first | exact Sub.ret | exact Sub.none | exact Sub.loop | apply Sub.cond | (apply Sub.bind; intro _)
theorem impl_Stats_size.eq3 (v0 : Int) (v1 : List Int) (v2 : List (List Int)) (v3 : Int) (v4 : Int) (v5 : List Int) (v6 : Int) (v7 : Int) {b : Int} (h : impl_Stats_size.t3 some impl_Stats_size.l7 impl_Stats_size.l3 v0 v1 v2 v3 v4 v5 v6 v7 = some b) : impl_Stats_size.l3 v0 v1 v2 v3 v4 v5 v6 v7 = some b := tOf_intro impl_Stats_size.un (fun _ => by kernel_rfl) (loopAtL_step ((impl_Stats_size.k3 v0 v1 v2 v3 v4 v5 v6 v7).trans (impl_Stats_size.s3 v0 v1 v2 v3 v4 v5 v6 v7 b h)))
noncomputable def impl_set_list.q3 (v0 : Int) (v1 : List Int) (v2 : Int) : Option R := loopAtL E (callT E tab) 55 Try.f55 1 [.r, .r, .l, .r, .b] (vc (iL v0) :: nn 2 (vc (.d .deep (.sl (.int .i64)) v1) :: vc (iL v2) :: nn 16 ([])))
noncomputable def impl_set_list.l3 (v0 : Int) (v1 : List Int) (v2 : Int) : Option ((List Int)) := tOf impl_set_list.mk (impl_set_list.q3 v0 v1 v2)
noncomputable def impl_set_list.t {γ : Type} (ret : ((List Int)) → Option γ) (lp3 : Int → (List Int) → Int → Option γ) (v0 : Int) : Option γ :=
  lp3 (v0) ([]) ((0 : Int))
noncomputable def impl_set_list.t3 {γ : Type} (ret : ((List Int)) → Option γ) (lp3 : Int → (List Int) → Int → Option γ) (v0 : Int) (v1 : List Int) (v2 : Int) : Option γ :=
  bif Decidable.decide ((0 : Int) ≤ v2) then
    bif v0.fdiv ((2 : Int) ^ Min.min v2.toNat Go.IntKind.i64.bits) != (0 : Int) then
      bif Decidable.decide ((0 : Int) ≤ v2) then
        bif Go.IntKind.i64.wrap     (↑(BitVec.ofInt Go.IntKind.i64.bits (v0.fdiv ((2 : Int) ^ Min.min v2.toNat Go.IntKind.i64.bits)) &&&             BitVec.ofInt Go.IntKind.i64.bits (1 : Int)).toNat :       Int) ==   (1 : Int) then
          bif Decidable.decide (v1.length + [v2].length ≤ (4294967296 : Nat)) then
            lp3 (v0) (v1 ++ [v2]) (Go.IntKind.i64.wrap (v2 + (1 : Int)))
          else
            none
        else
          lp3 (v0) (v1) (Go.IntKind.i64.wrap (v2 + (1 : Int)))
      else
        none
    else
      ret (v1)
  else
    none
theorem impl_set_list.k (v0 : Int) : topL E (callT E tab) 55 Try.f55 (impl_set_list.c v0) = impl_set_list.t (fun b => some (impl_set_list.mk b)) impl_set_list.q3 v0 := by kernel_rfl
theorem impl_set_list.k3 (v0 : Int) (v1 : List Int) (v2 : Int) : roundL E (callT E tab) 55 Try.f55 1 [.r, .r, .l, .r, .b] (vc (iL v0) :: nn 2 (vc (.d .deep (.sl (.int .i64)) v1) :: vc (iL v2) :: nn 16 ([]))) = impl_set_list.t3 (fun b => some (impl_set_list.mk b)) impl_set_list.q3 v0 v1 v2 := by kernel_rfl
theorem impl_set_list.s (v0 : Int) : Sub impl_set_list.mk (impl_set_list.t some impl_set_list.l3 v0) (impl_set_list.t (fun b => some (impl_set_list.mk b)) impl_set_list.q3 v0) := by
  unfold impl_set_list.t
  repeat' first | exact Sub.ret | exact Sub.none | exact Sub.loop | apply Sub.cond | (apply Sub.bind; intro _)
theorem impl_set_list.eq (v0 : Int) {b : (List Int)} (h : impl_set_list.t some impl_set_list.l3 v0 = some b) : impl_set_list v0 = some b := tOf_intro impl_set_list.un (fun _ => by kernel_rfl) (vlim_fn (callT_le E tab) rfl rfl rfl ((impl_set_list.k v0).trans (impl_set_list.s v0 b h)))
theorem impl_set_list.s3 (v0 : Int) (v1 : List Int) (v2 : Int) : Sub impl_set_list.mk (impl_set_list.t3 some impl_set_list.l3 v0 v1 v2) (impl_set_list.t3 (fun b => some (impl_set_list.mk b)) impl_set_list.q3 v0 v1 v2) := by
  unfold impl_set_list.t3
  repeat' first | exact Sub.ret | exact Sub.none | exact Sub.loop | apply Sub.cond | (apply Sub.bind; intro _)
theorem impl_set_list.eq3 (v0 : Int) (v1 : List Int) (v2 : Int) {b : (List Int)} (h : impl_set_list.t3 some impl_set_list.l3 v0 v1 v2 = some b) : impl_set_list.l3 v0 v1 v2 = some b := tOf_intro impl_set_list.un (fun _ => by kernel_rfl) (loopAtL_step ((impl_set_list.k3 v0 v1 v2).trans (impl_set_list.s3 v0 v1 v2 b h)))
noncomputable def laws_eqStats.t {γ : Type} (ret : (Bool) → Option γ) (v0 : List Int) (v1 : List (List Int)) (v2 : List Int) (v3 : List (List Int)) : Option γ :=
  (laws_eqIntS (v0) (v2)).bind fun (r0 : Bool) =>
  bif !r0 then
    ret (Bool.false)
  else
    (laws_eqIntSS (v1) (v3)).bind fun (r1 : Bool) =>
    bif !r1 then
      ret (Bool.false)
    else
      ret (Bool.true)
theorem laws_eqStats.k (v0 : List Int) (v1 : List (List Int)) (v2 : List Int) (v3 : List (List Int)) : topL E (callT E tab) 14 Try.f14 (laws_eqStats.c v0 v1 v2 v3) = laws_eqStats.t (fun b => some (laws_eqStats.mk b)) v0 v1 v2 v3 := by kernel_rfl
theorem laws_eqStats.s (v0 : List Int) (v1 : List (List Int)) (v2 : List Int) (v3 : List (List Int)) : Sub laws_eqStats.mk (laws_eqStats.t some v0 v1 v2 v3) (laws_eqStats.t (fun b => some (laws_eqStats.mk b)) v0 v1 v2 v3) := by
  unfold laws_eqStats.t
  repeat' first | exact Sub.ret | exact Sub.none | exact Sub.loop | apply Sub.cond | (apply Sub.bind; intro _)
theorem laws_eqStats.eq (v0 : List Int) (v1 : List (List Int)) (v2 : List Int) (v3 : List (List Int)) {b : Bool} (h : laws_eqStats.t some v0 v1 v2 v3 = some b) : laws_eqStats v0 v1 v2 v3 = some b := tOf_intro laws_eqStats.un (fun _ => by kernel_rfl) (vlim_fn (callT_le E tab) rfl rfl rfl ((laws_eqStats.k v0 v1 v2 v3).trans (laws_eqStats.s v0 v1 v2 v3 b h)))
noncomputable def laws_eqIntS.q4 (v0 : List Int) (v1 : List Int) (v2 : Int) : Option R := loopAtL E (callT E tab) 15 Try.f15 2 [.r, .r, .l, .r, .b] (vc (.d .fro (.sl (.int .i64)) v0) :: vc (.d .fro (.sl (.int .i64)) v1) :: nn 3 (vc (iL v2) :: nn 20 ([])))
noncomputable def laws_eqIntS.l4 (v0 : List Int) (v1 : List Int) (v2 : Int) : Option (Bool) := tOf laws_eqIntS.mk (laws_eqIntS.q4 v0 v1 v2)
noncomputable def laws_eqIntS.t {γ : Type} (ret : (Bool) → Option γ) (lp4 : (List Int) → (List Int) → Int → Option γ) (v0 : List Int) (v1 : List Int) : Option γ :=
  bif (↑v0.length : Int) != (↑v1.length : Int) then
    ret (Bool.false)
  else
    lp4 (v0) (v1) ((0 : Int))
noncomputable def laws_eqIntS.t4 {γ : Type} (ret : (Bool) → Option γ) (lp4 : (List Int) → (List Int) → Int → Option γ) (v0 : List Int) (v1 : List Int) (v2 : Int) : Option γ :=
  bif Decidable.decide (v2 < (↑v0.length : Int)) then
    bif Decidable.decide ((0 : Int) ≤ v2) then
      bif Decidable.decide (v2.toNat < v0.length) then
        bif Decidable.decide ((0 : Int) ≤ v2) then
          bif Decidable.decide (v2.toNat < v1.length) then
            bif v0.getD v2.toNat (0 : Int) != v1.getD v2.toNat (0 : Int) then
              ret (Bool.false)
            else
              lp4 (v0) (v1) (Go.IntKind.i64.wrap (v2 + (1 : Int)))
          else
            none
        else
          none
      else
        none
    else
      none
  else
    ret (Bool.true)
theorem laws_eqIntS.k (v0 : List Int) (v1 : List Int) : topL E (callT E tab) 15 Try.f15 (laws_eqIntS.c v0 v1) = laws_eqIntS.t (fun b => some (laws_eqIntS.mk b)) laws_eqIntS.q4 v0 v1 := by kernel_rfl
theorem laws_eqIntS.k4 (v0 : List Int) (v1 : List Int) (v2 : Int) : roundL E (callT E tab) 15 Try.f15 2 [.r, .r, .l, .r, .b] (vc (.d .fro (.sl (.int .i64)) v0) :: vc (.d .fro (.sl (.int .i64)) v1) :: nn 3 (vc (iL v2) :: nn 20 ([]))) = laws_eqIntS.t4 (fun b => some (laws_eqIntS.mk b)) laws_eqIntS.q4 v0 v1 v2 := by kernel_rfl
theorem laws_eqIntS.s (v0 : List Int) (v1 : List Int) : Sub laws_eqIntS.mk (laws_eqIntS.t some laws_eqIntS.l4 v0 v1) (laws_eqIntS.t (fun b => some (laws_eqIntS.mk b)) laws_eqIntS.q4 v0 v1) := by
  unfold laws_eqIntS.t
  repeat' first | exact Sub.ret | exact Sub.none | exact Sub.loop | apply Sub.cond | (apply Sub.bind; intro _)
theorem laws_eqIntS.eq (v0 : List Int) (v1 : List Int) {b : Bool} (h : laws_eqIntS.t some laws_eqIntS.l4 v0 v1 = some b) : laws_eqIntS v0 v1 = some b := tOf_intro laws_eqIntS.un (fun _ => by kernel_rfl) (vlim_fn (callT_le E tab) rfl rfl rfl ((laws_eqIntS.k v0 v1).trans (laws_eqIntS.s v0 v1 b h)))
theorem laws_eqIntS.s4 (v0 : List Int) (v1 : List Int) (v2 : Int) : Sub laws_eqIntS.mk (laws_eqIntS.t4 some laws_eqIntS.l4 v0 v1 v2) (laws_eqIntS.t4 (fun b => some (laws_eqIntS.mk b)) laws_eqIntS.q4 v0 v1 v2) := by
  unfold laws_eqIntS.t4
  repeat' first | exact Sub.ret | exact Sub.none | exact Sub.loop | apply Sub.cond | (apply Sub.bind; intro _)
theorem laws_eqIntS.eq4 (v0 : List Int) (v1 : List Int) (v2 : Int) {b : Bool} (h : laws_eqIntS.t4 some laws_eqIntS.l4 v0 v1 v2 = some b) : laws_eqIntS.l4 v0 v1 v2 = some b := tOf_intro laws_eqIntS.un (fun _ => by kernel_rfl) (loopAtL_step ((laws_eqIntS.k4 v0 v1 v2).trans (laws_eqIntS.s4 v0 v1 v2 b h)))
noncomputable def laws_eqIntSS.q4 (v0 : List (List Int)) (v1 : List (List Int)) (v2 : Int) : Option R := loopAtL E (callT E tab) 20 Try.f20 2 [.r, .r, .l, .r, .b] (vc (.d .fro (.sl (.sl (.int .i64))) v0) :: vc (.d .fro (.sl (.sl (.int .i64))) v1) :: nn 3 (vc (iL v2) :: nn 21 ([])))
noncomputable def laws_eqIntSS.l4 (v0 : List (List Int)) (v1 : List (List Int)) (v2 : Int) : Option (Bool) := tOf laws_eqIntSS.mk (laws_eqIntSS.q4 v0 v1 v2)
noncomputable def laws_eqIntSS.t {γ : Type} (ret : (Bool) → Option γ) (lp4 : (List (List Int)) → (List (List Int)) → Int → Option γ) (v0 : List (List Int)) (v1 : List (List Int)) : Option γ :=
  bif (↑v0.length : Int) != (↑v1.length : Int) then
    ret (Bool.false)
  else
    lp4 (v0) (v1) ((0 : Int))
noncomputable def laws_eqIntSS.t4 {γ : Type} (ret : (Bool) → Option γ) (lp4 : (List (List Int)) → (List (List Int)) → Int → Option γ) (v0 : List (List Int)) (v1 : List (List Int)) (v2 : Int) : Option γ :=
  bif Decidable.decide (v2 < (↑v0.length : Int)) then
    bif Decidable.decide ((0 : Int) ≤ v2) then
      bif Decidable.decide (v2.toNat < v0.length) then
        bif Decidable.decide ((0 : Int) ≤ v2) then
          bif Decidable.decide (v2.toNat < v1.length) then
            (laws_eqIntS (v0.getD v2.toNat []) (v1.getD v2.toNat [])).bind fun (r0 : Bool) =>
            bif !r0 then
              ret (Bool.false)
            else
              lp4 (v0) (v1) (Go.IntKind.i64.wrap (v2 + (1 : Int)))
          else
            none
        else
          none
      else
        none
    else
      none
  else
    ret (Bool.true)
theorem laws_eqIntSS.k (v0 : List (List Int)) (v1 : List (List Int)) : topL E (callT E tab) 20 Try.f20 (laws_eqIntSS.c v0 v1) = laws_eqIntSS.t (fun b => some (laws_eqIntSS.mk b)) laws_eqIntSS.q4 v0 v1 := by kernel_rfl
theorem laws_eqIntSS.k4 (v0 : List (List Int)) (v1 : List (List Int)) (v2 : Int) : roundL E (callT E tab) 20 Try.f20 2 [.r, .r, .l, .r, .b] (vc (.d .fro (.sl (.sl (.int .i64))) v0) :: vc (.d .fro (.sl (.sl (.int .i64))) v1) :: nn 3 (vc (iL v2) :: nn 21 ([]))) = laws_eqIntSS.t4 (fun b => some (laws_eqIntSS.mk b)) laws_eqIntSS.q4 v0 v1 v2 := by kernel_rfl
theorem laws_eqIntSS.s (v0 : List (List Int)) (v1 : List (List Int)) : Sub laws_eqIntSS.mk (laws_eqIntSS.t some laws_eqIntSS.l4 v0 v1) (laws_eqIntSS.t (fun b => some (laws_eqIntSS.mk b)) laws_eqIntSS.q4 v0 v1) := by
  unfold laws_eqIntSS.t
  repeat' first | exact Sub.ret | exact Sub.none | exact Sub.loop | apply Sub.cond | (apply Sub.bind; intro _)
theorem laws_eqIntSS.eq (v0 : List (List Int)) (v1 : List (List Int)) {b : Bool} (h : laws_eqIntSS.t some laws_eqIntSS.l4 v0 v1 = some b) : laws_eqIntSS v0 v1 = some b := tOf_intro laws_eqIntSS.un (fun _ => by kernel_rfl) (vlim_fn (callT_le E tab) rfl rfl rfl ((laws_eqIntSS.k v0 v1).trans (laws_eqIntSS.s v0 v1 b h)))
theorem laws_eqIntSS.s4 (v0 : List (List Int)) (v1 : List (List Int)) (v2 : Int) : Sub laws_eqIntSS.mk (laws_eqIntSS.t4 some laws_eqIntSS.l4 v0 v1 v2) (laws_eqIntSS.t4 (fun b => some (laws_eqIntSS.mk b)) laws_eqIntSS.q4 v0 v1 v2) := by
  unfold laws_eqIntSS.t4
  repeat' first | exact Sub.ret | exact Sub.none | exact Sub.loop | apply Sub.cond | (apply Sub.bind; intro _)
theorem laws_eqIntSS.eq4 (v0 : List (List Int)) (v1 : List (List Int)) (v2 : Int) {b : Bool} (h : laws_eqIntSS.t4 some laws_eqIntSS.l4 v0 v1 v2 = some b) : laws_eqIntSS.l4 v0 v1 v2 = some b := tOf_intro laws_eqIntSS.un (fun _ => by kernel_rfl) (loopAtL_step ((laws_eqIntSS.k4 v0 v1 v2).trans (laws_eqIntSS.s4 v0 v1 v2 b h)))
noncomputable def spec_l7Put.q4 (v0 : List Int) (v1 : Int) (v2 : Int) : Option R := loopAtL E (callT E tab) 86 Try.f86 2 [.r, .r, .r, .l, .b] (vc (.d .fro (.sl (.int .i64)) v0) :: vc (iL v1) :: nn 3 (vc (iL v2) :: nn 33 ([])))
noncomputable def spec_l7Put.l4 (v0 : List Int) (v1 : Int) (v2 : Int) : Option ((List Int)) := tOf spec_l7Put.mk (spec_l7Put.q4 v0 v1 v2)
noncomputable def spec_l7Put.t {γ : Type} (ret : ((List Int)) → Option γ) (lp4 : (List Int) → Int → Int → Option γ) (v0 : List Int) (v1 : Int) : Option γ :=
  (spec_l1Has (v0) (v1)).bind fun (r0 : Bool) =>
  bif r0 then
    ret (v0)
  else
    lp4 (v0) (v1) ((0 : Int))
noncomputable def spec_l7Put.t4 {γ : Type} (ret : ((List Int)) → Option γ) (lp4 : (List Int) → Int → Int → Option γ) (v0 : List Int) (v1 : Int) (v2 : Int) : Option γ :=
  bif Decidable.decide (v2 < (↑v0.length : Int)) then
    bif Decidable.decide ((0 : Int) ≤ v2) then
      bif Decidable.decide (v2.toNat < v0.length) then
        bif Decidable.decide (v0.getD v2.toNat (0 : Int) < v1) then
          lp4 (v0) (v1) (Go.IntKind.i64.wrap (v2 + (1 : Int)))
        else
          bif Decidable.decide (Option.none.getD (0 : Int) ≤ v2) then
            bif Decidable.decide (v2 ≤ (↑v0.length : Int)) then
              bif Decidable.decide   ((List.take (v2 - Option.none.getD (0 : Int)).toNat (List.drop (Option.none.getD (0 : Int)).toNat v0)).length ≤     (4294967296 : Nat)) then
                bif Decidable.decide   ((List.take (v2 - Option.none.getD (0 : Int)).toNat (List.drop (Option.none.getD (0 : Int)).toNat v0)).length +       [v1].length ≤     (4294967296 : Nat)) then
                  bif Decidable.decide ((0 : Int) ≤ (Option.some v2).getD (0 : Int)) then
                    bif Decidable.decide ((Option.some v2).getD (0 : Int) ≤ (↑v0.length : Int)) then
                      bif Decidable.decide   ((List.take (v2 - Option.none.getD (0 : Int)).toNat (List.drop (Option.none.getD (0 : Int)).toNat v0) ++           [v1]).length +       (List.drop ((Option.some v2).getD (0 : Int)).toNat v0).length ≤     (4294967296 : Nat)) then
                        ret (List.take (v2 - Option.none.getD (0 : Int)).toNat (List.drop (Option.none.getD (0 : Int)).toNat v0) ++ [v1] ++   List.drop ((Option.some v2).getD (0 : Int)).toNat v0)
                      else
                        none
                    else
                      none
                  else
                    none
                else
                  none
              else
                none
            else
              none
          else
            none
      else
        none
    else
      none
  else
    bif Decidable.decide (Option.none.getD (0 : Int) ≤ v2) then
      bif Decidable.decide (v2 ≤ (↑v0.length : Int)) then
        bif Decidable.decide   ((List.take (v2 - Option.none.getD (0 : Int)).toNat (List.drop (Option.none.getD (0 : Int)).toNat v0)).length ≤     (4294967296 : Nat)) then
          bif Decidable.decide   ((List.take (v2 - Option.none.getD (0 : Int)).toNat (List.drop (Option.none.getD (0 : Int)).toNat v0)).length +       [v1].length ≤     (4294967296 : Nat)) then
            bif Decidable.decide ((0 : Int) ≤ (Option.some v2).getD (0 : Int)) then
              bif Decidable.decide ((Option.some v2).getD (0 : Int) ≤ (↑v0.length : Int)) then
                bif Decidable.decide   ((List.take (v2 - Option.none.getD (0 : Int)).toNat (List.drop (Option.none.getD (0 : Int)).toNat v0) ++           [v1]).length +       (List.drop ((Option.some v2).getD (0 : Int)).toNat v0).length ≤     (4294967296 : Nat)) then
                  ret (List.take (v2 - Option.none.getD (0 : Int)).toNat (List.drop (Option.none.getD (0 : Int)).toNat v0) ++ [v1] ++   List.drop ((Option.some v2).getD (0 : Int)).toNat v0)
                else
                  none
              else
                none
            else
              none
          else
            none
        else
          none
      else
        none
    else
      none
theorem spec_l7Put.k (v0 : List Int) (v1 : Int) : topL E (callT E tab) 86 Try.f86 (spec_l7Put.c v0 v1) = spec_l7Put.t (fun b => some (spec_l7Put.mk b)) spec_l7Put.q4 v0 v1 := by kernel_rfl
theorem spec_l7Put.k4 (v0 : List Int) (v1 : Int) (v2 : Int) : roundL E (callT E tab) 86 Try.f86 2 [.r, .r, .r, .l, .b] (vc (.d .fro (.sl (.int .i64)) v0) :: vc (iL v1) :: nn 3 (vc (iL v2) :: nn 33 ([]))) = spec_l7Put.t4 (fun b => some (spec_l7Put.mk b)) spec_l7Put.q4 v0 v1 v2 := by kernel_rfl
theorem spec_l7Put.s (v0 : List Int) (v1 : Int) : Sub spec_l7Put.mk (spec_l7Put.t some spec_l7Put.l4 v0 v1) (spec_l7Put.t (fun b => some (spec_l7Put.mk b)) spec_l7Put.q4 v0 v1) := by
  unfold spec_l7Put.t
  repeat' first | exact Sub.ret | exact Sub.none | exact Sub.loop | apply Sub.cond | (apply Sub.bind; intro _)
theorem spec_l7Put.eq (v0 : List Int) (v1 : Int) {b : (List Int)} (h : spec_l7Put.t some spec_l7Put.l4 v0 v1 = some b) : spec_l7Put v0 v1 = some b := tOf_intro spec_l7Put.un (fun _ => by kernel_rfl) (vlim_fn (callT_le E tab) rfl rfl rfl ((spec_l7Put.k v0 v1).trans (spec_l7Put.s v0 v1 b h)))
theorem spec_l7Put.s4 (v0 : List Int) (v1 : Int) (v2 : Int) : Sub spec_l7Put.mk (spec_l7Put.t4 some spec_l7Put.l4 v0 v1 v2) (spec_l7Put.t4 (fun b => some (spec_l7Put.mk b)) spec_l7Put.q4 v0 v1 v2) := by
  unfold spec_l7Put.t4
  repeat' first | exact Sub.ret | exact Sub.none | exact Sub.loop | apply Sub.cond | (apply Sub.bind; intro _)
theorem spec_l7Put.eq4 (v0 : List Int) (v1 : Int) (v2 : Int) {b : (List Int)} (h : spec_l7Put.t4 some spec_l7Put.l4 v0 v1 v2 = some b) : spec_l7Put.l4 v0 v1 v2 = some b := tOf_intro spec_l7Put.un (fun _ => by kernel_rfl) (loopAtL_step ((spec_l7Put.k4 v0 v1 v2).trans (spec_l7Put.s4 v0 v1 v2 b h)))
noncomputable def spec_l1Has.q2 (v0 : Int) (v1 : List Int) (v2 : Int) (v3 : Int) : Option R := loopAtL E (callT E tab) 73 Try.f73 2 [.r, .l, .r, .b] (nn 1 (vc (iL v0) :: nn 5 (vc (.d .fro (.sl (.int .i64)) v1) :: vc (iL v2) :: vc (iL v3) :: nn 7 ([]))))
noncomputable def spec_l1Has.l2 (v0 : Int) (v1 : List Int) (v2 : Int) (v3 : Int) : Option (Bool) := tOf spec_l1Has.mk (spec_l1Has.q2 v0 v1 v2 v3)
noncomputable def spec_l1Has.t {γ : Type} (ret : (Bool) → Option γ) (lp2 : Int → (List Int) → Int → Int → Option γ) (v0 : List Int) (v1 : Int) : Option γ :=
  lp2 (v1) (v0) ((↑v0.length : Int)) ((0 : Int))
noncomputable def spec_l1Has.t2 {γ : Type} (ret : (Bool) → Option γ) (lp2 : Int → (List Int) → Int → Int → Option γ) (v0 : Int) (v1 : List Int) (v2 : Int) (v3 : Int) : Option γ :=
  bif Decidable.decide (v3 < v2) then
    bif Decidable.decide ((0 : Int) ≤ v3) then
      bif Decidable.decide (v3.toNat < v1.length) then
        bif v1.getD v3.toNat (0 : Int) == v0 then
          ret (Bool.true)
        else
          lp2 (v0) (v1) (v2) (Go.IntKind.i64.wrap (v3 + (1 : Int)))
      else
        none
    else
      none
  else
    ret (Bool.false)
theorem spec_l1Has.k (v0 : List Int) (v1 : Int) : topL E (callT E tab) 73 Try.f73 (spec_l1Has.c v0 v1) = spec_l1Has.t (fun b => some (spec_l1Has.mk b)) spec_l1Has.q2 v0 v1 := by kernel_rfl
theorem spec_l1Has.k2 (v0 : Int) (v1 : List Int) (v2 : Int) (v3 : Int) : roundL E (callT E tab) 73 Try.f73 2 [.r, .l, .r, .b] (nn 1 (vc (iL v0) :: nn 5 (vc (.d .fro (.sl (.int .i64)) v1) :: vc (iL v2) :: vc (iL v3) :: nn 7 ([])))) = spec_l1Has.t2 (fun b => some (spec_l1Has.mk b)) spec_l1Has.q2 v0 v1 v2 v3 := by kernel_rfl
theorem spec_l1Has.s (v0 : List Int) (v1 : Int) : Sub spec_l1Has.mk (spec_l1Has.t some spec_l1Has.l2 v0 v1) (spec_l1Has.t (fun b => some (spec_l1Has.mk b)) spec_l1Has.q2 v0 v1) := by
  unfold spec_l1Has.t
  repeat' first | exact Sub.ret | exact Sub.none | exact Sub.loop | apply Sub.cond | (apply Sub.bind; intro _)
theorem spec_l1Has.eq (v0 : List Int) (v1 : Int) {b : Bool} (h : spec_l1Has.t some spec_l1Has.l2 v0 v1 = some b) : spec_l1Has v0 v1 = some b := tOf_intro spec_l1Has.un (fun _ => by kernel_rfl) (vlim_fn (callT_le E tab) rfl rfl rfl ((spec_l1Has.k v0 v1).trans (spec_l1Has.s v0 v1 b h)))
theorem spec_l1Has.s2 (v0 : Int) (v1 : List Int) (v2 : Int) (v3 : Int) : Sub spec_l1Has.mk (spec_l1Has.t2 some spec_l1Has.l2 v0 v1 v2 v3) (spec_l1Has.t2 (fun b => some (spec_l1Has.mk b)) spec_l1Has.q2 v0 v1 v2 v3) := by
  unfold spec_l1Has.t2
  repeat' first | exact Sub.ret | exact Sub.none | exact Sub.loop | apply Sub.cond | (apply Sub.bind; intro _)
theorem spec_l1Has.eq2 (v0 : Int) (v1 : List Int) (v2 : Int) (v3 : Int) {b : Bool} (h : spec_l1Has.t2 some spec_l1Has.l2 v0 v1 v2 v3 = some b) : spec_l1Has.l2 v0 v1 v2 v3 = some b := tOf_intro spec_l1Has.un (fun _ => by kernel_rfl) (loopAtL_step ((spec_l1Has.k2 v0 v1 v2 v3).trans (spec_l1Has.s2 v0 v1 v2 v3 b h)))
noncomputable def laws_FnExactCostOf.t {γ : Type} (ret : (Bool) → Option γ) (v0 : List Int) (v1 : List (List Int)) (v2 : List Int) : Option γ :=
  bif Decidable.decide ((↑v2.length : Int) > (1048576 : Int)) then
    ret (Bool.true)
  else
    (laws_szStats (v0) (v1) ((1048576 : Int))).bind fun (r0 : Int) =>
    bif Decidable.decide (r0 < (0 : Int)) then
      ret (Bool.true)
    else
      (laws_toStats (v0) (v1)).bind fun (r1 : (List Int) × (List (List Int))) =>
      (laws_toIntS (v2)).bind fun (r2 : (List Int)) =>
      (spec_CostOf (r1.fst) (r1.snd) (r2)).bind fun (r3 : Int × Bool) =>
      (laws_toStats (v0) (v1)).bind fun (r4 : (List Int) × (List (List Int))) =>
      (laws_toIntS (v2)).bind fun (r5 : (List Int)) =>
      (impl_CostOf (r4.fst) (r4.snd) (r5)).bind fun (r6 : Int × Bool) =>
      bif r6.fst != r3.fst then
        ret (Bool.false)
      else
        bif !r6.snd == r3.snd then
          ret (Bool.false)
        else
          (laws_toStats (v0) (v1)).bind fun (r7 : (List Int) × (List (List Int))) =>
          (laws_eqStats (r4.fst) (r4.snd) (r7.fst) (r7.snd)).bind fun (r8 : Bool) =>
          bif !r8 then
            ret (Bool.false)
          else
            (laws_toIntS (v2)).bind fun (r9 : (List Int)) =>
            (laws_eqIntS (r5) (r9)).bind fun (r10 : Bool) =>
            bif !r10 then
              ret (Bool.false)
            else
              ret (Bool.true)
theorem laws_FnExactCostOf.k (v0 : List Int) (v1 : List (List Int)) (v2 : List Int) : topL E (callT E tab) 8 Try.f8 (laws_FnExactCostOf.c v0 v1 v2) = laws_FnExactCostOf.t (fun b => some (laws_FnExactCostOf.mk b)) v0 v1 v2 := by kernel_rfl
theorem laws_FnExactCostOf.s (v0 : List Int) (v1 : List (List Int)) (v2 : List Int) : Sub laws_FnExactCostOf.mk (laws_FnExactCostOf.t some v0 v1 v2) (laws_FnExactCostOf.t (fun b => some (laws_FnExactCostOf.mk b)) v0 v1 v2) := by
  unfold laws_FnExactCostOf.t
  repeat' first | exact Sub.ret | exact Sub.none | exact Sub.loop | apply Sub.cond | (apply Sub.bind; intro _)
theorem laws_FnExactCostOf.eq (v0 : List Int) (v1 : List (List Int)) (v2 : List Int) {b : Bool} (h : laws_FnExactCostOf.t some v0 v1 v2 = some b) : laws_FnExactCostOf v0 v1 v2 = some b := tOf_intro laws_FnExactCostOf.un (fun _ => by kernel_rfl) (vlim_fn (callT_le E tab) rfl rfl rfl ((laws_FnExactCostOf.k v0 v1 v2).trans (laws_FnExactCostOf.s v0 v1 v2 b h)))
noncomputable def spec_CostOf.t {γ : Type} (ret : (Int × Bool) → Option γ) (v0 : List Int) (v1 : List (List Int)) (v2 : List Int) : Option γ :=
  (spec_IsOrder (v0) (v1) (v2)).bind fun (r0 : Bool) =>
  bif !r0 then
    ret ((0 : Int), Bool.false)
  else
    (spec_l12Cost (v0) (v1) (v2)).bind fun (r1 : Int) =>
    ret (r1, Bool.true)
theorem spec_CostOf.k (v0 : List Int) (v1 : List (List Int)) (v2 : List Int) : topL E (callT E tab) 38 Try.f38 (spec_CostOf.c v0 v1 v2) = spec_CostOf.t (fun b => some (spec_CostOf.mk b)) v0 v1 v2 := by kernel_rfl
theorem spec_CostOf.s (v0 : List Int) (v1 : List (List Int)) (v2 : List Int) : Sub spec_CostOf.mk (spec_CostOf.t some v0 v1 v2) (spec_CostOf.t (fun b => some (spec_CostOf.mk b)) v0 v1 v2) := by
  unfold spec_CostOf.t
  repeat' first | exact Sub.ret | exact Sub.none | exact Sub.loop | apply Sub.cond | (apply Sub.bind; intro _)
theorem spec_CostOf.eq (v0 : List Int) (v1 : List (List Int)) (v2 : List Int) {b : Int × Bool} (h : spec_CostOf.t some v0 v1 v2 = some b) : spec_CostOf v0 v1 v2 = some b := tOf_intro spec_CostOf.un (fun _ => by kernel_rfl) (vlim_fn (callT_le E tab) rfl rfl rfl ((spec_CostOf.k v0 v1 v2).trans (spec_CostOf.s v0 v1 v2 b h)))
noncomputable def spec_IsOrder.q5 (v0 : List Int) (v1 : List Int) (v2 : List Int) (v3 : Int) (v4 : Int) : Option R := loopAtL E (callT E tab) 78 Try.f78 2 [.r, .r, .r, .l, .r, .b] (nn 1 (vc (.d .fro (.sl (.int .i64)) v0) :: nn 3 (vc (.d .fro (.sl (.int .i64)) v1) :: nn 13 (vc (.d .fro (.sl (.int .i64)) v2) :: vc (iL v3) :: vc (iL v4) :: nn 20 ([])))))
noncomputable def spec_IsOrder.l5 (v0 : List Int) (v1 : List Int) (v2 : List Int) (v3 : Int) (v4 : Int) : Option (Bool) := tOf spec_IsOrder.mk (spec_IsOrder.q5 v0 v1 v2 v3 v4)
noncomputable def spec_IsOrder.t {γ : Type} (ret : (Bool) → Option γ) (lp5 : (List Int) → (List Int) → (List Int) → Int → Int → Option γ) (v0 : List Int) (v1 : List (List Int)) (v2 : List Int) : Option γ :=
  (spec_GoodStats (v0) (v1)).bind fun (r0 : Bool) =>
  bif !r0 then
    ret (Bool.false)
  else
    bif (↑v2.length : Int) != (↑v0.length : Int) then
      ret (Bool.false)
    else
      lp5 (v2) ([]) (v2) ((↑v2.length : Int)) ((0 : Int))
noncomputable def spec_IsOrder.t5 {γ : Type} (ret : (Bool) → Option γ) (lp5 : (List Int) → (List Int) → (List Int) → Int → Int → Option γ) (v0 : List Int) (v1 : List Int) (v2 : List Int) (v3 : Int) (v4 : Int) : Option γ :=
  bif Decidable.decide (v4 < v3) then
    bif Decidable.decide ((0 : Int) ≤ v4) then
      bif Decidable.decide (v4.toNat < v2.length) then
        bif Decidable.decide (v2.getD v4.toNat (0 : Int) < (0 : Int)) then
          ret (Bool.false)
        else
          bif Decidable.decide (v2.getD v4.toNat (0 : Int) ≥ (↑v0.length : Int)) then
            ret (Bool.false)
          else
            (spec_l7Put (v1) (v2.getD v4.toNat (0 : Int))).bind fun (r1 : (List Int)) =>
            lp5 (v0) (r1) (v2) (v3) (Go.IntKind.i64.wrap (v4 + (1 : Int)))
      else
        none
    else
      none
  else
    ret ((↑v1.length : Int) == (↑v0.length : Int))
theorem spec_IsOrder.k (v0 : List Int) (v1 : List (List Int)) (v2 : List Int) : topL E (callT E tab) 78 Try.f78 (spec_IsOrder.c v0 v1 v2) = spec_IsOrder.t (fun b => some (spec_IsOrder.mk b)) spec_IsOrder.q5 v0 v1 v2 := by kernel_rfl
theorem spec_IsOrder.k5 (v0 : List Int) (v1 : List Int) (v2 : List Int) (v3 : Int) (v4 : Int) : roundL E (callT E tab) 78 Try.f78 2 [.r, .r, .r, .l, .r, .b] (nn 1 (vc (.d .fro (.sl (.int .i64)) v0) :: nn 3 (vc (.d .fro (.sl (.int .i64)) v1) :: nn 13 (vc (.d .fro (.sl (.int .i64)) v2) :: vc (iL v3) :: vc (iL v4) :: nn 20 ([]))))) = spec_IsOrder.t5 (fun b => some (spec_IsOrder.mk b)) spec_IsOrder.q5 v0 v1 v2 v3 v4 := by kernel_rfl
theorem spec_IsOrder.s (v0 : List Int) (v1 : List (List Int)) (v2 : List Int) : Sub spec_IsOrder.mk (spec_IsOrder.t some spec_IsOrder.l5 v0 v1 v2) (spec_IsOrder.t (fun b => some (spec_IsOrder.mk b)) spec_IsOrder.q5 v0 v1 v2) := by
  unfold spec_IsOrder.t
  repeat' first | exact Sub.ret | exact Sub.none | exact Sub.loop | apply Sub.cond | (apply Sub.bind; intro _)
theorem spec_IsOrder.eq (v0 : List Int) (v1 : List (List Int)) (v2 : List Int) {b : Bool} (h : spec_IsOrder.t some spec_IsOrder.l5 v0 v1 v2 = some b) : spec_IsOrder v0 v1 v2 = some b := tOf_intro spec_IsOrder.un (fun _ => by kernel_rfl) (vlim_fn (callT_le E tab) rfl rfl rfl ((spec_IsOrder.k v0 v1 v2).trans (spec_IsOrder.s v0 v1 v2 b h)))
theorem spec_IsOrder.s5 (v0 : List Int) (v1 : List Int) (v2 : List Int) (v3 : Int) (v4 : Int) : Sub spec_IsOrder.mk (spec_IsOrder.t5 some spec_IsOrder.l5 v0 v1 v2 v3 v4) (spec_IsOrder.t5 (fun b => some (spec_IsOrder.mk b)) spec_IsOrder.q5 v0 v1 v2 v3 v4) := by
  unfold spec_IsOrder.t5
  repeat' first | exact Sub.ret | exact Sub.none | exact Sub.loop | apply Sub.cond | (apply Sub.bind; intro _)
theorem spec_IsOrder.eq5 (v0 : List Int) (v1 : List Int) (v2 : List Int) (v3 : Int) (v4 : Int) {b : Bool} (h : spec_IsOrder.t5 some spec_IsOrder.l5 v0 v1 v2 v3 v4 = some b) : spec_IsOrder.l5 v0 v1 v2 v3 v4 = some b := tOf_intro spec_IsOrder.un (fun _ => by kernel_rfl) (loopAtL_step ((spec_IsOrder.k5 v0 v1 v2 v3 v4).trans (spec_IsOrder.s5 v0 v1 v2 v3 v4 b h)))
noncomputable def spec_l12Cost.q4 (v0 : List Int) (v1 : List (List Int)) (v2 : Int) (v3 : List Int) (v4 : List Int) (v5 : Int) (v6 : Int) : Option R := loopAtL E (callT E tab) 79 Try.f79 2 [.r, .r, .r, .l, .r, .b] (nn 2 (⟨(.box false), [.d .fro (.sl (.int .i64)) v0, .d .fro (.sl (.sl (.int .i64))) v1], false, false, false, 0, 0⟩ :: nn 2 (vc (iL v2) :: vc (.d .fro (.sl (.int .i64)) v3) :: nn 2 (vc (.d .fro (.sl (.int .i64)) v4) :: vc (iL v5) :: vc (iL v6) :: nn 16 ([])))))
noncomputable def spec_l12Cost.l4 (v0 : List Int) (v1 : List (List Int)) (v2 : Int) (v3 : List Int) (v4 : List Int) (v5 : Int) (v6 : Int) : Option (Int) := tOf spec_l12Cost.mk (spec_l12Cost.q4 v0 v1 v2 v3 v4 v5 v6)
noncomputable def spec_l12Cost.t {γ : Type} (ret : (Int) → Option γ) (lp4 : (List Int) → (List (List Int)) → Int → (List Int) → (List Int) → Int → Int → Option γ) (v0 : List Int) (v1 : List (List Int)) (v2 : List Int) : Option γ :=
  lp4 (v0) (v1) ((0 : Int)) ([]) (v2) ((↑v2.length : Int)) ((0 : Int))
noncomputable def spec_l12Cost.t4 {γ : Type} (ret : (Int) → Option γ) (lp4 : (List Int) → (List (List Int)) → Int → (List Int) → (List Int) → Int → Int → Option γ) (v0 : List Int) (v1 : List (List Int)) (v2 : Int) (v3 : List Int) (v4 : List Int) (v5 : Int) (v6 : Int) : Option γ :=
  bif Decidable.decide (v6 < v5) then
    bif Decidable.decide ((0 : Int) ≤ v6) then
      bif Decidable.decide (v6.toNat < v4.length) then
        (spec_l7Put (v3) (v4.getD v6.toNat (0 : Int))).bind fun (r0 : (List Int)) =>
        bif Decidable.decide (v6 > (0 : Int)) then
          (spec_l12Size (v0) (v1) (r0)).bind fun (r1 : Int) =>
          lp4 (v0) (v1) (Go.IntKind.i64.wrap (v2 + r1)) (r0) (v4) (v5) (Go.IntKind.i64.wrap (v6 + (1 : Int)))
        else
          lp4 (v0) (v1) (v2) (r0) (v4) (v5) (Go.IntKind.i64.wrap (v6 + (1 : Int)))
      else
        none
    else
      none
  else
    ret (v2)
theorem spec_l12Cost.k (v0 : List Int) (v1 : List (List Int)) (v2 : List Int) : topL E (callT E tab) 79 Try.f79 (spec_l12Cost.c v0 v1 v2) = spec_l12Cost.t (fun b => some (spec_l12Cost.mk b)) spec_l12Cost.q4 v0 v1 v2 := by kernel_rfl
theorem spec_l12Cost.k4 (v0 : List Int) (v1 : List (List Int)) (v2 : Int) (v3 : List Int) (v4 : List Int) (v5 : Int) (v6 : Int) : roundL E (callT E tab) 79 Try.f79 2 [.r, .r, .r, .l, .r, .b] (nn 2 (⟨(.box false), [.d .fro (.sl (.int .i64)) v0, .d .fro (.sl (.sl (.int .i64))) v1], false, false, false, 0, 0⟩ :: nn 2 (vc (iL v2) :: vc (.d .fro (.sl (.int .i64)) v3) :: nn 2 (vc (.d .fro (.sl (.int .i64)) v4) :: vc (iL v5) :: vc (iL v6) :: nn 16 ([]))))) = spec_l12Cost.t4 (fun b => some (spec_l12Cost.mk b)) spec_l12Cost.q4 v0 v1 v2 v3 v4 v5 v6 := by kernel_rfl
theorem spec_l12Cost.s (v0 : List Int) (v1 : List (List Int)) (v2 : List Int) : Sub spec_l12Cost.mk (spec_l12Cost.t some spec_l12Cost.l4 v0 v1 v2) (spec_l12Cost.t (fun b => some (spec_l12Cost.mk b)) spec_l12Cost.q4 v0 v1 v2) := by
  unfold spec_l12Cost.t
  repeat' first | exact Sub.ret | exact Sub.none | exact Sub.loop | apply Sub.cond | (apply Sub.bind; intro _)
theorem spec_l12Cost.eq (v0 : List Int) (v1 : List (List Int)) (v2 : List Int) {b : Int} (h : spec_l12Cost.t some spec_l12Cost.l4 v0 v1 v2 = some b) : spec_l12Cost v0 v1 v2 = some b := tOf_intro spec_l12Cost.un (fun _ => by kernel_rfl) (vlim_fn (callT_le E tab) rfl rfl rfl ((spec_l12Cost.k v0 v1 v2).trans (spec_l12Cost.s v0 v1 v2 b h)))
theorem spec_l12Cost.s4 (v0 : List Int) (v1 : List (List Int)) (v2 : Int) (v3 : List Int) (v4 : List Int) (v5 : Int) (v6 : Int) : Sub spec_l12Cost.mk (spec_l12Cost.t4 some spec_l12Cost.l4 v0 v1 v2 v3 v4 v5 v6) (spec_l12Cost.t4 (fun b => some (spec_l12Cost.mk b)) spec_l12Cost.q4 v0 v1 v2 v3 v4 v5 v6) := by
  unfold spec_l12Cost.t4
  repeat' first | exact Sub.ret | exact Sub.none | exact Sub.loop | apply Sub.cond | (apply Sub.bind; intro _)
theorem spec_l12Cost.eq4 (v0 : List Int) (v1 : List (List Int)) (v2 : Int) (v3 : List Int) (v4 : List Int) (v5 : Int) (v6 : Int) {b : Int} (h : spec_l12Cost.t4 some spec_l12Cost.l4 v0 v1 v2 v3 v4 v5 v6 = some b) : spec_l12Cost.l4 v0 v1 v2 v3 v4 v5 v6 = some b := tOf_intro spec_l12Cost.un (fun _ => by kernel_rfl) (loopAtL_step ((spec_l12Cost.k4 v0 v1 v2 v3 v4 v5 v6).trans (spec_l12Cost.s4 v0 v1 v2 v3 v4 v5 v6 b h)))
noncomputable def impl_CostOf.q5 (v0 : List Int) (v1 : List Int) (v2 : List (List Int)) (v3 : Int) (v4 : Int) : Option R := loopAtL E (callT E tab) 39 Try.f39 2 [.r, .r, .r, .l, .r, .b] (nn 1 (vc (.d .fro (.sl (.int .i64)) v0) :: ⟨(.box false), [.d .fro (.sl (.int .i64)) v1, .d .fro (.sl (.sl (.int .i64))) v2], false, false, false, 0, 0⟩ :: nn 3 (vc (iL v3) :: vc (iL v4) :: nn 19 ([]))))
noncomputable def impl_CostOf.l5 (v0 : List Int) (v1 : List Int) (v2 : List (List Int)) (v3 : Int) (v4 : Int) : Option (Int × Bool) := tOf impl_CostOf.mk (impl_CostOf.q5 v0 v1 v2 v3 v4)
noncomputable def impl_CostOf.t {γ : Type} (ret : (Int × Bool) → Option γ) (lp5 : (List Int) → (List Int) → (List (List Int)) → Int → Int → Option γ) (v0 : List Int) (v1 : List (List Int)) (v2 : List Int) : Option γ :=
  (impl_IsOrder (v0) (v1) (v2)).bind fun (r0 : Bool) =>
  bif !r0 then
    ret ((0 : Int), Bool.false)
  else
    lp5 (v2) (v0) (v1) ((0 : Int)) ((2 : Int))
noncomputable def impl_CostOf.t5 {γ : Type} (ret : (Int × Bool) → Option γ) (lp5 : (List Int) → (List Int) → (List (List Int)) → Int → Int → Option γ) (v0 : List Int) (v1 : List Int) (v2 : List (List Int)) (v3 : Int) (v4 : Int) : Option γ :=
  bif Decidable.decide (v4 ≤ (↑v0.length : Int)) then
    bif Decidable.decide (Option.none.getD (0 : Int) ≤ v4) then
      bif Decidable.decide (v4 ≤ (↑v0.length : Int)) then
        (impl_setOf (List.take (v4 - Option.none.getD (0 : Int)).toNat (List.drop (Option.none.getD (0 : Int)).toNat v0))).bind fun (r1 : Int) =>
        (impl_Stats_size (v1) (v2) (r1)).bind fun (r2 : Int) =>
        lp5 (v0) (v1) (v2) (Go.IntKind.i64.wrap (v3 + r2)) (Go.IntKind.i64.wrap (v4 + (1 : Int)))
      else
        none
    else
      none
  else
    ret (v3, Bool.true)
theorem impl_CostOf.k (v0 : List Int) (v1 : List (List Int)) (v2 : List Int) : topL E (callT E tab) 39 Try.f39 (impl_CostOf.c v0 v1 v2) = impl_CostOf.t (fun b => some (impl_CostOf.mk b)) impl_CostOf.q5 v0 v1 v2 := by kernel_rfl
theorem impl_CostOf.k5 (v0 : List Int) (v1 : List Int) (v2 : List (List Int)) (v3 : Int) (v4 : Int) : roundL E (callT E tab) 39 Try.f39 2 [.r, .r, .r, .l, .r, .b] (nn 1 (vc (.d .fro (.sl (.int .i64)) v0) :: ⟨(.box false), [.d .fro (.sl (.int .i64)) v1, .d .fro (.sl (.sl (.int .i64))) v2], false, false, false, 0, 0⟩ :: nn 3 (vc (iL v3) :: vc (iL v4) :: nn 19 ([])))) = impl_CostOf.t5 (fun b => some (impl_CostOf.mk b)) impl_CostOf.q5 v0 v1 v2 v3 v4 := by kernel_rfl
theorem impl_CostOf.s (v0 : List Int) (v1 : List (List Int)) (v2 : List Int) : Sub impl_CostOf.mk (impl_CostOf.t some impl_CostOf.l5 v0 v1 v2) (impl_CostOf.t (fun b => some (impl_CostOf.mk b)) impl_CostOf.q5 v0 v1 v2) := by
  unfold impl_CostOf.t
  repeat' first | exact Sub.ret | exact Sub.none | exact Sub.loop | apply Sub.cond | (apply Sub.bind; intro _)
theorem impl_CostOf.eq (v0 : List Int) (v1 : List (List Int)) (v2 : List Int) {b : Int × Bool} (h : impl_CostOf.t some impl_CostOf.l5 v0 v1 v2 = some b) : impl_CostOf v0 v1 v2 = some b := tOf_intro impl_CostOf.un (fun _ => by kernel_rfl) (vlim_fn (callT_le E tab) rfl rfl rfl ((impl_CostOf.k v0 v1 v2).trans (impl_CostOf.s v0 v1 v2 b h)))
theorem impl_CostOf.s5 (v0 : List Int) (v1 : List Int) (v2 : List (List Int)) (v3 : Int) (v4 : Int) : Sub impl_CostOf.mk (impl_CostOf.t5 some impl_CostOf.l5 v0 v1 v2 v3 v4) (impl_CostOf.t5 (fun b => some (impl_CostOf.mk b)) impl_CostOf.q5 v0 v1 v2 v3 v4) := by
  unfold impl_CostOf.t5
  repeat' first | exact Sub.ret | exact Sub.none | exact Sub.loop | apply Sub.cond | (apply Sub.bind; intro _)
theorem impl_CostOf.eq5 (v0 : List Int) (v1 : List Int) (v2 : List (List Int)) (v3 : Int) (v4 : Int) {b : Int × Bool} (h : impl_CostOf.t5 some impl_CostOf.l5 v0 v1 v2 v3 v4 = some b) : impl_CostOf.l5 v0 v1 v2 v3 v4 = some b := tOf_intro impl_CostOf.un (fun _ => by kernel_rfl) (loopAtL_step ((impl_CostOf.k5 v0 v1 v2 v3 v4).trans (impl_CostOf.s5 v0 v1 v2 v3 v4 b h)))
noncomputable def impl_IsOrder.t {γ : Type} (ret : (Bool) → Option γ) (v0 : List Int) (v1 : List (List Int)) (v2 : List Int) : Option γ :=
  (impl_GoodStats (v0) (v1)).bind fun (r0 : Bool) =>
  bif r0 then
    (impl_Stats_isOrder (v0) (v1) (v2)).bind fun (r1 : Bool) =>
    ret (r1)
  else
    ret (Bool.false)
theorem impl_IsOrder.k (v0 : List Int) (v1 : List (List Int)) (v2 : List Int) : topL E (callT E tab) 80 Try.f80 (impl_IsOrder.c v0 v1 v2) = impl_IsOrder.t (fun b => some (impl_IsOrder.mk b)) v0 v1 v2 := by kernel_rfl
theorem impl_IsOrder.s (v0 : List Int) (v1 : List (List Int)) (v2 : List Int) : Sub impl_IsOrder.mk (impl_IsOrder.t some v0 v1 v2) (impl_IsOrder.t (fun b => some (impl_IsOrder.mk b)) v0 v1 v2) := by
  unfold impl_IsOrder.t
  repeat' first | exact Sub.ret | exact Sub.none | exact Sub.loop | apply Sub.cond | (apply Sub.bind; intro _)
theorem impl_IsOrder.eq (v0 : List Int) (v1 : List (List Int)) (v2 : List Int) {b : Bool} (h : impl_IsOrder.t some v0 v1 v2 = some b) : impl_IsOrder v0 v1 v2 = some b := tOf_intro impl_IsOrder.un (fun _ => by kernel_rfl) (vlim_fn (callT_le E tab) rfl rfl rfl ((impl_IsOrder.k v0 v1 v2).trans (impl_IsOrder.s v0 v1 v2 b h)))
noncomputable def impl_Stats_isOrder.q3 (v0 : List Int) (v1 : List Int) (v2 : List (List Int)) (v3 : Int) (v4 : List Int) (v5 : Int) (v6 : Int) : Option R := loopAtL E (callT E tab) 103 Try.f103 2 [.r, .r, .l, .r, .b] (nn 1 (vc (.d .fro (.sl (.int .i64)) v0) :: ⟨(.box false), [.d .fro (.sl (.int .i64)) v1, .d .fro (.sl (.sl (.int .i64))) v2], false, false, false, 0, 0⟩ :: nn 2 (vc (iL v3) :: nn 2 (vc (.d .fro (.sl (.int .i64)) v4) :: vc (iL v5) :: vc (iL v6) :: nn 27 ([])))))
noncomputable def impl_Stats_isOrder.l3 (v0 : List Int) (v1 : List Int) (v2 : List (List Int)) (v3 : Int) (v4 : List Int) (v5 : Int) (v6 : Int) : Option (Bool) := tOf impl_Stats_isOrder.mk (impl_Stats_isOrder.q3 v0 v1 v2 v3 v4 v5 v6)
noncomputable def impl_Stats_isOrder.t {γ : Type} (ret : (Bool) → Option γ) (lp3 : (List Int) → (List Int) → (List (List Int)) → Int → (List Int) → Int → Int → Option γ) (v0 : List Int) (v1 : List (List Int)) (v2 : List Int) : Option γ :=
  lp3 (v2) (v0) (v1) ((0 : Int)) (v2) ((↑v2.length : Int)) ((0 : Int))
noncomputable def impl_Stats_isOrder.t3 {γ : Type} (ret : (Bool) → Option γ) (lp3 : (List Int) → (List Int) → (List (List Int)) → Int → (List Int) → Int → Int → Option γ) (v0 : List Int) (v1 : List Int) (v2 : List (List Int)) (v3 : Int) (v4 : List Int) (v5 : Int) (v6 : Int) : Option γ :=
  bif Decidable.decide (v6 < v5) then
    bif Decidable.decide ((0 : Int) ≤ v6) then
      bif Decidable.decide (v6.toNat < v4.length) then
        (impl_within (v4.getD v6.toNat (0 : Int)) ((0 : Int)) (Go.IntKind.i64.wrap ((↑v1.length : Int) - (1 : Int)))).bind fun (r0 : Bool) =>
        bif !r0 then
          ret (Bool.false)
        else
          bif Decidable.decide ((0 : Int) ≤ v4.getD v6.toNat (0 : Int)) then
            (impl_set_has (v3) (Go.IntKind.i64.wrap ((1 : Int) * (2 : Int) ^ Min.min (v4.getD v6.toNat (0 : Int)).toNat Go.IntKind.i64.bits))).bind fun (r1 : Bool) =>
            bif r1 then
              ret (Bool.false)
            else
              bif Decidable.decide ((0 : Int) ≤ v4.getD v6.toNat (0 : Int)) then
                lp3 (v0) (v1) (v2) (Go.IntKind.i64.wrap   (↑(BitVec.ofInt Go.IntKind.i64.bits v3 |||           BitVec.ofInt Go.IntKind.i64.bits             (Go.IntKind.i64.wrap               ((1 : Int) * (2 : Int) ^ Min.min (v4.getD v6.toNat (0 : Int)).toNat Go.IntKind.i64.bits))).toNat :     Int)) (v4) (v5) (Go.IntKind.i64.wrap (v6 + (1 : Int)))
              else
                none
          else
            none
      else
        none
    else
      none
  else
    ret ((↑v0.length : Int) == (↑v1.length : Int))
theorem impl_Stats_isOrder.k (v0 : List Int) (v1 : List (List Int)) (v2 : List Int) : topL E (callT E tab) 103 Try.f103 (impl_Stats_isOrder.c v0 v1 v2) = impl_Stats_isOrder.t (fun b => some (impl_Stats_isOrder.mk b)) impl_Stats_isOrder.q3 v0 v1 v2 := by kernel_rfl
theorem impl_Stats_isOrder.k3 (v0 : List Int) (v1 : List Int) (v2 : List (List Int)) (v3 : Int) (v4 : List Int) (v5 : Int) (v6 : Int) : roundL E (callT E tab) 103 Try.f103 2 [.r, .r, .l, .r, .b] (nn 1 (vc (.d .fro (.sl (.int .i64)) v0) :: ⟨(.box false), [.d .fro (.sl (.int .i64)) v1, .d .fro (.sl (.sl (.int .i64))) v2], false, false, false, 0, 0⟩ :: nn 2 (vc (iL v3) :: nn 2 (vc (.d .fro (.sl (.int .i64)) v4) :: vc (iL v5) :: vc (iL v6) :: nn 27 ([]))))) = impl_Stats_isOrder.t3 (fun b => some (impl_Stats_isOrder.mk b)) impl_Stats_isOrder.q3 v0 v1 v2 v3 v4 v5 v6 := by kernel_rfl
theorem impl_Stats_isOrder.s (v0 : List Int) (v1 : List (List Int)) (v2 : List Int) : Sub impl_Stats_isOrder.mk (impl_Stats_isOrder.t some impl_Stats_isOrder.l3 v0 v1 v2) (impl_Stats_isOrder.t (fun b => some (impl_Stats_isOrder.mk b)) impl_Stats_isOrder.q3 v0 v1 v2) := by
  unfold impl_Stats_isOrder.t
  repeat' first | exact Sub.ret | exact Sub.none | exact Sub.loop | apply Sub.cond | (apply Sub.bind; intro _)
theorem impl_Stats_isOrder.eq (v0 : List Int) (v1 : List (List Int)) (v2 : List Int) {b : Bool} (h : impl_Stats_isOrder.t some impl_Stats_isOrder.l3 v0 v1 v2 = some b) : impl_Stats_isOrder v0 v1 v2 = some b := tOf_intro impl_Stats_isOrder.un (fun _ => by kernel_rfl) (vlim_fn (callT_le E tab) rfl rfl rfl ((impl_Stats_isOrder.k v0 v1 v2).trans (impl_Stats_isOrder.s v0 v1 v2 b h)))
theorem impl_Stats_isOrder.s3 (v0 : List Int) (v1 : List Int) (v2 : List (List Int)) (v3 : Int) (v4 : List Int) (v5 : Int) (v6 : Int) : Sub impl_Stats_isOrder.mk (impl_Stats_isOrder.t3 some impl_Stats_isOrder.l3 v0 v1 v2 v3 v4 v5 v6) (impl_Stats_isOrder.t3 (fun b => some (impl_Stats_isOrder.mk b)) impl_Stats_isOrder.q3 v0 v1 v2 v3 v4 v5 v6) := by
  unfold impl_Stats_isOrder.t3
  repeat' first | exact Sub.ret | exact Sub.none | exact Sub.loop | apply Sub.cond | (apply Sub.bind; intro _)
theorem impl_Stats_isOrder.eq3 (v0 : List Int) (v1 : List Int) (v2 : List (List Int)) (v3 : Int) (v4 : List Int) (v5 : Int) (v6 : Int) {b : Bool} (h : impl_Stats_isOrder.t3 some impl_Stats_isOrder.l3 v0 v1 v2 v3 v4 v5 v6 = some b) : impl_Stats_isOrder.l3 v0 v1 v2 v3 v4 v5 v6 = some b := tOf_intro impl_Stats_isOrder.un (fun _ => by kernel_rfl) (loopAtL_step ((impl_Stats_isOrder.k3 v0 v1 v2 v3 v4 v5 v6).trans (impl_Stats_isOrder.s3 v0 v1 v2 v3 v4 v5 v6 b h)))
noncomputable def impl_set_has.t {γ : Type} (ret : (Bool) → Option γ) (v0 : Int) (v1 : Int) : Option γ :=
  ret (Go.IntKind.i64.wrap (↑(BitVec.ofInt Go.IntKind.i64.bits v0 &&& BitVec.ofInt Go.IntKind.i64.bits v1).toNat : Int) == v1)
theorem impl_set_has.k (v0 : Int) (v1 : Int) : topL E (callT E tab) 112 Try.f112 (impl_set_has.c v0 v1) = impl_set_has.t (fun b => some (impl_set_has.mk b)) v0 v1 := by kernel_rfl
theorem impl_set_has.s (v0 : Int) (v1 : Int) : Sub impl_set_has.mk (impl_set_has.t some v0 v1) (impl_set_has.t (fun b => some (impl_set_has.mk b)) v0 v1) := by
  unfold impl_set_has.t
  repeat' first | exact Sub.ret | exact Sub.none | exact Sub.loop | apply Sub.cond | (apply Sub.bind; intro _)
theorem impl_set_has.eq (v0 : Int) (v1 : Int) {b : Bool} (h : impl_set_has.t some v0 v1 = some b) : impl_set_has v0 v1 = some b := tOf_intro impl_set_has.un (fun _ => by kernel_rfl) (vlim_fn (callT_le E tab) rfl rfl rfl ((impl_set_has.k v0 v1).trans (impl_set_has.s v0 v1 b h)))
end GoV
